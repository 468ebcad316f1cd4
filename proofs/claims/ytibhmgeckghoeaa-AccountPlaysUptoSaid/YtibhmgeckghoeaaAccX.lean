/- Account: goesOn. (Printed by tools/gen_goeson.py.) -/
import Derived.Test.YtibhmgeckghoeaaAccW
namespace Go.Proofs.Ytibhmgeckghoeaa.Ac
open Go.RowKit Go.Shelf Go.Maps
open Go.Proofs.Ytibhmgeckghoeaa.Vb
attribute [local go_sem] Oper.semAt_some

/-- what an account told ahead of a step -/
def told (a : Acc) (x : Int) : Array Value := #[.int .i64 a.free, .int .i64 (sumM a.M), .int .i64 a.sp, .int .i64 a.bud, .int .i64 (atM a.M x)]
theorem bounds_of {a : Acc} (ho : a.Ok) (hf : a.Fine) (x : Int) : 0 ≤ a.free ∧ a.free ≤ 1099511627776 ∧ 0 ≤ sumM a.M ∧ sumM a.M ≤ 1099511627776 ∧ 0 ≤ a.sp ∧ a.sp ≤ 1099511627776 ∧ 0 ≤ a.bud ∧ a.bud ≤ 1099511627776 ∧ 0 ≤ atM a.M x ∧ atM a.M x ≤ 1099511627776 := by
  have h1 := at_bound ho.h x
  have h2 := ho.h.nn
  have h3 := ho.sum
  obtain ⟨h4, h5⟩ := ho.bud
  obtain ⟨h6, h7⟩ := ho.sp
  unfold Acc.Fine at hf
  unfold Acc.free
  omega

set_option maxRecDepth 100000 in
set_option maxHeartbeats 4000000 in
theorem goesOn_k1 {b m n : Nat} {a : Acc} {w : World} {who to lot coins : Int} (h : AccAt w b m n (a.bring coins)) (ho : a.Ok) (hf : a.Fine) (hs : int64b lot ∧ int64b coins) (ho2 : (a.bring coins).Ok) (hE : coin coins ∧ coin (a.bud + coins)) :
    Calls Try.prog 29 #[.pointer (some ⟨b, 0, none⟩), .agg #[.int .i64 1, .int .i64 who, .int .i64 to, .int .i64 lot, .int .i64 coins], .agg (told a lot), .int .i64 0] w fun e w' => e = .returned (.bool true) ∧ Below w.heap.size w w' := by
  obtain ⟨f1, f2, h1, h2, s1, s2, b1, b2, a1, a2⟩ := bounds_of ho hf lot
  have hc0 := (hE.1).1
  have hc1 := (hE.1).2
  have eBudget : (Fm.live (a.bring coins)).bud = a.bud + coins := rfl
  have eFree : (Fm.live (a.bring coins)).free = a.free + coins := by show (a.bud + coins) - a.sp - sumM a.M = _; unfold Acc.free; omega
  have eHeld : sumM (Fm.live (a.bring coins)).M = sumM a.M := rfl
  have eSpent : (Fm.live (a.bring coins)).sp = a.sp := rfl
  have HT := Lib.hid (show told a lot = #[.int .i64 a.free, .int .i64 (sumM a.M), .int .i64 a.sp, .int .i64 a.bud, .int .i64 (atM a.M lot)] from rfl)
  obtain ⟨fr, hfr⟩ : ∃ z, z = a.free := ⟨_, rfl⟩
  obtain ⟨he, hhe⟩ : ∃ z, z = sumM a.M := ⟨_, rfl⟩
  obtain ⟨sp, hsp⟩ : ∃ z, z = a.sp := ⟨_, rfl⟩
  obtain ⟨bd, hbd⟩ : ∃ z, z = a.bud := ⟨_, rfl⟩
  obtain ⟨at_, hat⟩ : ∃ z, z = atM a.M lot := ⟨_, rfl⟩
  rw [← hfr] at f1 f2
  rw [← hhe] at h1 h2
  rw [← hsp] at s1 s2
  rw [← hbd] at b1 b2
  rw [← hat] at a1 a2
  have HT2 := Lib.hid (show told a lot = #[.int .i64 fr, .int .i64 he, .int .i64 sp, .int .i64 bd, .int .i64 at_] from by rw [HT.out, hfr, hhe, hsp, hbd, hat])
  have EBudget := Lib.hid (show (Fm.live (a.bring coins)).bud = bd + coins from by rw [eBudget, hbd])
  have EFree := Lib.hid (show (Fm.live (a.bring coins)).free = fr + coins from by rw [eFree, hfr])
  have EHeld := Lib.hid (show sumM (Fm.live (a.bring coins)).M = he from by rw [eHeld, hhe])
  have ESpent := Lib.hid (show (Fm.live (a.bring coins)).sp = sp from by rw [eSpent, hsp])
  have w0 : IntKind.i64.wrap (bd + coins) = bd + coins := IntWalk.i64_in _ (by omega)
  have w1 : IntKind.i64.wrap (fr + coins) = fr + coins := IntWalk.i64_in _ (by omega)
  rw [HT2.out]
  obtain ⟨U, hU⟩ : ∃ U, U = (w.alloc (.cells #[.int .i64 1, .int .i64 who, .int .i64 to, .int .i64 lot, .int .i64 coins] 45)).alloc (.cells #[.int .i64 fr, .int .i64 he, .int .i64 sp, .int .i64 bd, .int .i64 at_] 60) := ⟨_, rfl⟩
  have hx : Blk U w.heap.size 45 #[.int .i64 1, .int .i64 who, .int .i64 to, .int .i64 lot, .int .i64 coins] := by rw [hU]; exact (Blk.new w _ _).alloc _
  have hy : Blk U (w.heap.size + 1) 60 #[.int .i64 fr, .int .i64 he, .int .i64 sp, .int .i64 bd, .int .i64 at_] := by rw [hU]; exact Blk.new' _ _ (by simp)
  have hB : Below w.heap.size w U := by rw [hU]; exact ((Below.refl _ _).alloc (Nat.le_refl _) _).alloc (by simp) _
  have c0 : U.cell? ⟨w.heap.size, 0, none⟩ = some (.int .i64 1) := hx.cell 0
  have c3 : U.cell? ⟨w.heap.size, 3, none⟩ = some (.int .i64 lot) := hx.cell 3
  have c4 : U.cell? ⟨w.heap.size, 4, none⟩ = some (.int .i64 coins) := hx.cell 4
  have y0 : U.cell? ⟨w.heap.size + 1, 0, none⟩ = some (.int .i64 fr) := hy.cell 0
  have y1 : U.cell? ⟨w.heap.size + 1, 1, none⟩ = some (.int .i64 he) := hy.cell 1
  have y2 : U.cell? ⟨w.heap.size + 1, 2, none⟩ = some (.int .i64 sp) := hy.cell 2
  have y3 : U.cell? ⟨w.heap.size + 1, 3, none⟩ = some (.int .i64 bd) := hy.cell 3
  have y4 : U.cell? ⟨w.heap.size + 1, 4, none⟩ = some (.int .i64 at_) := hy.cell 4
  have lx := hx.lt
  have HU := Lib.hid hU
  have HA := Lib.hid (show AtP U (.pointer (some ⟨b, 0, none⟩)) (.live (a.bring coins)) from ⟨b, m, n, rfl, h.grow hB⟩)
  have HB := Lib.hid hB
  have HO2 := Lib.hid (show (Fm.live (a.bring coins)).Ok from ho2)
  have HX := Lib.hid hs.1
  clear hU hx hy hB h ho hf hs ho2 hfr hhe hsp hbd hat f1 f2 h1 h2 s1 s2 b1 b2 a1 a2 eBudget eFree eHeld eSpent hc0 hc1 hE
  go_enter Try.func29, Try.ntmps29
  go_wp2_with fail
  rw [← HU.out]
  go_quiet (fail)
  go_wp2_with fail
  refine wp_region_F (Below U.heap.size U) [] (by kernel_rfl) ((below_drewN (Below.refl _ _) _).drew) (fun hS => ?_)
  refine wpAnyF_take (i := 0) (oi := { dst := some 28, op := Go.Op.move (Go.Operand.tmp 0), type := 23, pos := "law.go:212", after := #[], guard := none }) (v := ?_) rfl (by kernel_rfl) (by kernel_rfl) (by kernel_rfl) (by kernel_rfl) (fun _ _ _ h => h) (Or.inl ⟨by rfl, ?_⟩) hS ?_
  rotate_left
  · intro w' hSw; have q3 := (hSw.cell (p := ⟨w.heap.size, 3, none⟩) lx).trans c3; have q4 := (hSw.cell (p := ⟨w.heap.size, 4, none⟩) lx).trans c4; go_simp; try with_reducible rfl
  try simp only [Act.put, List.setIfInBounds_toArray, List.set_cons_zero, List.set_cons_succ]
  refine wpAnyF_take (i := 2) (oi := { dst := some 30, op := Go.Op.move (Go.Operand.tmp 12), type := 2, pos := "law.go:212", after := #[], guard := none }) (v := ?_) rfl (by kernel_rfl) (by kernel_rfl) (by kernel_rfl) (by kernel_rfl) (fun _ _ _ h => h) (Or.inl ⟨by rfl, ?_⟩) hS ?_
  rotate_left
  · intro w' hSw; have q3 := (hSw.cell (p := ⟨w.heap.size, 3, none⟩) lx).trans c3; have q4 := (hSw.cell (p := ⟨w.heap.size, 4, none⟩) lx).trans c4; go_simp; try with_reducible rfl
  try simp only [Act.put, List.setIfInBounds_toArray, List.set_cons_zero, List.set_cons_succ]
  refine wpAnyF_take (i := 3) (oi := { dst := some 31, op := Go.Op.fieldAddr 45 (Go.Operand.tmp 5) 4, type := 0, pos := "law.go:212", after := #[], guard := none }) (v := ?_) rfl (by kernel_rfl) (by kernel_rfl) (by kernel_rfl) (by kernel_rfl) (fun _ _ _ h => h) (Or.inl ⟨by rfl, ?_⟩) hS ?_
  rotate_left
  · intro w' hSw; have q3 := (hSw.cell (p := ⟨w.heap.size, 3, none⟩) lx).trans c3; have q4 := (hSw.cell (p := ⟨w.heap.size, 4, none⟩) lx).trans c4; go_simp; try with_reducible rfl
  try simp only [Act.put, List.setIfInBounds_toArray, List.set_cons_zero, List.set_cons_succ]
  refine wpAnyF_take (i := 4) (oi := { dst := some 32, op := Go.Op.load 2 (Go.Operand.tmp 31), type := 2, pos := "law.go:212", after := #[{ on := 3, ground := Go.Ground.data }], guard := none }) (v := ?_) rfl (by kernel_rfl) (by kernel_rfl) (by kernel_rfl) (by kernel_rfl) (fun _ _ _ h => h) (Or.inl ⟨by rfl, ?_⟩) hS ?_
  rotate_left
  · intro w' hSw; have q3 := (hSw.cell (p := ⟨w.heap.size, 3, none⟩) lx).trans c3; have q4 := (hSw.cell (p := ⟨w.heap.size, 4, none⟩) lx).trans c4; go_simp; try with_reducible rfl
  try simp only [Act.put, List.setIfInBounds_toArray, List.set_cons_zero, List.set_cons_succ]
  refine wpAnyF_take (i := 5) (oi := { dst := some 33, op := Go.Op.binOp Go.BinOp.add 2 (Go.Operand.tmp 30) (Go.Operand.tmp 32) 2, type := 2, pos := "law.go:212", after := #[{ on := 2, ground := Go.Ground.data }, { on := 4, ground := Go.Ground.data }], guard := none }) (v := ?_) rfl (by kernel_rfl) (by kernel_rfl) (by kernel_rfl) (by kernel_rfl) (fun _ _ _ h => h) (Or.inl ⟨by rfl, ?_⟩) hS ?_
  rotate_left
  · intro w' hSw; have q3 := (hSw.cell (p := ⟨w.heap.size, 3, none⟩) lx).trans c3; have q4 := (hSw.cell (p := ⟨w.heap.size, 4, none⟩) lx).trans c4; go_simp; try with_reducible rfl
  try simp only [Act.put, List.setIfInBounds_toArray, List.set_cons_zero, List.set_cons_succ]
  refine wpAnyF_ready (rs := [1]) (by kernel_rfl) (by simp) ?_
  refine AllReadyF.cons (o := { dst := some 29, op := Go.Op.call { callee := Go.Callee.value (Go.Operand.func 25), args := #[Go.Operand.tmp 28], argTypes := #[23] }, type := 2, pos := "law.go:212", after := #[{ on := 0, ground := Go.Ground.data }], guard := none }) rfl (by rfl) (fun K hK => ?_) ?_
  · go_simp
    refine (budget_any (HA.out.grow hS)).mono ?_
    rintro e w7 ⟨rfl, hw7⟩
    rw [hw7]
    clear hw7
    rw [EBudget.out]
    refine hK.out _ _ ?_ (fun hS => ?_)
    · exact hS
    clear hK K
    try simp only [Act.put, List.setIfInBounds_toArray, List.set_cons_zero, List.set_cons_succ]
    refine wpAnyF_take (i := 6) (oi := { dst := some 34, op := Go.Op.binOp Go.BinOp.eql 2 (Go.Operand.tmp 29) (Go.Operand.tmp 33) 2, type := 4, pos := "law.go:212", after := #[{ on := 1, ground := Go.Ground.data }, { on := 5, ground := Go.Ground.data }], guard := none }) (v := ?_) rfl (by kernel_rfl) (by kernel_rfl) (by kernel_rfl) (by kernel_rfl) (fun _ _ _ h => h) (Or.inl ⟨by rfl, ?_⟩) hS ?_
    rotate_left
    · intro w' hSw; have q3 := (hSw.cell (p := ⟨w.heap.size, 3, none⟩) lx).trans c3; have q4 := (hSw.cell (p := ⟨w.heap.size, 4, none⟩) lx).trans c4; go_simp; try with_reducible rfl
    try simp only [Act.put, List.setIfInBounds_toArray, List.set_cons_zero, List.set_cons_succ]
    refine wpAnyF_take (i := 7) (oi := { dst := some 35, op := Go.Op.move (Go.Operand.tmp 34), type := 4, pos := "law.go:212", after := #[{ on := 6, ground := Go.Ground.data }, { on := 1, ground := Go.Ground.chain }], guard := none }) (v := ?_) rfl (by kernel_rfl) (by kernel_rfl) (by kernel_rfl) (by kernel_rfl) (fun _ _ _ h => h) (Or.inl ⟨by rfl, ?_⟩) hS ?_
    rotate_left
    · intro w' hSw; have q3 := (hSw.cell (p := ⟨w.heap.size, 3, none⟩) lx).trans c3; have q4 := (hSw.cell (p := ⟨w.heap.size, 4, none⟩) lx).trans c4; go_simp; try with_reducible rfl
    try simp only [Act.put, List.setIfInBounds_toArray, List.set_cons_zero, List.set_cons_succ]
    refine wpAnyF_take (i := 8) (oi := { dst := some 36, op := Go.Op.move (Go.Operand.tmp 0), type := 23, pos := "law.go:212", after := #[{ on := 7, ground := Go.Ground.guard }], guard := some (7, true) }) (v := ?_) rfl (by kernel_rfl) (by kernel_rfl) (by kernel_rfl) (by kernel_rfl) (fun _ _ _ h => h) (Or.inl ⟨by rfl, ?_⟩) hS ?_
    rotate_left
    · intro w' hSw; have q3 := (hSw.cell (p := ⟨w.heap.size, 3, none⟩) lx).trans c3; have q4 := (hSw.cell (p := ⟨w.heap.size, 4, none⟩) lx).trans c4; go_simp; try with_reducible rfl
    try simp only [Act.put, List.setIfInBounds_toArray, List.set_cons_zero, List.set_cons_succ]
    refine wpAnyF_take (i := 10) (oi := { dst := some 38, op := Go.Op.move (Go.Operand.tmp 9), type := 2, pos := "law.go:212", after := #[{ on := 7, ground := Go.Ground.guard }], guard := some (7, true) }) (v := ?_) rfl (by kernel_rfl) (by kernel_rfl) (by kernel_rfl) (by kernel_rfl) (fun _ _ _ h => h) (Or.inl ⟨by rfl, ?_⟩) hS ?_
    rotate_left
    · intro w' hSw; have q3 := (hSw.cell (p := ⟨w.heap.size, 3, none⟩) lx).trans c3; have q4 := (hSw.cell (p := ⟨w.heap.size, 4, none⟩) lx).trans c4; go_simp; try with_reducible rfl
    try simp only [Act.put, List.setIfInBounds_toArray, List.set_cons_zero, List.set_cons_succ]
    refine wpAnyF_take (i := 11) (oi := { dst := some 39, op := Go.Op.fieldAddr 45 (Go.Operand.tmp 5) 4, type := 0, pos := "law.go:212", after := #[{ on := 7, ground := Go.Ground.guard }], guard := some (7, true) }) (v := ?_) rfl (by kernel_rfl) (by kernel_rfl) (by kernel_rfl) (by kernel_rfl) (fun _ _ _ h => h) (Or.inl ⟨by rfl, ?_⟩) hS ?_
    rotate_left
    · intro w' hSw; have q3 := (hSw.cell (p := ⟨w.heap.size, 3, none⟩) lx).trans c3; have q4 := (hSw.cell (p := ⟨w.heap.size, 4, none⟩) lx).trans c4; go_simp; try with_reducible rfl
    try simp only [Act.put, List.setIfInBounds_toArray, List.set_cons_zero, List.set_cons_succ]
    refine wpAnyF_take (i := 12) (oi := { dst := some 40, op := Go.Op.load 2 (Go.Operand.tmp 39), type := 2, pos := "law.go:212", after := #[{ on := 11, ground := Go.Ground.data }, { on := 7, ground := Go.Ground.guard }], guard := some (7, true) }) (v := ?_) rfl (by kernel_rfl) (by kernel_rfl) (by kernel_rfl) (by kernel_rfl) (fun _ _ _ h => h) (Or.inl ⟨by rfl, ?_⟩) hS ?_
    rotate_left
    · intro w' hSw; have q3 := (hSw.cell (p := ⟨w.heap.size, 3, none⟩) lx).trans c3; have q4 := (hSw.cell (p := ⟨w.heap.size, 4, none⟩) lx).trans c4; go_simp; try with_reducible rfl
    try simp only [Act.put, List.setIfInBounds_toArray, List.set_cons_zero, List.set_cons_succ]
    refine wpAnyF_take (i := 13) (oi := { dst := some 41, op := Go.Op.binOp Go.BinOp.add 2 (Go.Operand.tmp 38) (Go.Operand.tmp 40) 2, type := 2, pos := "law.go:212", after := #[{ on := 10, ground := Go.Ground.data }, { on := 12, ground := Go.Ground.data }, { on := 7, ground := Go.Ground.guard }], guard := some (7, true) }) (v := ?_) rfl (by kernel_rfl) (by kernel_rfl) (by kernel_rfl) (by kernel_rfl) (fun _ _ _ h => h) (Or.inl ⟨by rfl, ?_⟩) hS ?_
    rotate_left
    · intro w' hSw; have q3 := (hSw.cell (p := ⟨w.heap.size, 3, none⟩) lx).trans c3; have q4 := (hSw.cell (p := ⟨w.heap.size, 4, none⟩) lx).trans c4; go_simp; try with_reducible rfl
    try simp only [Act.put, List.setIfInBounds_toArray, List.set_cons_zero, List.set_cons_succ]
    refine wpAnyF_ready (rs := [9]) (by kernel_rfl) (by simp) ?_
    refine AllReadyF.cons (o := { dst := some 37, op := Go.Op.call { callee := Go.Callee.value (Go.Operand.func 22), args := #[Go.Operand.tmp 36], argTypes := #[23] }, type := 2, pos := "law.go:212", after := #[{ on := 8, ground := Go.Ground.data }, { on := 7, ground := Go.Ground.chain }, { on := 7, ground := Go.Ground.guard }], guard := some (7, true) }) rfl (by rfl) (fun K hK => ?_) ?_
    · go_simp
      refine (free_any (HA.out.grow hS) HO2.out).mono ?_
      rintro e w7 ⟨rfl, hb7⟩
      rw [EFree.out]
      refine hK.out _ _ ?_ (fun hS => ?_)
      · exact hS.trans (hb7.mono hS.size)
      clear hK K
      try simp only [Act.put, List.setIfInBounds_toArray, List.set_cons_zero, List.set_cons_succ]
      clear hb7
      refine wpAnyF_take (i := 14) (oi := { dst := some 42, op := Go.Op.binOp Go.BinOp.eql 2 (Go.Operand.tmp 37) (Go.Operand.tmp 41) 2, type := 4, pos := "law.go:212", after := #[{ on := 9, ground := Go.Ground.data }, { on := 13, ground := Go.Ground.data }, { on := 7, ground := Go.Ground.guard }], guard := some (7, true) }) (v := ?_) rfl (by kernel_rfl) (by kernel_rfl) (by kernel_rfl) (by kernel_rfl) (fun _ _ _ h => h) (Or.inl ⟨by rfl, ?_⟩) hS ?_
      rotate_left
      · intro w' hSw; have q3 := (hSw.cell (p := ⟨w.heap.size, 3, none⟩) lx).trans c3; have q4 := (hSw.cell (p := ⟨w.heap.size, 4, none⟩) lx).trans c4; go_simp; try with_reducible rfl
      try simp only [Act.put, List.setIfInBounds_toArray, List.set_cons_zero, List.set_cons_succ]
      refine wpAnyF_take (i := 15) (oi := { dst := some 43, op := Go.Op.pick (Go.Operand.tmp 35) (Go.Operand.tmp 42) (Go.Operand.const (Go.Value.bool false)), type := 4, pos := "law.go:212", after := #[{ on := 7, ground := Go.Ground.data }, { on := 14, ground := Go.Ground.data }], guard := none }) (v := ?_) rfl (by kernel_rfl) (by kernel_rfl) (by kernel_rfl) (by kernel_rfl) (fun _ _ _ h => h) (Or.inl ⟨by rfl, ?_⟩) hS ?_
      rotate_left
      · intro w' hSw; have q3 := (hSw.cell (p := ⟨w.heap.size, 3, none⟩) lx).trans c3; have q4 := (hSw.cell (p := ⟨w.heap.size, 4, none⟩) lx).trans c4; go_simp; try with_reducible rfl
      try simp only [Act.put, List.setIfInBounds_toArray, List.set_cons_zero, List.set_cons_succ]
      refine wpAnyF_take (i := 16) (oi := { dst := some 44, op := Go.Op.move (Go.Operand.tmp 43), type := 4, pos := "law.go:212", after := #[{ on := 15, ground := Go.Ground.data }, { on := 9, ground := Go.Ground.chain }], guard := none }) (v := ?_) rfl (by kernel_rfl) (by kernel_rfl) (by kernel_rfl) (by kernel_rfl) (fun _ _ _ h => h) (Or.inl ⟨by rfl, ?_⟩) hS ?_
      rotate_left
      · intro w' hSw; have q3 := (hSw.cell (p := ⟨w.heap.size, 3, none⟩) lx).trans c3; have q4 := (hSw.cell (p := ⟨w.heap.size, 4, none⟩) lx).trans c4; go_simp; try with_reducible rfl
      try simp only [Act.put, List.setIfInBounds_toArray, List.set_cons_zero, List.set_cons_succ]
      refine wpAnyF_take (i := 17) (oi := { dst := some 45, op := Go.Op.move (Go.Operand.tmp 0), type := 23, pos := "law.go:212", after := #[{ on := 16, ground := Go.Ground.guard }], guard := some (16, true) }) (v := ?_) rfl (by kernel_rfl) (by kernel_rfl) (by kernel_rfl) (by kernel_rfl) (fun _ _ _ h => h) (Or.inl ⟨by rfl, ?_⟩) hS ?_
      rotate_left
      · intro w' hSw; have q3 := (hSw.cell (p := ⟨w.heap.size, 3, none⟩) lx).trans c3; have q4 := (hSw.cell (p := ⟨w.heap.size, 4, none⟩) lx).trans c4; go_simp; try with_reducible rfl
      try simp only [Act.put, List.setIfInBounds_toArray, List.set_cons_zero, List.set_cons_succ]
      refine wpAnyF_take (i := 19) (oi := { dst := some 47, op := Go.Op.move (Go.Operand.tmp 10), type := 2, pos := "law.go:212", after := #[{ on := 16, ground := Go.Ground.guard }], guard := some (16, true) }) (v := ?_) rfl (by kernel_rfl) (by kernel_rfl) (by kernel_rfl) (by kernel_rfl) (fun _ _ _ h => h) (Or.inl ⟨by rfl, ?_⟩) hS ?_
      rotate_left
      · intro w' hSw; have q3 := (hSw.cell (p := ⟨w.heap.size, 3, none⟩) lx).trans c3; have q4 := (hSw.cell (p := ⟨w.heap.size, 4, none⟩) lx).trans c4; go_simp; try with_reducible rfl
      try simp only [Act.put, List.setIfInBounds_toArray, List.set_cons_zero, List.set_cons_succ]
      refine wpAnyF_ready (rs := [18]) (by kernel_rfl) (by simp) ?_
      refine AllReadyF.cons (o := { dst := some 46, op := Go.Op.call { callee := Go.Callee.value (Go.Operand.func 23), args := #[Go.Operand.tmp 45], argTypes := #[23] }, type := 2, pos := "law.go:212", after := #[{ on := 17, ground := Go.Ground.data }, { on := 16, ground := Go.Ground.chain }, { on := 16, ground := Go.Ground.guard }], guard := some (16, true) }) rfl (by rfl) (fun K hK => ?_) ?_
      · go_simp
        refine (held_any (HA.out.grow hS) HO2.out).mono ?_
        rintro e w7 ⟨rfl, hb7⟩
        rw [EHeld.out]
        refine hK.out _ _ ?_ (fun hS => ?_)
        · exact hS.trans (hb7.mono hS.size)
        clear hK K
        try simp only [Act.put, List.setIfInBounds_toArray, List.set_cons_zero, List.set_cons_succ]
        clear hb7
        refine wpAnyF_take (i := 20) (oi := { dst := some 48, op := Go.Op.binOp Go.BinOp.eql 2 (Go.Operand.tmp 46) (Go.Operand.tmp 47) 2, type := 4, pos := "law.go:212", after := #[{ on := 18, ground := Go.Ground.data }, { on := 19, ground := Go.Ground.data }, { on := 16, ground := Go.Ground.guard }], guard := some (16, true) }) (v := ?_) rfl (by kernel_rfl) (by kernel_rfl) (by kernel_rfl) (by kernel_rfl) (fun _ _ _ h => h) (Or.inl ⟨by rfl, ?_⟩) hS ?_
        rotate_left
        · intro w' hSw; have q3 := (hSw.cell (p := ⟨w.heap.size, 3, none⟩) lx).trans c3; have q4 := (hSw.cell (p := ⟨w.heap.size, 4, none⟩) lx).trans c4; go_simp; try with_reducible rfl
        try simp only [Act.put, List.setIfInBounds_toArray, List.set_cons_zero, List.set_cons_succ]
        refine wpAnyF_take (i := 21) (oi := { dst := some 49, op := Go.Op.pick (Go.Operand.tmp 44) (Go.Operand.tmp 48) (Go.Operand.const (Go.Value.bool false)), type := 4, pos := "law.go:212", after := #[{ on := 16, ground := Go.Ground.data }, { on := 20, ground := Go.Ground.data }], guard := none }) (v := ?_) rfl (by kernel_rfl) (by kernel_rfl) (by kernel_rfl) (by kernel_rfl) (fun _ _ _ h => h) (Or.inl ⟨by rfl, ?_⟩) hS ?_
        rotate_left
        · intro w' hSw; have q3 := (hSw.cell (p := ⟨w.heap.size, 3, none⟩) lx).trans c3; have q4 := (hSw.cell (p := ⟨w.heap.size, 4, none⟩) lx).trans c4; go_simp; try with_reducible rfl
        try simp only [Act.put, List.setIfInBounds_toArray, List.set_cons_zero, List.set_cons_succ]
        refine wpAnyF_take (i := 22) (oi := { dst := some 50, op := Go.Op.move (Go.Operand.tmp 49), type := 4, pos := "law.go:212", after := #[{ on := 21, ground := Go.Ground.data }, { on := 18, ground := Go.Ground.chain }], guard := none }) (v := ?_) rfl (by kernel_rfl) (by kernel_rfl) (by kernel_rfl) (by kernel_rfl) (fun _ _ _ h => h) (Or.inl ⟨by rfl, ?_⟩) hS ?_
        rotate_left
        · intro w' hSw; have q3 := (hSw.cell (p := ⟨w.heap.size, 3, none⟩) lx).trans c3; have q4 := (hSw.cell (p := ⟨w.heap.size, 4, none⟩) lx).trans c4; go_simp; try with_reducible rfl
        try simp only [Act.put, List.setIfInBounds_toArray, List.set_cons_zero, List.set_cons_succ]
        refine wpAnyF_take (i := 23) (oi := { dst := some 51, op := Go.Op.move (Go.Operand.tmp 0), type := 23, pos := "law.go:212", after := #[{ on := 22, ground := Go.Ground.guard }], guard := some (22, true) }) (v := ?_) rfl (by kernel_rfl) (by kernel_rfl) (by kernel_rfl) (by kernel_rfl) (fun _ _ _ h => h) (Or.inl ⟨by rfl, ?_⟩) hS ?_
        rotate_left
        · intro w' hSw; have q3 := (hSw.cell (p := ⟨w.heap.size, 3, none⟩) lx).trans c3; have q4 := (hSw.cell (p := ⟨w.heap.size, 4, none⟩) lx).trans c4; go_simp; try with_reducible rfl
        try simp only [Act.put, List.setIfInBounds_toArray, List.set_cons_zero, List.set_cons_succ]
        refine wpAnyF_take (i := 25) (oi := { dst := some 53, op := Go.Op.move (Go.Operand.tmp 11), type := 2, pos := "law.go:212", after := #[{ on := 22, ground := Go.Ground.guard }], guard := some (22, true) }) (v := ?_) rfl (by kernel_rfl) (by kernel_rfl) (by kernel_rfl) (by kernel_rfl) (fun _ _ _ h => h) (Or.inl ⟨by rfl, ?_⟩) hS ?_
        rotate_left
        · intro w' hSw; have q3 := (hSw.cell (p := ⟨w.heap.size, 3, none⟩) lx).trans c3; have q4 := (hSw.cell (p := ⟨w.heap.size, 4, none⟩) lx).trans c4; go_simp; try with_reducible rfl
        try simp only [Act.put, List.setIfInBounds_toArray, List.set_cons_zero, List.set_cons_succ]
        refine wpAnyF_ready (rs := [24]) (by kernel_rfl) (by simp) ?_
        refine AllReadyF.cons (o := { dst := some 52, op := Go.Op.call { callee := Go.Callee.value (Go.Operand.func 24), args := #[Go.Operand.tmp 51], argTypes := #[23] }, type := 2, pos := "law.go:212", after := #[{ on := 23, ground := Go.Ground.data }, { on := 22, ground := Go.Ground.chain }, { on := 22, ground := Go.Ground.guard }], guard := some (22, true) }) rfl (by rfl) (fun K hK => ?_) ?_
        · go_simp
          refine (spent_any (HA.out.grow hS)).mono ?_
          rintro e w7 ⟨rfl, hw7⟩
          rw [hw7]
          clear hw7
          rw [ESpent.out]
          refine hK.out _ _ ?_ (fun hS => ?_)
          · exact hS
          clear hK K
          try simp only [Act.put, List.setIfInBounds_toArray, List.set_cons_zero, List.set_cons_succ]
          refine wpAnyF_take (i := 26) (oi := { dst := some 54, op := Go.Op.binOp Go.BinOp.eql 2 (Go.Operand.tmp 52) (Go.Operand.tmp 53) 2, type := 4, pos := "law.go:212", after := #[{ on := 24, ground := Go.Ground.data }, { on := 25, ground := Go.Ground.data }, { on := 22, ground := Go.Ground.guard }], guard := some (22, true) }) (v := ?_) rfl (by kernel_rfl) (by kernel_rfl) (by kernel_rfl) (by kernel_rfl) (fun _ _ _ h => h) (Or.inl ⟨by rfl, ?_⟩) hS ?_
          rotate_left
          · intro w' hSw; have q3 := (hSw.cell (p := ⟨w.heap.size, 3, none⟩) lx).trans c3; have q4 := (hSw.cell (p := ⟨w.heap.size, 4, none⟩) lx).trans c4; go_simp; try with_reducible rfl
          try simp only [Act.put, List.setIfInBounds_toArray, List.set_cons_zero, List.set_cons_succ]
          refine wpAnyF_take (i := 27) (oi := { dst := some 55, op := Go.Op.pick (Go.Operand.tmp 50) (Go.Operand.tmp 54) (Go.Operand.const (Go.Value.bool false)), type := 4, pos := "law.go:212", after := #[{ on := 22, ground := Go.Ground.data }, { on := 26, ground := Go.Ground.data }], guard := none }) (v := ?_) rfl (by kernel_rfl) (by kernel_rfl) (by kernel_rfl) (by kernel_rfl) (fun _ _ _ h => h) (Or.inl ⟨by rfl, ?_⟩) hS ?_
          rotate_left
          · intro w' hSw; have q3 := (hSw.cell (p := ⟨w.heap.size, 3, none⟩) lx).trans c3; have q4 := (hSw.cell (p := ⟨w.heap.size, 4, none⟩) lx).trans c4; go_simp; try with_reducible rfl
          try simp only [Act.put, List.setIfInBounds_toArray, List.set_cons_zero, List.set_cons_succ]
          refine wpAnyF_take (i := 28) (oi := { dst := some 8, op := Go.Op.assign (Go.Operand.tmp 55), type := 4, pos := "law.go:212", after := #[{ on := 27, ground := Go.Ground.data }, { on := 24, ground := Go.Ground.chain }, { on := 0, ground := Go.Ground.phase }, { on := 1, ground := Go.Ground.phase }, { on := 2, ground := Go.Ground.phase }, { on := 3, ground := Go.Ground.phase }, { on := 4, ground := Go.Ground.phase }, { on := 5, ground := Go.Ground.phase }, { on := 6, ground := Go.Ground.phase }, { on := 7, ground := Go.Ground.phase }, { on := 8, ground := Go.Ground.phase }, { on := 9, ground := Go.Ground.phase }, { on := 10, ground := Go.Ground.phase }, { on := 11, ground := Go.Ground.phase }, { on := 12, ground := Go.Ground.phase }, { on := 13, ground := Go.Ground.phase }, { on := 14, ground := Go.Ground.phase }, { on := 15, ground := Go.Ground.phase }, { on := 16, ground := Go.Ground.phase }, { on := 17, ground := Go.Ground.phase }, { on := 18, ground := Go.Ground.phase }, { on := 19, ground := Go.Ground.phase }, { on := 20, ground := Go.Ground.phase }, { on := 21, ground := Go.Ground.phase }, { on := 22, ground := Go.Ground.phase }, { on := 23, ground := Go.Ground.phase }, { on := 24, ground := Go.Ground.phase }, { on := 25, ground := Go.Ground.phase }, { on := 26, ground := Go.Ground.phase }, { on := 27, ground := Go.Ground.phase }], guard := none }) (v := ?_) rfl (by kernel_rfl) (by kernel_rfl) (by kernel_rfl) (by kernel_rfl) (fun _ _ _ h => h) (Or.inl ⟨by rfl, ?_⟩) hS ?_
          rotate_left
          · intro w' hSw; have q3 := (hSw.cell (p := ⟨w.heap.size, 3, none⟩) lx).trans c3; have q4 := (hSw.cell (p := ⟨w.heap.size, 4, none⟩) lx).trans c4; go_simp; try with_reducible rfl
          try simp only [Act.put, List.setIfInBounds_toArray, List.set_cons_zero, List.set_cons_succ]
          refine wpAnyF_done (by kernel_rfl) ?_ _
          go_wp2_with fail
          go_ret
          exact ⟨rfl, HB.out.trans (hS.mono HB.out.size)⟩
        exact AllReadyF.nil
      exact AllReadyF.nil
    exact AllReadyF.nil
  exact AllReadyF.nil

set_option maxRecDepth 100000 in
set_option maxHeartbeats 4000000 in
theorem goesOn_k2 {b m n : Nat} {a : Acc} {w : World} {who to lot coins : Int} (h : AccAt w b m n (a.set lot coins)) (ho : a.Ok) (hf : a.Fine) (hs : int64b lot ∧ int64b coins) (ho2 : (a.set lot coins).Ok) (hE : 0 ≤ lot ∧ coin coins ∧ coins ≤ a.bud - a.sp - sumM a.M + atM a.M lot) :
    Calls Try.prog 29 #[.pointer (some ⟨b, 0, none⟩), .agg #[.int .i64 2, .int .i64 who, .int .i64 to, .int .i64 lot, .int .i64 coins], .agg (told a lot), .int .i64 0] w fun e w' => e = .returned (.bool true) ∧ Below w.heap.size w w' := by
  obtain ⟨f1, f2, h1, h2, s1, s2, b1, b2, a1, a2⟩ := bounds_of ho hf lot
  have hc0 := (hE.2.1).1
  have hc1 := (hE.2.1).2
  have hset := sum_set lot coins ho.rise
  have eAt : atM (Fm.live (a.set lot coins)).M lot = coins := at_set_same a.M lot coins
  have eBudget : (Fm.live (a.set lot coins)).bud = a.bud := rfl
  have eFree : (Fm.live (a.set lot coins)).free = a.free + atM a.M lot - coins := by show a.bud - a.sp - sumM (setM a.M lot coins) = _; unfold Acc.free; omega
  have eHeld : sumM (Fm.live (a.set lot coins)).M = sumM a.M - atM a.M lot + coins := by show sumM (setM a.M lot coins) = _; omega
  have eSpent : (Fm.live (a.set lot coins)).sp = a.sp := rfl
  have HT := Lib.hid (show told a lot = #[.int .i64 a.free, .int .i64 (sumM a.M), .int .i64 a.sp, .int .i64 a.bud, .int .i64 (atM a.M lot)] from rfl)
  obtain ⟨fr, hfr⟩ : ∃ z, z = a.free := ⟨_, rfl⟩
  obtain ⟨he, hhe⟩ : ∃ z, z = sumM a.M := ⟨_, rfl⟩
  obtain ⟨sp, hsp⟩ : ∃ z, z = a.sp := ⟨_, rfl⟩
  obtain ⟨bd, hbd⟩ : ∃ z, z = a.bud := ⟨_, rfl⟩
  obtain ⟨at_, hat⟩ : ∃ z, z = atM a.M lot := ⟨_, rfl⟩
  rw [← hfr] at f1 f2
  rw [← hhe] at h1 h2
  rw [← hsp] at s1 s2
  rw [← hbd] at b1 b2
  rw [← hat] at a1 a2
  have HT2 := Lib.hid (show told a lot = #[.int .i64 fr, .int .i64 he, .int .i64 sp, .int .i64 bd, .int .i64 at_] from by rw [HT.out, hfr, hhe, hsp, hbd, hat])
  have EAt := Lib.hid (show atM (Fm.live (a.set lot coins)).M lot = coins from by rw [eAt])
  have EBudget := Lib.hid (show (Fm.live (a.set lot coins)).bud = bd from by rw [eBudget, hbd])
  have EFree := Lib.hid (show (Fm.live (a.set lot coins)).free = fr + at_ - coins from by rw [eFree, hfr, hat])
  have EHeld := Lib.hid (show sumM (Fm.live (a.set lot coins)).M = he - at_ + coins from by rw [eHeld, hhe, hat])
  have ESpent := Lib.hid (show (Fm.live (a.set lot coins)).sp = sp from by rw [eSpent, hsp])
  have hb3 : coins ≤ fr + at_ ∧ at_ ≤ he := ⟨by have := hE.2.2; rw [hfr, hat]; unfold Acc.free; omega, by rw [hat, hhe]; exact (at_bound ho.h lot).2⟩
  have w0 : IntKind.i64.wrap (he - at_) = he - at_ := IntWalk.i64_in _ (by omega)
  have w1 : IntKind.i64.wrap (he - at_ + coins) = he - at_ + coins := IntWalk.i64_in _ (by omega)
  have w2 : IntKind.i64.wrap (fr + at_) = fr + at_ := IntWalk.i64_in _ (by omega)
  have w3 : IntKind.i64.wrap (fr + at_ - coins) = fr + at_ - coins := IntWalk.i64_in _ (by omega)
  rw [HT2.out]
  obtain ⟨U, hU⟩ : ∃ U, U = (w.alloc (.cells #[.int .i64 2, .int .i64 who, .int .i64 to, .int .i64 lot, .int .i64 coins] 45)).alloc (.cells #[.int .i64 fr, .int .i64 he, .int .i64 sp, .int .i64 bd, .int .i64 at_] 60) := ⟨_, rfl⟩
  have hx : Blk U w.heap.size 45 #[.int .i64 2, .int .i64 who, .int .i64 to, .int .i64 lot, .int .i64 coins] := by rw [hU]; exact (Blk.new w _ _).alloc _
  have hy : Blk U (w.heap.size + 1) 60 #[.int .i64 fr, .int .i64 he, .int .i64 sp, .int .i64 bd, .int .i64 at_] := by rw [hU]; exact Blk.new' _ _ (by simp)
  have hB : Below w.heap.size w U := by rw [hU]; exact ((Below.refl _ _).alloc (Nat.le_refl _) _).alloc (by simp) _
  have c0 : U.cell? ⟨w.heap.size, 0, none⟩ = some (.int .i64 2) := hx.cell 0
  have c3 : U.cell? ⟨w.heap.size, 3, none⟩ = some (.int .i64 lot) := hx.cell 3
  have c4 : U.cell? ⟨w.heap.size, 4, none⟩ = some (.int .i64 coins) := hx.cell 4
  have y0 : U.cell? ⟨w.heap.size + 1, 0, none⟩ = some (.int .i64 fr) := hy.cell 0
  have y1 : U.cell? ⟨w.heap.size + 1, 1, none⟩ = some (.int .i64 he) := hy.cell 1
  have y2 : U.cell? ⟨w.heap.size + 1, 2, none⟩ = some (.int .i64 sp) := hy.cell 2
  have y3 : U.cell? ⟨w.heap.size + 1, 3, none⟩ = some (.int .i64 bd) := hy.cell 3
  have y4 : U.cell? ⟨w.heap.size + 1, 4, none⟩ = some (.int .i64 at_) := hy.cell 4
  have lx := hx.lt
  have HU := Lib.hid hU
  have HA := Lib.hid (show AtP U (.pointer (some ⟨b, 0, none⟩)) (.live (a.set lot coins)) from ⟨b, m, n, rfl, h.grow hB⟩)
  have HB := Lib.hid hB
  have HO2 := Lib.hid (show (Fm.live (a.set lot coins)).Ok from ho2)
  have HX := Lib.hid hs.1
  clear hU hx hy hB h ho hf hs ho2 hfr hhe hsp hbd hat f1 f2 h1 h2 s1 s2 b1 b2 a1 a2 eAt eBudget eFree eHeld eSpent hc0 hc1 hset hb3 hE
  go_enter Try.func29, Try.ntmps29
  go_wp2_with fail
  rw [← HU.out]
  go_quiet (fail)
  go_wp2_with fail
  refine wp_region_F (Below U.heap.size U) [] (by kernel_rfl) ((below_drewN (Below.refl _ _) _).drew) (fun hS => ?_)
  refine wpAnyF_take (i := 0) (oi := { dst := some 58, op := Go.Op.move (Go.Operand.tmp 0), type := 23, pos := "law.go:214", after := #[], guard := none }) (v := ?_) rfl (by kernel_rfl) (by kernel_rfl) (by kernel_rfl) (by kernel_rfl) (fun _ _ _ h => h) (Or.inl ⟨by rfl, ?_⟩) hS ?_
  rotate_left
  · intro w' hSw; have q3 := (hSw.cell (p := ⟨w.heap.size, 3, none⟩) lx).trans c3; have q4 := (hSw.cell (p := ⟨w.heap.size, 4, none⟩) lx).trans c4; go_simp; try with_reducible rfl
  try simp only [Act.put, List.setIfInBounds_toArray, List.set_cons_zero, List.set_cons_succ]
  refine wpAnyF_take (i := 1) (oi := { dst := some 59, op := Go.Op.fieldAddr 45 (Go.Operand.tmp 5) 3, type := 0, pos := "law.go:214", after := #[], guard := none }) (v := ?_) rfl (by kernel_rfl) (by kernel_rfl) (by kernel_rfl) (by kernel_rfl) (fun _ _ _ h => h) (Or.inl ⟨by rfl, ?_⟩) hS ?_
  rotate_left
  · intro w' hSw; have q3 := (hSw.cell (p := ⟨w.heap.size, 3, none⟩) lx).trans c3; have q4 := (hSw.cell (p := ⟨w.heap.size, 4, none⟩) lx).trans c4; go_simp; try with_reducible rfl
  try simp only [Act.put, List.setIfInBounds_toArray, List.set_cons_zero, List.set_cons_succ]
  refine wpAnyF_take (i := 2) (oi := { dst := some 60, op := Go.Op.load 3 (Go.Operand.tmp 59), type := 3, pos := "law.go:214", after := #[{ on := 1, ground := Go.Ground.data }], guard := none }) (v := ?_) rfl (by kernel_rfl) (by kernel_rfl) (by kernel_rfl) (by kernel_rfl) (fun _ _ _ h => h) (Or.inl ⟨by rfl, ?_⟩) hS ?_
  rotate_left
  · intro w' hSw; have q3 := (hSw.cell (p := ⟨w.heap.size, 3, none⟩) lx).trans c3; have q4 := (hSw.cell (p := ⟨w.heap.size, 4, none⟩) lx).trans c4; go_simp; try with_reducible rfl
  try simp only [Act.put, List.setIfInBounds_toArray, List.set_cons_zero, List.set_cons_succ]
  refine wpAnyF_take (i := 4) (oi := { dst := some 62, op := Go.Op.fieldAddr 45 (Go.Operand.tmp 5) 4, type := 0, pos := "law.go:214", after := #[], guard := none }) (v := ?_) rfl (by kernel_rfl) (by kernel_rfl) (by kernel_rfl) (by kernel_rfl) (fun _ _ _ h => h) (Or.inl ⟨by rfl, ?_⟩) hS ?_
  rotate_left
  · intro w' hSw; have q3 := (hSw.cell (p := ⟨w.heap.size, 3, none⟩) lx).trans c3; have q4 := (hSw.cell (p := ⟨w.heap.size, 4, none⟩) lx).trans c4; go_simp; try with_reducible rfl
  try simp only [Act.put, List.setIfInBounds_toArray, List.set_cons_zero, List.set_cons_succ]
  refine wpAnyF_take (i := 5) (oi := { dst := some 63, op := Go.Op.load 2 (Go.Operand.tmp 62), type := 2, pos := "law.go:214", after := #[{ on := 4, ground := Go.Ground.data }], guard := none }) (v := ?_) rfl (by kernel_rfl) (by kernel_rfl) (by kernel_rfl) (by kernel_rfl) (fun _ _ _ h => h) (Or.inl ⟨by rfl, ?_⟩) hS ?_
  rotate_left
  · intro w' hSw; have q3 := (hSw.cell (p := ⟨w.heap.size, 3, none⟩) lx).trans c3; have q4 := (hSw.cell (p := ⟨w.heap.size, 4, none⟩) lx).trans c4; go_simp; try with_reducible rfl
  try simp only [Act.put, List.setIfInBounds_toArray, List.set_cons_zero, List.set_cons_succ]
  refine wpAnyF_ready (rs := [3]) (by kernel_rfl) (by simp) ?_
  refine AllReadyF.cons (o := { dst := some 61, op := Go.Op.call { callee := Go.Callee.value (Go.Operand.func 26), args := #[Go.Operand.tmp 58, Go.Operand.tmp 60], argTypes := #[23, 3] }, type := 2, pos := "law.go:214", after := #[{ on := 0, ground := Go.Ground.data }, { on := 2, ground := Go.Ground.data }], guard := none }) rfl (by rfl) (fun K hK => ?_) ?_
  · go_simp
    refine (at_any (HA.out.grow hS) HX.out).mono ?_
    rintro e w7 ⟨rfl, hw7⟩
    rw [hw7]
    clear hw7
    rw [EAt.out]
    refine hK.out _ _ ?_ (fun hS => ?_)
    · exact hS
    clear hK K
    try simp only [Act.put, List.setIfInBounds_toArray, List.set_cons_zero, List.set_cons_succ]
    refine wpAnyF_take (i := 6) (oi := { dst := some 64, op := Go.Op.binOp Go.BinOp.eql 2 (Go.Operand.tmp 61) (Go.Operand.tmp 63) 2, type := 4, pos := "law.go:214", after := #[{ on := 3, ground := Go.Ground.data }, { on := 5, ground := Go.Ground.data }], guard := none }) (v := ?_) rfl (by kernel_rfl) (by kernel_rfl) (by kernel_rfl) (by kernel_rfl) (fun _ _ _ h => h) (Or.inl ⟨by rfl, ?_⟩) hS ?_
    rotate_left
    · intro w' hSw; have q3 := (hSw.cell (p := ⟨w.heap.size, 3, none⟩) lx).trans c3; have q4 := (hSw.cell (p := ⟨w.heap.size, 4, none⟩) lx).trans c4; go_simp; try with_reducible rfl
    try simp only [Act.put, List.setIfInBounds_toArray, List.set_cons_zero, List.set_cons_succ]
    refine wpAnyF_take (i := 7) (oi := { dst := some 65, op := Go.Op.move (Go.Operand.tmp 64), type := 4, pos := "law.go:214", after := #[{ on := 6, ground := Go.Ground.data }, { on := 3, ground := Go.Ground.chain }], guard := none }) (v := ?_) rfl (by kernel_rfl) (by kernel_rfl) (by kernel_rfl) (by kernel_rfl) (fun _ _ _ h => h) (Or.inl ⟨by rfl, ?_⟩) hS ?_
    rotate_left
    · intro w' hSw; have q3 := (hSw.cell (p := ⟨w.heap.size, 3, none⟩) lx).trans c3; have q4 := (hSw.cell (p := ⟨w.heap.size, 4, none⟩) lx).trans c4; go_simp; try with_reducible rfl
    try simp only [Act.put, List.setIfInBounds_toArray, List.set_cons_zero, List.set_cons_succ]
    refine wpAnyF_take (i := 8) (oi := { dst := some 66, op := Go.Op.move (Go.Operand.tmp 0), type := 23, pos := "law.go:214", after := #[{ on := 7, ground := Go.Ground.guard }], guard := some (7, true) }) (v := ?_) rfl (by kernel_rfl) (by kernel_rfl) (by kernel_rfl) (by kernel_rfl) (fun _ _ _ h => h) (Or.inl ⟨by rfl, ?_⟩) hS ?_
    rotate_left
    · intro w' hSw; have q3 := (hSw.cell (p := ⟨w.heap.size, 3, none⟩) lx).trans c3; have q4 := (hSw.cell (p := ⟨w.heap.size, 4, none⟩) lx).trans c4; go_simp; try with_reducible rfl
    try simp only [Act.put, List.setIfInBounds_toArray, List.set_cons_zero, List.set_cons_succ]
    refine wpAnyF_take (i := 10) (oi := { dst := some 68, op := Go.Op.move (Go.Operand.tmp 10), type := 2, pos := "law.go:214", after := #[{ on := 7, ground := Go.Ground.guard }], guard := some (7, true) }) (v := ?_) rfl (by kernel_rfl) (by kernel_rfl) (by kernel_rfl) (by kernel_rfl) (fun _ _ _ h => h) (Or.inl ⟨by rfl, ?_⟩) hS ?_
    rotate_left
    · intro w' hSw; have q3 := (hSw.cell (p := ⟨w.heap.size, 3, none⟩) lx).trans c3; have q4 := (hSw.cell (p := ⟨w.heap.size, 4, none⟩) lx).trans c4; go_simp; try with_reducible rfl
    try simp only [Act.put, List.setIfInBounds_toArray, List.set_cons_zero, List.set_cons_succ]
    refine wpAnyF_take (i := 11) (oi := { dst := some 69, op := Go.Op.move (Go.Operand.tmp 13), type := 2, pos := "law.go:214", after := #[{ on := 7, ground := Go.Ground.guard }], guard := some (7, true) }) (v := ?_) rfl (by kernel_rfl) (by kernel_rfl) (by kernel_rfl) (by kernel_rfl) (fun _ _ _ h => h) (Or.inl ⟨by rfl, ?_⟩) hS ?_
    rotate_left
    · intro w' hSw; have q3 := (hSw.cell (p := ⟨w.heap.size, 3, none⟩) lx).trans c3; have q4 := (hSw.cell (p := ⟨w.heap.size, 4, none⟩) lx).trans c4; go_simp; try with_reducible rfl
    try simp only [Act.put, List.setIfInBounds_toArray, List.set_cons_zero, List.set_cons_succ]
    refine wpAnyF_take (i := 12) (oi := { dst := some 70, op := Go.Op.binOp Go.BinOp.sub 2 (Go.Operand.tmp 68) (Go.Operand.tmp 69) 2, type := 2, pos := "law.go:214", after := #[{ on := 10, ground := Go.Ground.data }, { on := 11, ground := Go.Ground.data }, { on := 7, ground := Go.Ground.guard }], guard := some (7, true) }) (v := ?_) rfl (by kernel_rfl) (by kernel_rfl) (by kernel_rfl) (by kernel_rfl) (fun _ _ _ h => h) (Or.inl ⟨by rfl, ?_⟩) hS ?_
    rotate_left
    · intro w' hSw; have q3 := (hSw.cell (p := ⟨w.heap.size, 3, none⟩) lx).trans c3; have q4 := (hSw.cell (p := ⟨w.heap.size, 4, none⟩) lx).trans c4; go_simp; try with_reducible rfl
    try simp only [Act.put, List.setIfInBounds_toArray, List.set_cons_zero, List.set_cons_succ]
    refine wpAnyF_take (i := 13) (oi := { dst := some 71, op := Go.Op.fieldAddr 45 (Go.Operand.tmp 5) 4, type := 0, pos := "law.go:214", after := #[{ on := 7, ground := Go.Ground.guard }], guard := some (7, true) }) (v := ?_) rfl (by kernel_rfl) (by kernel_rfl) (by kernel_rfl) (by kernel_rfl) (fun _ _ _ h => h) (Or.inl ⟨by rfl, ?_⟩) hS ?_
    rotate_left
    · intro w' hSw; have q3 := (hSw.cell (p := ⟨w.heap.size, 3, none⟩) lx).trans c3; have q4 := (hSw.cell (p := ⟨w.heap.size, 4, none⟩) lx).trans c4; go_simp; try with_reducible rfl
    try simp only [Act.put, List.setIfInBounds_toArray, List.set_cons_zero, List.set_cons_succ]
    refine wpAnyF_take (i := 14) (oi := { dst := some 72, op := Go.Op.load 2 (Go.Operand.tmp 71), type := 2, pos := "law.go:214", after := #[{ on := 13, ground := Go.Ground.data }, { on := 7, ground := Go.Ground.guard }], guard := some (7, true) }) (v := ?_) rfl (by kernel_rfl) (by kernel_rfl) (by kernel_rfl) (by kernel_rfl) (fun _ _ _ h => h) (Or.inl ⟨by rfl, ?_⟩) hS ?_
    rotate_left
    · intro w' hSw; have q3 := (hSw.cell (p := ⟨w.heap.size, 3, none⟩) lx).trans c3; have q4 := (hSw.cell (p := ⟨w.heap.size, 4, none⟩) lx).trans c4; go_simp; try with_reducible rfl
    try simp only [Act.put, List.setIfInBounds_toArray, List.set_cons_zero, List.set_cons_succ]
    refine wpAnyF_take (i := 15) (oi := { dst := some 73, op := Go.Op.binOp Go.BinOp.add 2 (Go.Operand.tmp 70) (Go.Operand.tmp 72) 2, type := 2, pos := "law.go:214", after := #[{ on := 12, ground := Go.Ground.data }, { on := 14, ground := Go.Ground.data }, { on := 7, ground := Go.Ground.guard }], guard := some (7, true) }) (v := ?_) rfl (by kernel_rfl) (by kernel_rfl) (by kernel_rfl) (by kernel_rfl) (fun _ _ _ h => h) (Or.inl ⟨by rfl, ?_⟩) hS ?_
    rotate_left
    · intro w' hSw; have q3 := (hSw.cell (p := ⟨w.heap.size, 3, none⟩) lx).trans c3; have q4 := (hSw.cell (p := ⟨w.heap.size, 4, none⟩) lx).trans c4; go_simp; try with_reducible rfl
    try simp only [Act.put, List.setIfInBounds_toArray, List.set_cons_zero, List.set_cons_succ]
    refine wpAnyF_ready (rs := [9]) (by kernel_rfl) (by simp) ?_
    refine AllReadyF.cons (o := { dst := some 67, op := Go.Op.call { callee := Go.Callee.value (Go.Operand.func 23), args := #[Go.Operand.tmp 66], argTypes := #[23] }, type := 2, pos := "law.go:214", after := #[{ on := 8, ground := Go.Ground.data }, { on := 7, ground := Go.Ground.chain }, { on := 7, ground := Go.Ground.guard }], guard := some (7, true) }) rfl (by rfl) (fun K hK => ?_) ?_
    · go_simp
      refine (held_any (HA.out.grow hS) HO2.out).mono ?_
      rintro e w7 ⟨rfl, hb7⟩
      rw [EHeld.out]
      refine hK.out _ _ ?_ (fun hS => ?_)
      · exact hS.trans (hb7.mono hS.size)
      clear hK K
      try simp only [Act.put, List.setIfInBounds_toArray, List.set_cons_zero, List.set_cons_succ]
      clear hb7
      refine wpAnyF_take (i := 16) (oi := { dst := some 74, op := Go.Op.binOp Go.BinOp.eql 2 (Go.Operand.tmp 67) (Go.Operand.tmp 73) 2, type := 4, pos := "law.go:214", after := #[{ on := 9, ground := Go.Ground.data }, { on := 15, ground := Go.Ground.data }, { on := 7, ground := Go.Ground.guard }], guard := some (7, true) }) (v := ?_) rfl (by kernel_rfl) (by kernel_rfl) (by kernel_rfl) (by kernel_rfl) (fun _ _ _ h => h) (Or.inl ⟨by rfl, ?_⟩) hS ?_
      rotate_left
      · intro w' hSw; have q3 := (hSw.cell (p := ⟨w.heap.size, 3, none⟩) lx).trans c3; have q4 := (hSw.cell (p := ⟨w.heap.size, 4, none⟩) lx).trans c4; go_simp; try with_reducible rfl
      try simp only [Act.put, List.setIfInBounds_toArray, List.set_cons_zero, List.set_cons_succ]
      refine wpAnyF_take (i := 17) (oi := { dst := some 75, op := Go.Op.pick (Go.Operand.tmp 65) (Go.Operand.tmp 74) (Go.Operand.const (Go.Value.bool false)), type := 4, pos := "law.go:214", after := #[{ on := 7, ground := Go.Ground.data }, { on := 16, ground := Go.Ground.data }], guard := none }) (v := ?_) rfl (by kernel_rfl) (by kernel_rfl) (by kernel_rfl) (by kernel_rfl) (fun _ _ _ h => h) (Or.inl ⟨by rfl, ?_⟩) hS ?_
      rotate_left
      · intro w' hSw; have q3 := (hSw.cell (p := ⟨w.heap.size, 3, none⟩) lx).trans c3; have q4 := (hSw.cell (p := ⟨w.heap.size, 4, none⟩) lx).trans c4; go_simp; try with_reducible rfl
      try simp only [Act.put, List.setIfInBounds_toArray, List.set_cons_zero, List.set_cons_succ]
      refine wpAnyF_take (i := 18) (oi := { dst := some 76, op := Go.Op.move (Go.Operand.tmp 75), type := 4, pos := "law.go:214", after := #[{ on := 17, ground := Go.Ground.data }, { on := 9, ground := Go.Ground.chain }], guard := none }) (v := ?_) rfl (by kernel_rfl) (by kernel_rfl) (by kernel_rfl) (by kernel_rfl) (fun _ _ _ h => h) (Or.inl ⟨by rfl, ?_⟩) hS ?_
      rotate_left
      · intro w' hSw; have q3 := (hSw.cell (p := ⟨w.heap.size, 3, none⟩) lx).trans c3; have q4 := (hSw.cell (p := ⟨w.heap.size, 4, none⟩) lx).trans c4; go_simp; try with_reducible rfl
      try simp only [Act.put, List.setIfInBounds_toArray, List.set_cons_zero, List.set_cons_succ]
      refine wpAnyF_take (i := 19) (oi := { dst := some 77, op := Go.Op.move (Go.Operand.tmp 0), type := 23, pos := "law.go:214", after := #[{ on := 18, ground := Go.Ground.guard }], guard := some (18, true) }) (v := ?_) rfl (by kernel_rfl) (by kernel_rfl) (by kernel_rfl) (by kernel_rfl) (fun _ _ _ h => h) (Or.inl ⟨by rfl, ?_⟩) hS ?_
      rotate_left
      · intro w' hSw; have q3 := (hSw.cell (p := ⟨w.heap.size, 3, none⟩) lx).trans c3; have q4 := (hSw.cell (p := ⟨w.heap.size, 4, none⟩) lx).trans c4; go_simp; try with_reducible rfl
      try simp only [Act.put, List.setIfInBounds_toArray, List.set_cons_zero, List.set_cons_succ]
      refine wpAnyF_take (i := 21) (oi := { dst := some 79, op := Go.Op.move (Go.Operand.tmp 9), type := 2, pos := "law.go:214", after := #[{ on := 18, ground := Go.Ground.guard }], guard := some (18, true) }) (v := ?_) rfl (by kernel_rfl) (by kernel_rfl) (by kernel_rfl) (by kernel_rfl) (fun _ _ _ h => h) (Or.inl ⟨by rfl, ?_⟩) hS ?_
      rotate_left
      · intro w' hSw; have q3 := (hSw.cell (p := ⟨w.heap.size, 3, none⟩) lx).trans c3; have q4 := (hSw.cell (p := ⟨w.heap.size, 4, none⟩) lx).trans c4; go_simp; try with_reducible rfl
      try simp only [Act.put, List.setIfInBounds_toArray, List.set_cons_zero, List.set_cons_succ]
      refine wpAnyF_take (i := 22) (oi := { dst := some 80, op := Go.Op.move (Go.Operand.tmp 13), type := 2, pos := "law.go:214", after := #[{ on := 18, ground := Go.Ground.guard }], guard := some (18, true) }) (v := ?_) rfl (by kernel_rfl) (by kernel_rfl) (by kernel_rfl) (by kernel_rfl) (fun _ _ _ h => h) (Or.inl ⟨by rfl, ?_⟩) hS ?_
      rotate_left
      · intro w' hSw; have q3 := (hSw.cell (p := ⟨w.heap.size, 3, none⟩) lx).trans c3; have q4 := (hSw.cell (p := ⟨w.heap.size, 4, none⟩) lx).trans c4; go_simp; try with_reducible rfl
      try simp only [Act.put, List.setIfInBounds_toArray, List.set_cons_zero, List.set_cons_succ]
      refine wpAnyF_take (i := 23) (oi := { dst := some 81, op := Go.Op.binOp Go.BinOp.add 2 (Go.Operand.tmp 79) (Go.Operand.tmp 80) 2, type := 2, pos := "law.go:214", after := #[{ on := 21, ground := Go.Ground.data }, { on := 22, ground := Go.Ground.data }, { on := 18, ground := Go.Ground.guard }], guard := some (18, true) }) (v := ?_) rfl (by kernel_rfl) (by kernel_rfl) (by kernel_rfl) (by kernel_rfl) (fun _ _ _ h => h) (Or.inl ⟨by rfl, ?_⟩) hS ?_
      rotate_left
      · intro w' hSw; have q3 := (hSw.cell (p := ⟨w.heap.size, 3, none⟩) lx).trans c3; have q4 := (hSw.cell (p := ⟨w.heap.size, 4, none⟩) lx).trans c4; go_simp; try with_reducible rfl
      try simp only [Act.put, List.setIfInBounds_toArray, List.set_cons_zero, List.set_cons_succ]
      refine wpAnyF_take (i := 24) (oi := { dst := some 82, op := Go.Op.fieldAddr 45 (Go.Operand.tmp 5) 4, type := 0, pos := "law.go:214", after := #[{ on := 18, ground := Go.Ground.guard }], guard := some (18, true) }) (v := ?_) rfl (by kernel_rfl) (by kernel_rfl) (by kernel_rfl) (by kernel_rfl) (fun _ _ _ h => h) (Or.inl ⟨by rfl, ?_⟩) hS ?_
      rotate_left
      · intro w' hSw; have q3 := (hSw.cell (p := ⟨w.heap.size, 3, none⟩) lx).trans c3; have q4 := (hSw.cell (p := ⟨w.heap.size, 4, none⟩) lx).trans c4; go_simp; try with_reducible rfl
      try simp only [Act.put, List.setIfInBounds_toArray, List.set_cons_zero, List.set_cons_succ]
      refine wpAnyF_take (i := 25) (oi := { dst := some 83, op := Go.Op.load 2 (Go.Operand.tmp 82), type := 2, pos := "law.go:214", after := #[{ on := 24, ground := Go.Ground.data }, { on := 18, ground := Go.Ground.guard }], guard := some (18, true) }) (v := ?_) rfl (by kernel_rfl) (by kernel_rfl) (by kernel_rfl) (by kernel_rfl) (fun _ _ _ h => h) (Or.inl ⟨by rfl, ?_⟩) hS ?_
      rotate_left
      · intro w' hSw; have q3 := (hSw.cell (p := ⟨w.heap.size, 3, none⟩) lx).trans c3; have q4 := (hSw.cell (p := ⟨w.heap.size, 4, none⟩) lx).trans c4; go_simp; try with_reducible rfl
      try simp only [Act.put, List.setIfInBounds_toArray, List.set_cons_zero, List.set_cons_succ]
      refine wpAnyF_take (i := 26) (oi := { dst := some 84, op := Go.Op.binOp Go.BinOp.sub 2 (Go.Operand.tmp 81) (Go.Operand.tmp 83) 2, type := 2, pos := "law.go:214", after := #[{ on := 23, ground := Go.Ground.data }, { on := 25, ground := Go.Ground.data }, { on := 18, ground := Go.Ground.guard }], guard := some (18, true) }) (v := ?_) rfl (by kernel_rfl) (by kernel_rfl) (by kernel_rfl) (by kernel_rfl) (fun _ _ _ h => h) (Or.inl ⟨by rfl, ?_⟩) hS ?_
      rotate_left
      · intro w' hSw; have q3 := (hSw.cell (p := ⟨w.heap.size, 3, none⟩) lx).trans c3; have q4 := (hSw.cell (p := ⟨w.heap.size, 4, none⟩) lx).trans c4; go_simp; try with_reducible rfl
      try simp only [Act.put, List.setIfInBounds_toArray, List.set_cons_zero, List.set_cons_succ]
      refine wpAnyF_ready (rs := [20]) (by kernel_rfl) (by simp) ?_
      refine AllReadyF.cons (o := { dst := some 78, op := Go.Op.call { callee := Go.Callee.value (Go.Operand.func 22), args := #[Go.Operand.tmp 77], argTypes := #[23] }, type := 2, pos := "law.go:214", after := #[{ on := 19, ground := Go.Ground.data }, { on := 18, ground := Go.Ground.chain }, { on := 18, ground := Go.Ground.guard }], guard := some (18, true) }) rfl (by rfl) (fun K hK => ?_) ?_
      · go_simp
        refine (free_any (HA.out.grow hS) HO2.out).mono ?_
        rintro e w7 ⟨rfl, hb7⟩
        rw [EFree.out]
        refine hK.out _ _ ?_ (fun hS => ?_)
        · exact hS.trans (hb7.mono hS.size)
        clear hK K
        try simp only [Act.put, List.setIfInBounds_toArray, List.set_cons_zero, List.set_cons_succ]
        clear hb7
        refine wpAnyF_take (i := 27) (oi := { dst := some 85, op := Go.Op.binOp Go.BinOp.eql 2 (Go.Operand.tmp 78) (Go.Operand.tmp 84) 2, type := 4, pos := "law.go:214", after := #[{ on := 20, ground := Go.Ground.data }, { on := 26, ground := Go.Ground.data }, { on := 18, ground := Go.Ground.guard }], guard := some (18, true) }) (v := ?_) rfl (by kernel_rfl) (by kernel_rfl) (by kernel_rfl) (by kernel_rfl) (fun _ _ _ h => h) (Or.inl ⟨by rfl, ?_⟩) hS ?_
        rotate_left
        · intro w' hSw; have q3 := (hSw.cell (p := ⟨w.heap.size, 3, none⟩) lx).trans c3; have q4 := (hSw.cell (p := ⟨w.heap.size, 4, none⟩) lx).trans c4; go_simp; try with_reducible rfl
        try simp only [Act.put, List.setIfInBounds_toArray, List.set_cons_zero, List.set_cons_succ]
        refine wpAnyF_take (i := 28) (oi := { dst := some 86, op := Go.Op.pick (Go.Operand.tmp 76) (Go.Operand.tmp 85) (Go.Operand.const (Go.Value.bool false)), type := 4, pos := "law.go:214", after := #[{ on := 18, ground := Go.Ground.data }, { on := 27, ground := Go.Ground.data }], guard := none }) (v := ?_) rfl (by kernel_rfl) (by kernel_rfl) (by kernel_rfl) (by kernel_rfl) (fun _ _ _ h => h) (Or.inl ⟨by rfl, ?_⟩) hS ?_
        rotate_left
        · intro w' hSw; have q3 := (hSw.cell (p := ⟨w.heap.size, 3, none⟩) lx).trans c3; have q4 := (hSw.cell (p := ⟨w.heap.size, 4, none⟩) lx).trans c4; go_simp; try with_reducible rfl
        try simp only [Act.put, List.setIfInBounds_toArray, List.set_cons_zero, List.set_cons_succ]
        refine wpAnyF_take (i := 29) (oi := { dst := some 87, op := Go.Op.move (Go.Operand.tmp 86), type := 4, pos := "law.go:214", after := #[{ on := 28, ground := Go.Ground.data }, { on := 20, ground := Go.Ground.chain }], guard := none }) (v := ?_) rfl (by kernel_rfl) (by kernel_rfl) (by kernel_rfl) (by kernel_rfl) (fun _ _ _ h => h) (Or.inl ⟨by rfl, ?_⟩) hS ?_
        rotate_left
        · intro w' hSw; have q3 := (hSw.cell (p := ⟨w.heap.size, 3, none⟩) lx).trans c3; have q4 := (hSw.cell (p := ⟨w.heap.size, 4, none⟩) lx).trans c4; go_simp; try with_reducible rfl
        try simp only [Act.put, List.setIfInBounds_toArray, List.set_cons_zero, List.set_cons_succ]
        refine wpAnyF_take (i := 30) (oi := { dst := some 88, op := Go.Op.move (Go.Operand.tmp 0), type := 23, pos := "law.go:214", after := #[{ on := 29, ground := Go.Ground.guard }], guard := some (29, true) }) (v := ?_) rfl (by kernel_rfl) (by kernel_rfl) (by kernel_rfl) (by kernel_rfl) (fun _ _ _ h => h) (Or.inl ⟨by rfl, ?_⟩) hS ?_
        rotate_left
        · intro w' hSw; have q3 := (hSw.cell (p := ⟨w.heap.size, 3, none⟩) lx).trans c3; have q4 := (hSw.cell (p := ⟨w.heap.size, 4, none⟩) lx).trans c4; go_simp; try with_reducible rfl
        try simp only [Act.put, List.setIfInBounds_toArray, List.set_cons_zero, List.set_cons_succ]
        refine wpAnyF_take (i := 32) (oi := { dst := some 90, op := Go.Op.move (Go.Operand.tmp 11), type := 2, pos := "law.go:214", after := #[{ on := 29, ground := Go.Ground.guard }], guard := some (29, true) }) (v := ?_) rfl (by kernel_rfl) (by kernel_rfl) (by kernel_rfl) (by kernel_rfl) (fun _ _ _ h => h) (Or.inl ⟨by rfl, ?_⟩) hS ?_
        rotate_left
        · intro w' hSw; have q3 := (hSw.cell (p := ⟨w.heap.size, 3, none⟩) lx).trans c3; have q4 := (hSw.cell (p := ⟨w.heap.size, 4, none⟩) lx).trans c4; go_simp; try with_reducible rfl
        try simp only [Act.put, List.setIfInBounds_toArray, List.set_cons_zero, List.set_cons_succ]
        refine wpAnyF_ready (rs := [31]) (by kernel_rfl) (by simp) ?_
        refine AllReadyF.cons (o := { dst := some 89, op := Go.Op.call { callee := Go.Callee.value (Go.Operand.func 24), args := #[Go.Operand.tmp 88], argTypes := #[23] }, type := 2, pos := "law.go:214", after := #[{ on := 30, ground := Go.Ground.data }, { on := 29, ground := Go.Ground.chain }, { on := 29, ground := Go.Ground.guard }], guard := some (29, true) }) rfl (by rfl) (fun K hK => ?_) ?_
        · go_simp
          refine (spent_any (HA.out.grow hS)).mono ?_
          rintro e w7 ⟨rfl, hw7⟩
          rw [hw7]
          clear hw7
          rw [ESpent.out]
          refine hK.out _ _ ?_ (fun hS => ?_)
          · exact hS
          clear hK K
          try simp only [Act.put, List.setIfInBounds_toArray, List.set_cons_zero, List.set_cons_succ]
          refine wpAnyF_take (i := 33) (oi := { dst := some 91, op := Go.Op.binOp Go.BinOp.eql 2 (Go.Operand.tmp 89) (Go.Operand.tmp 90) 2, type := 4, pos := "law.go:214", after := #[{ on := 31, ground := Go.Ground.data }, { on := 32, ground := Go.Ground.data }, { on := 29, ground := Go.Ground.guard }], guard := some (29, true) }) (v := ?_) rfl (by kernel_rfl) (by kernel_rfl) (by kernel_rfl) (by kernel_rfl) (fun _ _ _ h => h) (Or.inl ⟨by rfl, ?_⟩) hS ?_
          rotate_left
          · intro w' hSw; have q3 := (hSw.cell (p := ⟨w.heap.size, 3, none⟩) lx).trans c3; have q4 := (hSw.cell (p := ⟨w.heap.size, 4, none⟩) lx).trans c4; go_simp; try with_reducible rfl
          try simp only [Act.put, List.setIfInBounds_toArray, List.set_cons_zero, List.set_cons_succ]
          refine wpAnyF_take (i := 34) (oi := { dst := some 92, op := Go.Op.pick (Go.Operand.tmp 87) (Go.Operand.tmp 91) (Go.Operand.const (Go.Value.bool false)), type := 4, pos := "law.go:214", after := #[{ on := 29, ground := Go.Ground.data }, { on := 33, ground := Go.Ground.data }], guard := none }) (v := ?_) rfl (by kernel_rfl) (by kernel_rfl) (by kernel_rfl) (by kernel_rfl) (fun _ _ _ h => h) (Or.inl ⟨by rfl, ?_⟩) hS ?_
          rotate_left
          · intro w' hSw; have q3 := (hSw.cell (p := ⟨w.heap.size, 3, none⟩) lx).trans c3; have q4 := (hSw.cell (p := ⟨w.heap.size, 4, none⟩) lx).trans c4; go_simp; try with_reducible rfl
          try simp only [Act.put, List.setIfInBounds_toArray, List.set_cons_zero, List.set_cons_succ]
          refine wpAnyF_take (i := 35) (oi := { dst := some 93, op := Go.Op.move (Go.Operand.tmp 92), type := 4, pos := "law.go:214", after := #[{ on := 34, ground := Go.Ground.data }, { on := 31, ground := Go.Ground.chain }], guard := none }) (v := ?_) rfl (by kernel_rfl) (by kernel_rfl) (by kernel_rfl) (by kernel_rfl) (fun _ _ _ h => h) (Or.inl ⟨by rfl, ?_⟩) hS ?_
          rotate_left
          · intro w' hSw; have q3 := (hSw.cell (p := ⟨w.heap.size, 3, none⟩) lx).trans c3; have q4 := (hSw.cell (p := ⟨w.heap.size, 4, none⟩) lx).trans c4; go_simp; try with_reducible rfl
          try simp only [Act.put, List.setIfInBounds_toArray, List.set_cons_zero, List.set_cons_succ]
          refine wpAnyF_take (i := 36) (oi := { dst := some 94, op := Go.Op.move (Go.Operand.tmp 0), type := 23, pos := "law.go:214", after := #[{ on := 35, ground := Go.Ground.guard }], guard := some (35, true) }) (v := ?_) rfl (by kernel_rfl) (by kernel_rfl) (by kernel_rfl) (by kernel_rfl) (fun _ _ _ h => h) (Or.inl ⟨by rfl, ?_⟩) hS ?_
          rotate_left
          · intro w' hSw; have q3 := (hSw.cell (p := ⟨w.heap.size, 3, none⟩) lx).trans c3; have q4 := (hSw.cell (p := ⟨w.heap.size, 4, none⟩) lx).trans c4; go_simp; try with_reducible rfl
          try simp only [Act.put, List.setIfInBounds_toArray, List.set_cons_zero, List.set_cons_succ]
          refine wpAnyF_take (i := 38) (oi := { dst := some 96, op := Go.Op.move (Go.Operand.tmp 12), type := 2, pos := "law.go:214", after := #[{ on := 35, ground := Go.Ground.guard }], guard := some (35, true) }) (v := ?_) rfl (by kernel_rfl) (by kernel_rfl) (by kernel_rfl) (by kernel_rfl) (fun _ _ _ h => h) (Or.inl ⟨by rfl, ?_⟩) hS ?_
          rotate_left
          · intro w' hSw; have q3 := (hSw.cell (p := ⟨w.heap.size, 3, none⟩) lx).trans c3; have q4 := (hSw.cell (p := ⟨w.heap.size, 4, none⟩) lx).trans c4; go_simp; try with_reducible rfl
          try simp only [Act.put, List.setIfInBounds_toArray, List.set_cons_zero, List.set_cons_succ]
          refine wpAnyF_ready (rs := [37]) (by kernel_rfl) (by simp) ?_
          refine AllReadyF.cons (o := { dst := some 95, op := Go.Op.call { callee := Go.Callee.value (Go.Operand.func 25), args := #[Go.Operand.tmp 94], argTypes := #[23] }, type := 2, pos := "law.go:214", after := #[{ on := 36, ground := Go.Ground.data }, { on := 35, ground := Go.Ground.chain }, { on := 35, ground := Go.Ground.guard }], guard := some (35, true) }) rfl (by rfl) (fun K hK => ?_) ?_
          · go_simp
            refine (budget_any (HA.out.grow hS)).mono ?_
            rintro e w7 ⟨rfl, hw7⟩
            rw [hw7]
            clear hw7
            rw [EBudget.out]
            refine hK.out _ _ ?_ (fun hS => ?_)
            · exact hS
            clear hK K
            try simp only [Act.put, List.setIfInBounds_toArray, List.set_cons_zero, List.set_cons_succ]
            refine wpAnyF_take (i := 39) (oi := { dst := some 97, op := Go.Op.binOp Go.BinOp.eql 2 (Go.Operand.tmp 95) (Go.Operand.tmp 96) 2, type := 4, pos := "law.go:214", after := #[{ on := 37, ground := Go.Ground.data }, { on := 38, ground := Go.Ground.data }, { on := 35, ground := Go.Ground.guard }], guard := some (35, true) }) (v := ?_) rfl (by kernel_rfl) (by kernel_rfl) (by kernel_rfl) (by kernel_rfl) (fun _ _ _ h => h) (Or.inl ⟨by rfl, ?_⟩) hS ?_
            rotate_left
            · intro w' hSw; have q3 := (hSw.cell (p := ⟨w.heap.size, 3, none⟩) lx).trans c3; have q4 := (hSw.cell (p := ⟨w.heap.size, 4, none⟩) lx).trans c4; go_simp; try with_reducible rfl
            try simp only [Act.put, List.setIfInBounds_toArray, List.set_cons_zero, List.set_cons_succ]
            refine wpAnyF_take (i := 40) (oi := { dst := some 98, op := Go.Op.pick (Go.Operand.tmp 93) (Go.Operand.tmp 97) (Go.Operand.const (Go.Value.bool false)), type := 4, pos := "law.go:214", after := #[{ on := 35, ground := Go.Ground.data }, { on := 39, ground := Go.Ground.data }], guard := none }) (v := ?_) rfl (by kernel_rfl) (by kernel_rfl) (by kernel_rfl) (by kernel_rfl) (fun _ _ _ h => h) (Or.inl ⟨by rfl, ?_⟩) hS ?_
            rotate_left
            · intro w' hSw; have q3 := (hSw.cell (p := ⟨w.heap.size, 3, none⟩) lx).trans c3; have q4 := (hSw.cell (p := ⟨w.heap.size, 4, none⟩) lx).trans c4; go_simp; try with_reducible rfl
            try simp only [Act.put, List.setIfInBounds_toArray, List.set_cons_zero, List.set_cons_succ]
            refine wpAnyF_take (i := 41) (oi := { dst := some 8, op := Go.Op.assign (Go.Operand.tmp 98), type := 4, pos := "law.go:214", after := #[{ on := 40, ground := Go.Ground.data }, { on := 37, ground := Go.Ground.chain }, { on := 0, ground := Go.Ground.phase }, { on := 1, ground := Go.Ground.phase }, { on := 2, ground := Go.Ground.phase }, { on := 3, ground := Go.Ground.phase }, { on := 4, ground := Go.Ground.phase }, { on := 5, ground := Go.Ground.phase }, { on := 6, ground := Go.Ground.phase }, { on := 7, ground := Go.Ground.phase }, { on := 8, ground := Go.Ground.phase }, { on := 9, ground := Go.Ground.phase }, { on := 10, ground := Go.Ground.phase }, { on := 11, ground := Go.Ground.phase }, { on := 12, ground := Go.Ground.phase }, { on := 13, ground := Go.Ground.phase }, { on := 14, ground := Go.Ground.phase }, { on := 15, ground := Go.Ground.phase }, { on := 16, ground := Go.Ground.phase }, { on := 17, ground := Go.Ground.phase }, { on := 18, ground := Go.Ground.phase }, { on := 19, ground := Go.Ground.phase }, { on := 20, ground := Go.Ground.phase }, { on := 21, ground := Go.Ground.phase }, { on := 22, ground := Go.Ground.phase }, { on := 23, ground := Go.Ground.phase }, { on := 24, ground := Go.Ground.phase }, { on := 25, ground := Go.Ground.phase }, { on := 26, ground := Go.Ground.phase }, { on := 27, ground := Go.Ground.phase }, { on := 28, ground := Go.Ground.phase }, { on := 29, ground := Go.Ground.phase }, { on := 30, ground := Go.Ground.phase }, { on := 31, ground := Go.Ground.phase }, { on := 32, ground := Go.Ground.phase }, { on := 33, ground := Go.Ground.phase }, { on := 34, ground := Go.Ground.phase }, { on := 35, ground := Go.Ground.phase }, { on := 36, ground := Go.Ground.phase }, { on := 37, ground := Go.Ground.phase }, { on := 38, ground := Go.Ground.phase }, { on := 39, ground := Go.Ground.phase }, { on := 40, ground := Go.Ground.phase }], guard := none }) (v := ?_) rfl (by kernel_rfl) (by kernel_rfl) (by kernel_rfl) (by kernel_rfl) (fun _ _ _ h => h) (Or.inl ⟨by rfl, ?_⟩) hS ?_
            rotate_left
            · intro w' hSw; have q3 := (hSw.cell (p := ⟨w.heap.size, 3, none⟩) lx).trans c3; have q4 := (hSw.cell (p := ⟨w.heap.size, 4, none⟩) lx).trans c4; go_simp; try with_reducible rfl
            try simp only [Act.put, List.setIfInBounds_toArray, List.set_cons_zero, List.set_cons_succ]
            refine wpAnyF_done (by kernel_rfl) ?_ _
            go_wp2_with fail
            go_ret
            exact ⟨rfl, HB.out.trans (hS.mono HB.out.size)⟩
          exact AllReadyF.nil
        exact AllReadyF.nil
      exact AllReadyF.nil
    exact AllReadyF.nil
  exact AllReadyF.nil

set_option maxRecDepth 100000 in
set_option maxHeartbeats 4000000 in
theorem goesOn_k3 {b m n : Nat} {a : Acc} {w : World} {who to lot coins : Int} (h : AccAt w b m n (a.set lot 0)) (ho : a.Ok) (hf : a.Fine) (hs : int64b lot ∧ int64b coins) (ho2 : (a.set lot 0).Ok) :
    Calls Try.prog 29 #[.pointer (some ⟨b, 0, none⟩), .agg #[.int .i64 3, .int .i64 who, .int .i64 to, .int .i64 lot, .int .i64 coins], .agg (told a lot), .int .i64 (atM a.M lot)] w fun e w' => e = .returned (.bool true) ∧ Below w.heap.size w w' := by
  obtain ⟨f1, f2, h1, h2, s1, s2, b1, b2, a1, a2⟩ := bounds_of ho hf lot
  have hset := sum_set lot 0 ho.rise
  have eAt : atM (Fm.live (a.set lot 0)).M lot = 0 := at_set_same a.M lot 0
  have eFree : (Fm.live (a.set lot 0)).free = a.free + atM a.M lot := by show a.bud - a.sp - sumM (setM a.M lot 0) = _; unfold Acc.free; omega
  have eHeld : sumM (Fm.live (a.set lot 0)).M = sumM a.M - atM a.M lot := by show sumM (setM a.M lot 0) = _; omega
  have eSpent : (Fm.live (a.set lot 0)).sp = a.sp := rfl
  have HT := Lib.hid (show told a lot = #[.int .i64 a.free, .int .i64 (sumM a.M), .int .i64 a.sp, .int .i64 a.bud, .int .i64 (atM a.M lot)] from rfl)
  obtain ⟨fr, hfr⟩ : ∃ z, z = a.free := ⟨_, rfl⟩
  obtain ⟨he, hhe⟩ : ∃ z, z = sumM a.M := ⟨_, rfl⟩
  obtain ⟨sp, hsp⟩ : ∃ z, z = a.sp := ⟨_, rfl⟩
  obtain ⟨bd, hbd⟩ : ∃ z, z = a.bud := ⟨_, rfl⟩
  obtain ⟨at_, hat⟩ : ∃ z, z = atM a.M lot := ⟨_, rfl⟩
  rw [← hfr] at f1 f2
  rw [← hhe] at h1 h2
  rw [← hsp] at s1 s2
  rw [← hbd] at b1 b2
  rw [← hat] at a1 a2
  have HT2 := Lib.hid (show told a lot = #[.int .i64 fr, .int .i64 he, .int .i64 sp, .int .i64 bd, .int .i64 at_] from by rw [HT.out, hfr, hhe, hsp, hbd, hat])
  have EAt := Lib.hid (show atM (Fm.live (a.set lot 0)).M lot = 0 from by rw [eAt])
  have EFree := Lib.hid (show (Fm.live (a.set lot 0)).free = fr + at_ from by rw [eFree, hfr, hat])
  have EHeld := Lib.hid (show sumM (Fm.live (a.set lot 0)).M = he - at_ from by rw [eHeld, hhe, hat])
  have ESpent := Lib.hid (show (Fm.live (a.set lot 0)).sp = sp from by rw [eSpent, hsp])
  have w0 : IntKind.i64.wrap (he - at_) = he - at_ := IntWalk.i64_in _ (by omega)
  have w1 : IntKind.i64.wrap (fr + at_) = fr + at_ := IntWalk.i64_in _ (by omega)
  rw [← hat]
  rw [HT2.out]
  obtain ⟨U, hU⟩ : ∃ U, U = (w.alloc (.cells #[.int .i64 3, .int .i64 who, .int .i64 to, .int .i64 lot, .int .i64 coins] 45)).alloc (.cells #[.int .i64 fr, .int .i64 he, .int .i64 sp, .int .i64 bd, .int .i64 at_] 60) := ⟨_, rfl⟩
  have hx : Blk U w.heap.size 45 #[.int .i64 3, .int .i64 who, .int .i64 to, .int .i64 lot, .int .i64 coins] := by rw [hU]; exact (Blk.new w _ _).alloc _
  have hy : Blk U (w.heap.size + 1) 60 #[.int .i64 fr, .int .i64 he, .int .i64 sp, .int .i64 bd, .int .i64 at_] := by rw [hU]; exact Blk.new' _ _ (by simp)
  have hB : Below w.heap.size w U := by rw [hU]; exact ((Below.refl _ _).alloc (Nat.le_refl _) _).alloc (by simp) _
  have c0 : U.cell? ⟨w.heap.size, 0, none⟩ = some (.int .i64 3) := hx.cell 0
  have c3 : U.cell? ⟨w.heap.size, 3, none⟩ = some (.int .i64 lot) := hx.cell 3
  have c4 : U.cell? ⟨w.heap.size, 4, none⟩ = some (.int .i64 coins) := hx.cell 4
  have y0 : U.cell? ⟨w.heap.size + 1, 0, none⟩ = some (.int .i64 fr) := hy.cell 0
  have y1 : U.cell? ⟨w.heap.size + 1, 1, none⟩ = some (.int .i64 he) := hy.cell 1
  have y2 : U.cell? ⟨w.heap.size + 1, 2, none⟩ = some (.int .i64 sp) := hy.cell 2
  have y3 : U.cell? ⟨w.heap.size + 1, 3, none⟩ = some (.int .i64 bd) := hy.cell 3
  have y4 : U.cell? ⟨w.heap.size + 1, 4, none⟩ = some (.int .i64 at_) := hy.cell 4
  have lx := hx.lt
  have HU := Lib.hid hU
  have HA := Lib.hid (show AtP U (.pointer (some ⟨b, 0, none⟩)) (.live (a.set lot 0)) from ⟨b, m, n, rfl, h.grow hB⟩)
  have HB := Lib.hid hB
  have HO2 := Lib.hid (show (Fm.live (a.set lot 0)).Ok from ho2)
  have HX := Lib.hid hs.1
  clear hU hx hy hB h ho hf hs ho2 hfr hhe hsp hbd hat f1 f2 h1 h2 s1 s2 b1 b2 a1 a2 eAt eFree eHeld eSpent hset
  go_enter Try.func29, Try.ntmps29
  go_wp2_with fail
  rw [← HU.out]
  go_quiet (fail)
  go_wp2_with fail
  have HS0 := Lib.hid (below_drewN (Below.refl U.heap.size U) nq)
  refine (at_any (HA.out.grow HS0.out) HX.out).mono ?_
  rintro e w11 ⟨rfl, hw1⟩
  rw [hw1]
  clear hw1
  rw [EAt.out]
  have HS1 := HS0
  go_wp2_with fail
  refine (held_any (HA.out.grow HS1.out) HO2.out).mono ?_
  rintro e w12 ⟨rfl, hb2⟩
  rw [EHeld.out]
  have HS2 := Lib.hid (HS1.out.trans (hb2.mono HS1.out.size))
  clear hb2
  go_wp2_with fail
  refine (free_any (HA.out.grow HS2.out) HO2.out).mono ?_
  rintro e w13 ⟨rfl, hb3⟩
  rw [EFree.out]
  have HS3 := Lib.hid (HS2.out.trans (hb3.mono HS2.out.size))
  clear hb3
  go_wp2_with fail
  refine (spent_any (HA.out.grow HS3.out)).mono ?_
  rintro e w14 ⟨rfl, hw4⟩
  rw [hw4]
  clear hw4
  rw [ESpent.out]
  have HS4 := HS3
  go_wp2_with fail
  go_ret
  exact ⟨rfl, HB.out.trans (HS4.out.mono HB.out.size)⟩

set_option maxRecDepth 100000 in
set_option maxHeartbeats 4000000 in
theorem goesOn_k4 {b m n : Nat} {a : Acc} {w : World} {who to lot coins : Int} (h : AccAt w b m n (a.pay lot coins)) (ho : a.Ok) (hf : a.Fine) (hs : int64b lot ∧ int64b coins) (ho2 : (a.pay lot coins).Ok) (hE : 0 ≤ lot ∧ coin coins ∧ coins ≤ atM a.M lot) :
    Calls Try.prog 29 #[.pointer (some ⟨b, 0, none⟩), .agg #[.int .i64 4, .int .i64 who, .int .i64 to, .int .i64 lot, .int .i64 coins], .agg (told a lot), .int .i64 0] w fun e w' => e = .returned (.bool true) ∧ Below w.heap.size w w' := by
  obtain ⟨f1, f2, h1, h2, s1, s2, b1, b2, a1, a2⟩ := bounds_of ho hf lot
  have hc0 := (hE.2.1).1
  have hc1 := (hE.2.1).2
  have hset := sum_set lot 0 ho.rise
  have eAt : atM (Fm.live (a.pay lot coins)).M lot = 0 := at_set_same a.M lot 0
  have eFree : (Fm.live (a.pay lot coins)).free = a.free + atM a.M lot - coins := by show a.bud - (a.sp + coins) - sumM (setM a.M lot 0) = _; unfold Acc.free; omega
  have eHeld : sumM (Fm.live (a.pay lot coins)).M = sumM a.M - atM a.M lot := by show sumM (setM a.M lot 0) = _; omega
  have eSpent : (Fm.live (a.pay lot coins)).sp = a.sp + coins := rfl
  have HT := Lib.hid (show told a lot = #[.int .i64 a.free, .int .i64 (sumM a.M), .int .i64 a.sp, .int .i64 a.bud, .int .i64 (atM a.M lot)] from rfl)
  obtain ⟨fr, hfr⟩ : ∃ z, z = a.free := ⟨_, rfl⟩
  obtain ⟨he, hhe⟩ : ∃ z, z = sumM a.M := ⟨_, rfl⟩
  obtain ⟨sp, hsp⟩ : ∃ z, z = a.sp := ⟨_, rfl⟩
  obtain ⟨bd, hbd⟩ : ∃ z, z = a.bud := ⟨_, rfl⟩
  obtain ⟨at_, hat⟩ : ∃ z, z = atM a.M lot := ⟨_, rfl⟩
  rw [← hfr] at f1 f2
  rw [← hhe] at h1 h2
  rw [← hsp] at s1 s2
  rw [← hbd] at b1 b2
  rw [← hat] at a1 a2
  have HT2 := Lib.hid (show told a lot = #[.int .i64 fr, .int .i64 he, .int .i64 sp, .int .i64 bd, .int .i64 at_] from by rw [HT.out, hfr, hhe, hsp, hbd, hat])
  have EAt := Lib.hid (show atM (Fm.live (a.pay lot coins)).M lot = 0 from by rw [eAt])
  have EFree := Lib.hid (show (Fm.live (a.pay lot coins)).free = fr + at_ - coins from by rw [eFree, hfr, hat])
  have EHeld := Lib.hid (show sumM (Fm.live (a.pay lot coins)).M = he - at_ from by rw [eHeld, hhe, hat])
  have ESpent := Lib.hid (show (Fm.live (a.pay lot coins)).sp = sp + coins from by rw [eSpent, hsp])
  have hb3 : coins ≤ at_ ∧ at_ ≤ he := ⟨by have := hE.2.2; rw [hat]; omega, by rw [hat, hhe]; exact (at_bound ho.h lot).2⟩
  have w0 : IntKind.i64.wrap (he - at_) = he - at_ := IntWalk.i64_in _ (by omega)
  have w1 : IntKind.i64.wrap (sp + coins) = sp + coins := IntWalk.i64_in _ (by omega)
  have w2 : IntKind.i64.wrap (fr + at_) = fr + at_ := IntWalk.i64_in _ (by omega)
  have w3 : IntKind.i64.wrap (fr + at_ - coins) = fr + at_ - coins := IntWalk.i64_in _ (by omega)
  rw [HT2.out]
  obtain ⟨U, hU⟩ : ∃ U, U = (w.alloc (.cells #[.int .i64 4, .int .i64 who, .int .i64 to, .int .i64 lot, .int .i64 coins] 45)).alloc (.cells #[.int .i64 fr, .int .i64 he, .int .i64 sp, .int .i64 bd, .int .i64 at_] 60) := ⟨_, rfl⟩
  have hx : Blk U w.heap.size 45 #[.int .i64 4, .int .i64 who, .int .i64 to, .int .i64 lot, .int .i64 coins] := by rw [hU]; exact (Blk.new w _ _).alloc _
  have hy : Blk U (w.heap.size + 1) 60 #[.int .i64 fr, .int .i64 he, .int .i64 sp, .int .i64 bd, .int .i64 at_] := by rw [hU]; exact Blk.new' _ _ (by simp)
  have hB : Below w.heap.size w U := by rw [hU]; exact ((Below.refl _ _).alloc (Nat.le_refl _) _).alloc (by simp) _
  have c0 : U.cell? ⟨w.heap.size, 0, none⟩ = some (.int .i64 4) := hx.cell 0
  have c3 : U.cell? ⟨w.heap.size, 3, none⟩ = some (.int .i64 lot) := hx.cell 3
  have c4 : U.cell? ⟨w.heap.size, 4, none⟩ = some (.int .i64 coins) := hx.cell 4
  have y0 : U.cell? ⟨w.heap.size + 1, 0, none⟩ = some (.int .i64 fr) := hy.cell 0
  have y1 : U.cell? ⟨w.heap.size + 1, 1, none⟩ = some (.int .i64 he) := hy.cell 1
  have y2 : U.cell? ⟨w.heap.size + 1, 2, none⟩ = some (.int .i64 sp) := hy.cell 2
  have y3 : U.cell? ⟨w.heap.size + 1, 3, none⟩ = some (.int .i64 bd) := hy.cell 3
  have y4 : U.cell? ⟨w.heap.size + 1, 4, none⟩ = some (.int .i64 at_) := hy.cell 4
  have lx := hx.lt
  have HU := Lib.hid hU
  have HA := Lib.hid (show AtP U (.pointer (some ⟨b, 0, none⟩)) (.live (a.pay lot coins)) from ⟨b, m, n, rfl, h.grow hB⟩)
  have HB := Lib.hid hB
  have HO2 := Lib.hid (show (Fm.live (a.pay lot coins)).Ok from ho2)
  have HX := Lib.hid hs.1
  clear hU hx hy hB h ho hf hs ho2 hfr hhe hsp hbd hat f1 f2 h1 h2 s1 s2 b1 b2 a1 a2 eAt eFree eHeld eSpent hc0 hc1 hset hb3 hE
  go_enter Try.func29, Try.ntmps29
  go_wp2_with fail
  rw [← HU.out]
  go_quiet (fail)
  go_wp2_with fail
  refine wp_region_F (Below U.heap.size U) [] (by kernel_rfl) ((below_drewN (Below.refl _ _) _).drew) (fun hS => ?_)
  refine wpAnyF_take (i := 0) (oi := { dst := some 135, op := Go.Op.move (Go.Operand.tmp 0), type := 23, pos := "law.go:218", after := #[], guard := none }) (v := ?_) rfl (by kernel_rfl) (by kernel_rfl) (by kernel_rfl) (by kernel_rfl) (fun _ _ _ h => h) (Or.inl ⟨by rfl, ?_⟩) hS ?_
  rotate_left
  · intro w' hSw; have q3 := (hSw.cell (p := ⟨w.heap.size, 3, none⟩) lx).trans c3; have q4 := (hSw.cell (p := ⟨w.heap.size, 4, none⟩) lx).trans c4; go_simp; try with_reducible rfl
  try simp only [Act.put, List.setIfInBounds_toArray, List.set_cons_zero, List.set_cons_succ]
  refine wpAnyF_take (i := 1) (oi := { dst := some 136, op := Go.Op.fieldAddr 45 (Go.Operand.tmp 5) 3, type := 0, pos := "law.go:218", after := #[], guard := none }) (v := ?_) rfl (by kernel_rfl) (by kernel_rfl) (by kernel_rfl) (by kernel_rfl) (fun _ _ _ h => h) (Or.inl ⟨by rfl, ?_⟩) hS ?_
  rotate_left
  · intro w' hSw; have q3 := (hSw.cell (p := ⟨w.heap.size, 3, none⟩) lx).trans c3; have q4 := (hSw.cell (p := ⟨w.heap.size, 4, none⟩) lx).trans c4; go_simp; try with_reducible rfl
  try simp only [Act.put, List.setIfInBounds_toArray, List.set_cons_zero, List.set_cons_succ]
  refine wpAnyF_take (i := 2) (oi := { dst := some 137, op := Go.Op.load 3 (Go.Operand.tmp 136), type := 3, pos := "law.go:218", after := #[{ on := 1, ground := Go.Ground.data }], guard := none }) (v := ?_) rfl (by kernel_rfl) (by kernel_rfl) (by kernel_rfl) (by kernel_rfl) (fun _ _ _ h => h) (Or.inl ⟨by rfl, ?_⟩) hS ?_
  rotate_left
  · intro w' hSw; have q3 := (hSw.cell (p := ⟨w.heap.size, 3, none⟩) lx).trans c3; have q4 := (hSw.cell (p := ⟨w.heap.size, 4, none⟩) lx).trans c4; go_simp; try with_reducible rfl
  try simp only [Act.put, List.setIfInBounds_toArray, List.set_cons_zero, List.set_cons_succ]
  refine wpAnyF_ready (rs := [3]) (by kernel_rfl) (by simp) ?_
  refine AllReadyF.cons (o := { dst := some 138, op := Go.Op.call { callee := Go.Callee.value (Go.Operand.func 26), args := #[Go.Operand.tmp 135, Go.Operand.tmp 137], argTypes := #[23, 3] }, type := 2, pos := "law.go:218", after := #[{ on := 0, ground := Go.Ground.data }, { on := 2, ground := Go.Ground.data }], guard := none }) rfl (by rfl) (fun K hK => ?_) ?_
  · go_simp
    refine (at_any (HA.out.grow hS) HX.out).mono ?_
    rintro e w7 ⟨rfl, hw7⟩
    rw [hw7]
    clear hw7
    rw [EAt.out]
    refine hK.out _ _ ?_ (fun hS => ?_)
    · exact hS
    clear hK K
    try simp only [Act.put, List.setIfInBounds_toArray, List.set_cons_zero, List.set_cons_succ]
    refine wpAnyF_take (i := 4) (oi := { dst := some 139, op := Go.Op.binOp Go.BinOp.eql 2 (Go.Operand.tmp 138) (Go.Operand.const (Go.Value.int Go.IntKind.i64 0)) 2, type := 4, pos := "law.go:218", after := #[{ on := 3, ground := Go.Ground.data }], guard := none }) (v := ?_) rfl (by kernel_rfl) (by kernel_rfl) (by kernel_rfl) (by kernel_rfl) (fun _ _ _ h => h) (Or.inl ⟨by rfl, ?_⟩) hS ?_
    rotate_left
    · intro w' hSw; have q3 := (hSw.cell (p := ⟨w.heap.size, 3, none⟩) lx).trans c3; have q4 := (hSw.cell (p := ⟨w.heap.size, 4, none⟩) lx).trans c4; go_simp; try with_reducible rfl
    try simp only [Act.put, List.setIfInBounds_toArray, List.set_cons_zero, List.set_cons_succ]
    refine wpAnyF_take (i := 5) (oi := { dst := some 140, op := Go.Op.move (Go.Operand.tmp 139), type := 4, pos := "law.go:218", after := #[{ on := 4, ground := Go.Ground.data }, { on := 3, ground := Go.Ground.chain }], guard := none }) (v := ?_) rfl (by kernel_rfl) (by kernel_rfl) (by kernel_rfl) (by kernel_rfl) (fun _ _ _ h => h) (Or.inl ⟨by rfl, ?_⟩) hS ?_
    rotate_left
    · intro w' hSw; have q3 := (hSw.cell (p := ⟨w.heap.size, 3, none⟩) lx).trans c3; have q4 := (hSw.cell (p := ⟨w.heap.size, 4, none⟩) lx).trans c4; go_simp; try with_reducible rfl
    try simp only [Act.put, List.setIfInBounds_toArray, List.set_cons_zero, List.set_cons_succ]
    refine wpAnyF_take (i := 6) (oi := { dst := some 141, op := Go.Op.move (Go.Operand.tmp 0), type := 23, pos := "law.go:218", after := #[{ on := 5, ground := Go.Ground.guard }], guard := some (5, true) }) (v := ?_) rfl (by kernel_rfl) (by kernel_rfl) (by kernel_rfl) (by kernel_rfl) (fun _ _ _ h => h) (Or.inl ⟨by rfl, ?_⟩) hS ?_
    rotate_left
    · intro w' hSw; have q3 := (hSw.cell (p := ⟨w.heap.size, 3, none⟩) lx).trans c3; have q4 := (hSw.cell (p := ⟨w.heap.size, 4, none⟩) lx).trans c4; go_simp; try with_reducible rfl
    try simp only [Act.put, List.setIfInBounds_toArray, List.set_cons_zero, List.set_cons_succ]
    refine wpAnyF_take (i := 8) (oi := { dst := some 143, op := Go.Op.move (Go.Operand.tmp 10), type := 2, pos := "law.go:218", after := #[{ on := 5, ground := Go.Ground.guard }], guard := some (5, true) }) (v := ?_) rfl (by kernel_rfl) (by kernel_rfl) (by kernel_rfl) (by kernel_rfl) (fun _ _ _ h => h) (Or.inl ⟨by rfl, ?_⟩) hS ?_
    rotate_left
    · intro w' hSw; have q3 := (hSw.cell (p := ⟨w.heap.size, 3, none⟩) lx).trans c3; have q4 := (hSw.cell (p := ⟨w.heap.size, 4, none⟩) lx).trans c4; go_simp; try with_reducible rfl
    try simp only [Act.put, List.setIfInBounds_toArray, List.set_cons_zero, List.set_cons_succ]
    refine wpAnyF_take (i := 9) (oi := { dst := some 144, op := Go.Op.move (Go.Operand.tmp 13), type := 2, pos := "law.go:218", after := #[{ on := 5, ground := Go.Ground.guard }], guard := some (5, true) }) (v := ?_) rfl (by kernel_rfl) (by kernel_rfl) (by kernel_rfl) (by kernel_rfl) (fun _ _ _ h => h) (Or.inl ⟨by rfl, ?_⟩) hS ?_
    rotate_left
    · intro w' hSw; have q3 := (hSw.cell (p := ⟨w.heap.size, 3, none⟩) lx).trans c3; have q4 := (hSw.cell (p := ⟨w.heap.size, 4, none⟩) lx).trans c4; go_simp; try with_reducible rfl
    try simp only [Act.put, List.setIfInBounds_toArray, List.set_cons_zero, List.set_cons_succ]
    refine wpAnyF_take (i := 10) (oi := { dst := some 145, op := Go.Op.binOp Go.BinOp.sub 2 (Go.Operand.tmp 143) (Go.Operand.tmp 144) 2, type := 2, pos := "law.go:218", after := #[{ on := 8, ground := Go.Ground.data }, { on := 9, ground := Go.Ground.data }, { on := 5, ground := Go.Ground.guard }], guard := some (5, true) }) (v := ?_) rfl (by kernel_rfl) (by kernel_rfl) (by kernel_rfl) (by kernel_rfl) (fun _ _ _ h => h) (Or.inl ⟨by rfl, ?_⟩) hS ?_
    rotate_left
    · intro w' hSw; have q3 := (hSw.cell (p := ⟨w.heap.size, 3, none⟩) lx).trans c3; have q4 := (hSw.cell (p := ⟨w.heap.size, 4, none⟩) lx).trans c4; go_simp; try with_reducible rfl
    try simp only [Act.put, List.setIfInBounds_toArray, List.set_cons_zero, List.set_cons_succ]
    refine wpAnyF_ready (rs := [7]) (by kernel_rfl) (by simp) ?_
    refine AllReadyF.cons (o := { dst := some 142, op := Go.Op.call { callee := Go.Callee.value (Go.Operand.func 23), args := #[Go.Operand.tmp 141], argTypes := #[23] }, type := 2, pos := "law.go:218", after := #[{ on := 6, ground := Go.Ground.data }, { on := 5, ground := Go.Ground.chain }, { on := 5, ground := Go.Ground.guard }], guard := some (5, true) }) rfl (by rfl) (fun K hK => ?_) ?_
    · go_simp
      refine (held_any (HA.out.grow hS) HO2.out).mono ?_
      rintro e w7 ⟨rfl, hb7⟩
      rw [EHeld.out]
      refine hK.out _ _ ?_ (fun hS => ?_)
      · exact hS.trans (hb7.mono hS.size)
      clear hK K
      try simp only [Act.put, List.setIfInBounds_toArray, List.set_cons_zero, List.set_cons_succ]
      clear hb7
      refine wpAnyF_take (i := 11) (oi := { dst := some 146, op := Go.Op.binOp Go.BinOp.eql 2 (Go.Operand.tmp 142) (Go.Operand.tmp 145) 2, type := 4, pos := "law.go:218", after := #[{ on := 7, ground := Go.Ground.data }, { on := 10, ground := Go.Ground.data }, { on := 5, ground := Go.Ground.guard }], guard := some (5, true) }) (v := ?_) rfl (by kernel_rfl) (by kernel_rfl) (by kernel_rfl) (by kernel_rfl) (fun _ _ _ h => h) (Or.inl ⟨by rfl, ?_⟩) hS ?_
      rotate_left
      · intro w' hSw; have q3 := (hSw.cell (p := ⟨w.heap.size, 3, none⟩) lx).trans c3; have q4 := (hSw.cell (p := ⟨w.heap.size, 4, none⟩) lx).trans c4; go_simp; try with_reducible rfl
      try simp only [Act.put, List.setIfInBounds_toArray, List.set_cons_zero, List.set_cons_succ]
      refine wpAnyF_take (i := 12) (oi := { dst := some 147, op := Go.Op.pick (Go.Operand.tmp 140) (Go.Operand.tmp 146) (Go.Operand.const (Go.Value.bool false)), type := 4, pos := "law.go:218", after := #[{ on := 5, ground := Go.Ground.data }, { on := 11, ground := Go.Ground.data }], guard := none }) (v := ?_) rfl (by kernel_rfl) (by kernel_rfl) (by kernel_rfl) (by kernel_rfl) (fun _ _ _ h => h) (Or.inl ⟨by rfl, ?_⟩) hS ?_
      rotate_left
      · intro w' hSw; have q3 := (hSw.cell (p := ⟨w.heap.size, 3, none⟩) lx).trans c3; have q4 := (hSw.cell (p := ⟨w.heap.size, 4, none⟩) lx).trans c4; go_simp; try with_reducible rfl
      try simp only [Act.put, List.setIfInBounds_toArray, List.set_cons_zero, List.set_cons_succ]
      refine wpAnyF_take (i := 13) (oi := { dst := some 148, op := Go.Op.move (Go.Operand.tmp 147), type := 4, pos := "law.go:218", after := #[{ on := 12, ground := Go.Ground.data }, { on := 7, ground := Go.Ground.chain }], guard := none }) (v := ?_) rfl (by kernel_rfl) (by kernel_rfl) (by kernel_rfl) (by kernel_rfl) (fun _ _ _ h => h) (Or.inl ⟨by rfl, ?_⟩) hS ?_
      rotate_left
      · intro w' hSw; have q3 := (hSw.cell (p := ⟨w.heap.size, 3, none⟩) lx).trans c3; have q4 := (hSw.cell (p := ⟨w.heap.size, 4, none⟩) lx).trans c4; go_simp; try with_reducible rfl
      try simp only [Act.put, List.setIfInBounds_toArray, List.set_cons_zero, List.set_cons_succ]
      refine wpAnyF_take (i := 14) (oi := { dst := some 149, op := Go.Op.move (Go.Operand.tmp 0), type := 23, pos := "law.go:218", after := #[{ on := 13, ground := Go.Ground.guard }], guard := some (13, true) }) (v := ?_) rfl (by kernel_rfl) (by kernel_rfl) (by kernel_rfl) (by kernel_rfl) (fun _ _ _ h => h) (Or.inl ⟨by rfl, ?_⟩) hS ?_
      rotate_left
      · intro w' hSw; have q3 := (hSw.cell (p := ⟨w.heap.size, 3, none⟩) lx).trans c3; have q4 := (hSw.cell (p := ⟨w.heap.size, 4, none⟩) lx).trans c4; go_simp; try with_reducible rfl
      try simp only [Act.put, List.setIfInBounds_toArray, List.set_cons_zero, List.set_cons_succ]
      refine wpAnyF_take (i := 16) (oi := { dst := some 151, op := Go.Op.move (Go.Operand.tmp 11), type := 2, pos := "law.go:218", after := #[{ on := 13, ground := Go.Ground.guard }], guard := some (13, true) }) (v := ?_) rfl (by kernel_rfl) (by kernel_rfl) (by kernel_rfl) (by kernel_rfl) (fun _ _ _ h => h) (Or.inl ⟨by rfl, ?_⟩) hS ?_
      rotate_left
      · intro w' hSw; have q3 := (hSw.cell (p := ⟨w.heap.size, 3, none⟩) lx).trans c3; have q4 := (hSw.cell (p := ⟨w.heap.size, 4, none⟩) lx).trans c4; go_simp; try with_reducible rfl
      try simp only [Act.put, List.setIfInBounds_toArray, List.set_cons_zero, List.set_cons_succ]
      refine wpAnyF_take (i := 17) (oi := { dst := some 152, op := Go.Op.fieldAddr 45 (Go.Operand.tmp 5) 4, type := 0, pos := "law.go:218", after := #[{ on := 13, ground := Go.Ground.guard }], guard := some (13, true) }) (v := ?_) rfl (by kernel_rfl) (by kernel_rfl) (by kernel_rfl) (by kernel_rfl) (fun _ _ _ h => h) (Or.inl ⟨by rfl, ?_⟩) hS ?_
      rotate_left
      · intro w' hSw; have q3 := (hSw.cell (p := ⟨w.heap.size, 3, none⟩) lx).trans c3; have q4 := (hSw.cell (p := ⟨w.heap.size, 4, none⟩) lx).trans c4; go_simp; try with_reducible rfl
      try simp only [Act.put, List.setIfInBounds_toArray, List.set_cons_zero, List.set_cons_succ]
      refine wpAnyF_take (i := 18) (oi := { dst := some 153, op := Go.Op.load 2 (Go.Operand.tmp 152), type := 2, pos := "law.go:218", after := #[{ on := 17, ground := Go.Ground.data }, { on := 13, ground := Go.Ground.guard }], guard := some (13, true) }) (v := ?_) rfl (by kernel_rfl) (by kernel_rfl) (by kernel_rfl) (by kernel_rfl) (fun _ _ _ h => h) (Or.inl ⟨by rfl, ?_⟩) hS ?_
      rotate_left
      · intro w' hSw; have q3 := (hSw.cell (p := ⟨w.heap.size, 3, none⟩) lx).trans c3; have q4 := (hSw.cell (p := ⟨w.heap.size, 4, none⟩) lx).trans c4; go_simp; try with_reducible rfl
      try simp only [Act.put, List.setIfInBounds_toArray, List.set_cons_zero, List.set_cons_succ]
      refine wpAnyF_take (i := 19) (oi := { dst := some 154, op := Go.Op.binOp Go.BinOp.add 2 (Go.Operand.tmp 151) (Go.Operand.tmp 153) 2, type := 2, pos := "law.go:218", after := #[{ on := 16, ground := Go.Ground.data }, { on := 18, ground := Go.Ground.data }, { on := 13, ground := Go.Ground.guard }], guard := some (13, true) }) (v := ?_) rfl (by kernel_rfl) (by kernel_rfl) (by kernel_rfl) (by kernel_rfl) (fun _ _ _ h => h) (Or.inl ⟨by rfl, ?_⟩) hS ?_
      rotate_left
      · intro w' hSw; have q3 := (hSw.cell (p := ⟨w.heap.size, 3, none⟩) lx).trans c3; have q4 := (hSw.cell (p := ⟨w.heap.size, 4, none⟩) lx).trans c4; go_simp; try with_reducible rfl
      try simp only [Act.put, List.setIfInBounds_toArray, List.set_cons_zero, List.set_cons_succ]
      refine wpAnyF_ready (rs := [15]) (by kernel_rfl) (by simp) ?_
      refine AllReadyF.cons (o := { dst := some 150, op := Go.Op.call { callee := Go.Callee.value (Go.Operand.func 24), args := #[Go.Operand.tmp 149], argTypes := #[23] }, type := 2, pos := "law.go:218", after := #[{ on := 14, ground := Go.Ground.data }, { on := 13, ground := Go.Ground.chain }, { on := 13, ground := Go.Ground.guard }], guard := some (13, true) }) rfl (by rfl) (fun K hK => ?_) ?_
      · go_simp
        refine (spent_any (HA.out.grow hS)).mono ?_
        rintro e w7 ⟨rfl, hw7⟩
        rw [hw7]
        clear hw7
        rw [ESpent.out]
        refine hK.out _ _ ?_ (fun hS => ?_)
        · exact hS
        clear hK K
        try simp only [Act.put, List.setIfInBounds_toArray, List.set_cons_zero, List.set_cons_succ]
        refine wpAnyF_take (i := 20) (oi := { dst := some 155, op := Go.Op.binOp Go.BinOp.eql 2 (Go.Operand.tmp 150) (Go.Operand.tmp 154) 2, type := 4, pos := "law.go:218", after := #[{ on := 15, ground := Go.Ground.data }, { on := 19, ground := Go.Ground.data }, { on := 13, ground := Go.Ground.guard }], guard := some (13, true) }) (v := ?_) rfl (by kernel_rfl) (by kernel_rfl) (by kernel_rfl) (by kernel_rfl) (fun _ _ _ h => h) (Or.inl ⟨by rfl, ?_⟩) hS ?_
        rotate_left
        · intro w' hSw; have q3 := (hSw.cell (p := ⟨w.heap.size, 3, none⟩) lx).trans c3; have q4 := (hSw.cell (p := ⟨w.heap.size, 4, none⟩) lx).trans c4; go_simp; try with_reducible rfl
        try simp only [Act.put, List.setIfInBounds_toArray, List.set_cons_zero, List.set_cons_succ]
        refine wpAnyF_take (i := 21) (oi := { dst := some 156, op := Go.Op.pick (Go.Operand.tmp 148) (Go.Operand.tmp 155) (Go.Operand.const (Go.Value.bool false)), type := 4, pos := "law.go:218", after := #[{ on := 13, ground := Go.Ground.data }, { on := 20, ground := Go.Ground.data }], guard := none }) (v := ?_) rfl (by kernel_rfl) (by kernel_rfl) (by kernel_rfl) (by kernel_rfl) (fun _ _ _ h => h) (Or.inl ⟨by rfl, ?_⟩) hS ?_
        rotate_left
        · intro w' hSw; have q3 := (hSw.cell (p := ⟨w.heap.size, 3, none⟩) lx).trans c3; have q4 := (hSw.cell (p := ⟨w.heap.size, 4, none⟩) lx).trans c4; go_simp; try with_reducible rfl
        try simp only [Act.put, List.setIfInBounds_toArray, List.set_cons_zero, List.set_cons_succ]
        refine wpAnyF_take (i := 22) (oi := { dst := some 157, op := Go.Op.move (Go.Operand.tmp 156), type := 4, pos := "law.go:218", after := #[{ on := 21, ground := Go.Ground.data }, { on := 15, ground := Go.Ground.chain }], guard := none }) (v := ?_) rfl (by kernel_rfl) (by kernel_rfl) (by kernel_rfl) (by kernel_rfl) (fun _ _ _ h => h) (Or.inl ⟨by rfl, ?_⟩) hS ?_
        rotate_left
        · intro w' hSw; have q3 := (hSw.cell (p := ⟨w.heap.size, 3, none⟩) lx).trans c3; have q4 := (hSw.cell (p := ⟨w.heap.size, 4, none⟩) lx).trans c4; go_simp; try with_reducible rfl
        try simp only [Act.put, List.setIfInBounds_toArray, List.set_cons_zero, List.set_cons_succ]
        refine wpAnyF_take (i := 23) (oi := { dst := some 158, op := Go.Op.move (Go.Operand.tmp 0), type := 23, pos := "law.go:218", after := #[{ on := 22, ground := Go.Ground.guard }], guard := some (22, true) }) (v := ?_) rfl (by kernel_rfl) (by kernel_rfl) (by kernel_rfl) (by kernel_rfl) (fun _ _ _ h => h) (Or.inl ⟨by rfl, ?_⟩) hS ?_
        rotate_left
        · intro w' hSw; have q3 := (hSw.cell (p := ⟨w.heap.size, 3, none⟩) lx).trans c3; have q4 := (hSw.cell (p := ⟨w.heap.size, 4, none⟩) lx).trans c4; go_simp; try with_reducible rfl
        try simp only [Act.put, List.setIfInBounds_toArray, List.set_cons_zero, List.set_cons_succ]
        refine wpAnyF_take (i := 25) (oi := { dst := some 160, op := Go.Op.move (Go.Operand.tmp 9), type := 2, pos := "law.go:218", after := #[{ on := 22, ground := Go.Ground.guard }], guard := some (22, true) }) (v := ?_) rfl (by kernel_rfl) (by kernel_rfl) (by kernel_rfl) (by kernel_rfl) (fun _ _ _ h => h) (Or.inl ⟨by rfl, ?_⟩) hS ?_
        rotate_left
        · intro w' hSw; have q3 := (hSw.cell (p := ⟨w.heap.size, 3, none⟩) lx).trans c3; have q4 := (hSw.cell (p := ⟨w.heap.size, 4, none⟩) lx).trans c4; go_simp; try with_reducible rfl
        try simp only [Act.put, List.setIfInBounds_toArray, List.set_cons_zero, List.set_cons_succ]
        refine wpAnyF_take (i := 26) (oi := { dst := some 161, op := Go.Op.move (Go.Operand.tmp 13), type := 2, pos := "law.go:218", after := #[{ on := 22, ground := Go.Ground.guard }], guard := some (22, true) }) (v := ?_) rfl (by kernel_rfl) (by kernel_rfl) (by kernel_rfl) (by kernel_rfl) (fun _ _ _ h => h) (Or.inl ⟨by rfl, ?_⟩) hS ?_
        rotate_left
        · intro w' hSw; have q3 := (hSw.cell (p := ⟨w.heap.size, 3, none⟩) lx).trans c3; have q4 := (hSw.cell (p := ⟨w.heap.size, 4, none⟩) lx).trans c4; go_simp; try with_reducible rfl
        try simp only [Act.put, List.setIfInBounds_toArray, List.set_cons_zero, List.set_cons_succ]
        refine wpAnyF_take (i := 27) (oi := { dst := some 162, op := Go.Op.binOp Go.BinOp.add 2 (Go.Operand.tmp 160) (Go.Operand.tmp 161) 2, type := 2, pos := "law.go:218", after := #[{ on := 25, ground := Go.Ground.data }, { on := 26, ground := Go.Ground.data }, { on := 22, ground := Go.Ground.guard }], guard := some (22, true) }) (v := ?_) rfl (by kernel_rfl) (by kernel_rfl) (by kernel_rfl) (by kernel_rfl) (fun _ _ _ h => h) (Or.inl ⟨by rfl, ?_⟩) hS ?_
        rotate_left
        · intro w' hSw; have q3 := (hSw.cell (p := ⟨w.heap.size, 3, none⟩) lx).trans c3; have q4 := (hSw.cell (p := ⟨w.heap.size, 4, none⟩) lx).trans c4; go_simp; try with_reducible rfl
        try simp only [Act.put, List.setIfInBounds_toArray, List.set_cons_zero, List.set_cons_succ]
        refine wpAnyF_take (i := 28) (oi := { dst := some 163, op := Go.Op.fieldAddr 45 (Go.Operand.tmp 5) 4, type := 0, pos := "law.go:218", after := #[{ on := 22, ground := Go.Ground.guard }], guard := some (22, true) }) (v := ?_) rfl (by kernel_rfl) (by kernel_rfl) (by kernel_rfl) (by kernel_rfl) (fun _ _ _ h => h) (Or.inl ⟨by rfl, ?_⟩) hS ?_
        rotate_left
        · intro w' hSw; have q3 := (hSw.cell (p := ⟨w.heap.size, 3, none⟩) lx).trans c3; have q4 := (hSw.cell (p := ⟨w.heap.size, 4, none⟩) lx).trans c4; go_simp; try with_reducible rfl
        try simp only [Act.put, List.setIfInBounds_toArray, List.set_cons_zero, List.set_cons_succ]
        refine wpAnyF_take (i := 29) (oi := { dst := some 164, op := Go.Op.load 2 (Go.Operand.tmp 163), type := 2, pos := "law.go:218", after := #[{ on := 28, ground := Go.Ground.data }, { on := 22, ground := Go.Ground.guard }], guard := some (22, true) }) (v := ?_) rfl (by kernel_rfl) (by kernel_rfl) (by kernel_rfl) (by kernel_rfl) (fun _ _ _ h => h) (Or.inl ⟨by rfl, ?_⟩) hS ?_
        rotate_left
        · intro w' hSw; have q3 := (hSw.cell (p := ⟨w.heap.size, 3, none⟩) lx).trans c3; have q4 := (hSw.cell (p := ⟨w.heap.size, 4, none⟩) lx).trans c4; go_simp; try with_reducible rfl
        try simp only [Act.put, List.setIfInBounds_toArray, List.set_cons_zero, List.set_cons_succ]
        refine wpAnyF_take (i := 30) (oi := { dst := some 165, op := Go.Op.binOp Go.BinOp.sub 2 (Go.Operand.tmp 162) (Go.Operand.tmp 164) 2, type := 2, pos := "law.go:218", after := #[{ on := 27, ground := Go.Ground.data }, { on := 29, ground := Go.Ground.data }, { on := 22, ground := Go.Ground.guard }], guard := some (22, true) }) (v := ?_) rfl (by kernel_rfl) (by kernel_rfl) (by kernel_rfl) (by kernel_rfl) (fun _ _ _ h => h) (Or.inl ⟨by rfl, ?_⟩) hS ?_
        rotate_left
        · intro w' hSw; have q3 := (hSw.cell (p := ⟨w.heap.size, 3, none⟩) lx).trans c3; have q4 := (hSw.cell (p := ⟨w.heap.size, 4, none⟩) lx).trans c4; go_simp; try with_reducible rfl
        try simp only [Act.put, List.setIfInBounds_toArray, List.set_cons_zero, List.set_cons_succ]
        refine wpAnyF_ready (rs := [24]) (by kernel_rfl) (by simp) ?_
        refine AllReadyF.cons (o := { dst := some 159, op := Go.Op.call { callee := Go.Callee.value (Go.Operand.func 22), args := #[Go.Operand.tmp 158], argTypes := #[23] }, type := 2, pos := "law.go:218", after := #[{ on := 23, ground := Go.Ground.data }, { on := 22, ground := Go.Ground.chain }, { on := 22, ground := Go.Ground.guard }], guard := some (22, true) }) rfl (by rfl) (fun K hK => ?_) ?_
        · go_simp
          refine (free_any (HA.out.grow hS) HO2.out).mono ?_
          rintro e w7 ⟨rfl, hb7⟩
          rw [EFree.out]
          refine hK.out _ _ ?_ (fun hS => ?_)
          · exact hS.trans (hb7.mono hS.size)
          clear hK K
          try simp only [Act.put, List.setIfInBounds_toArray, List.set_cons_zero, List.set_cons_succ]
          clear hb7
          refine wpAnyF_take (i := 31) (oi := { dst := some 166, op := Go.Op.binOp Go.BinOp.eql 2 (Go.Operand.tmp 159) (Go.Operand.tmp 165) 2, type := 4, pos := "law.go:218", after := #[{ on := 24, ground := Go.Ground.data }, { on := 30, ground := Go.Ground.data }, { on := 22, ground := Go.Ground.guard }], guard := some (22, true) }) (v := ?_) rfl (by kernel_rfl) (by kernel_rfl) (by kernel_rfl) (by kernel_rfl) (fun _ _ _ h => h) (Or.inl ⟨by rfl, ?_⟩) hS ?_
          rotate_left
          · intro w' hSw; have q3 := (hSw.cell (p := ⟨w.heap.size, 3, none⟩) lx).trans c3; have q4 := (hSw.cell (p := ⟨w.heap.size, 4, none⟩) lx).trans c4; go_simp; try with_reducible rfl
          try simp only [Act.put, List.setIfInBounds_toArray, List.set_cons_zero, List.set_cons_succ]
          refine wpAnyF_take (i := 32) (oi := { dst := some 167, op := Go.Op.pick (Go.Operand.tmp 157) (Go.Operand.tmp 166) (Go.Operand.const (Go.Value.bool false)), type := 4, pos := "law.go:218", after := #[{ on := 22, ground := Go.Ground.data }, { on := 31, ground := Go.Ground.data }], guard := none }) (v := ?_) rfl (by kernel_rfl) (by kernel_rfl) (by kernel_rfl) (by kernel_rfl) (fun _ _ _ h => h) (Or.inl ⟨by rfl, ?_⟩) hS ?_
          rotate_left
          · intro w' hSw; have q3 := (hSw.cell (p := ⟨w.heap.size, 3, none⟩) lx).trans c3; have q4 := (hSw.cell (p := ⟨w.heap.size, 4, none⟩) lx).trans c4; go_simp; try with_reducible rfl
          try simp only [Act.put, List.setIfInBounds_toArray, List.set_cons_zero, List.set_cons_succ]
          refine wpAnyF_take (i := 33) (oi := { dst := some 8, op := Go.Op.assign (Go.Operand.tmp 167), type := 4, pos := "law.go:218", after := #[{ on := 32, ground := Go.Ground.data }, { on := 24, ground := Go.Ground.chain }, { on := 0, ground := Go.Ground.phase }, { on := 1, ground := Go.Ground.phase }, { on := 2, ground := Go.Ground.phase }, { on := 3, ground := Go.Ground.phase }, { on := 4, ground := Go.Ground.phase }, { on := 5, ground := Go.Ground.phase }, { on := 6, ground := Go.Ground.phase }, { on := 7, ground := Go.Ground.phase }, { on := 8, ground := Go.Ground.phase }, { on := 9, ground := Go.Ground.phase }, { on := 10, ground := Go.Ground.phase }, { on := 11, ground := Go.Ground.phase }, { on := 12, ground := Go.Ground.phase }, { on := 13, ground := Go.Ground.phase }, { on := 14, ground := Go.Ground.phase }, { on := 15, ground := Go.Ground.phase }, { on := 16, ground := Go.Ground.phase }, { on := 17, ground := Go.Ground.phase }, { on := 18, ground := Go.Ground.phase }, { on := 19, ground := Go.Ground.phase }, { on := 20, ground := Go.Ground.phase }, { on := 21, ground := Go.Ground.phase }, { on := 22, ground := Go.Ground.phase }, { on := 23, ground := Go.Ground.phase }, { on := 24, ground := Go.Ground.phase }, { on := 25, ground := Go.Ground.phase }, { on := 26, ground := Go.Ground.phase }, { on := 27, ground := Go.Ground.phase }, { on := 28, ground := Go.Ground.phase }, { on := 29, ground := Go.Ground.phase }, { on := 30, ground := Go.Ground.phase }, { on := 31, ground := Go.Ground.phase }, { on := 32, ground := Go.Ground.phase }], guard := none }) (v := ?_) rfl (by kernel_rfl) (by kernel_rfl) (by kernel_rfl) (by kernel_rfl) (fun _ _ _ h => h) (Or.inl ⟨by rfl, ?_⟩) hS ?_
          rotate_left
          · intro w' hSw; have q3 := (hSw.cell (p := ⟨w.heap.size, 3, none⟩) lx).trans c3; have q4 := (hSw.cell (p := ⟨w.heap.size, 4, none⟩) lx).trans c4; go_simp; try with_reducible rfl
          try simp only [Act.put, List.setIfInBounds_toArray, List.set_cons_zero, List.set_cons_succ]
          refine wpAnyF_done (by kernel_rfl) ?_ _
          go_wp2_with fail
          go_ret
          exact ⟨rfl, HB.out.trans (hS.mono HB.out.size)⟩
        exact AllReadyF.nil
      exact AllReadyF.nil
    exact AllReadyF.nil
  exact AllReadyF.nil

set_option maxRecDepth 100000 in
set_option maxHeartbeats 4000000 in
theorem goesOn_k5 {b m n : Nat} {a : Acc} {w : World} {who to lot coins : Int} (h : AccAt w b m n (a.take coins)) (ho : a.Ok) (hf : a.Fine) (hs : int64b lot ∧ int64b coins) (ho2 : (a.take coins).Ok) (hE : coin coins ∧ coins ≤ a.free) :
    Calls Try.prog 29 #[.pointer (some ⟨b, 0, none⟩), .agg #[.int .i64 5, .int .i64 who, .int .i64 to, .int .i64 lot, .int .i64 coins], .agg (told a lot), .int .i64 0] w fun e w' => e = .returned (.bool true) ∧ Below w.heap.size w w' := by
  obtain ⟨f1, f2, h1, h2, s1, s2, b1, b2, a1, a2⟩ := bounds_of ho hf lot
  have hc0 := (hE.1).1
  have hc1 := (hE.1).2
  have eFree : (Fm.live (a.take coins)).free = a.free - coins := by show a.bud - (a.sp + coins) - sumM a.M = _; unfold Acc.free; omega
  have eHeld : sumM (Fm.live (a.take coins)).M = sumM a.M := rfl
  have eSpent : (Fm.live (a.take coins)).sp = a.sp + coins := rfl
  have HT := Lib.hid (show told a lot = #[.int .i64 a.free, .int .i64 (sumM a.M), .int .i64 a.sp, .int .i64 a.bud, .int .i64 (atM a.M lot)] from rfl)
  obtain ⟨fr, hfr⟩ : ∃ z, z = a.free := ⟨_, rfl⟩
  obtain ⟨he, hhe⟩ : ∃ z, z = sumM a.M := ⟨_, rfl⟩
  obtain ⟨sp, hsp⟩ : ∃ z, z = a.sp := ⟨_, rfl⟩
  obtain ⟨bd, hbd⟩ : ∃ z, z = a.bud := ⟨_, rfl⟩
  obtain ⟨at_, hat⟩ : ∃ z, z = atM a.M lot := ⟨_, rfl⟩
  rw [← hfr] at f1 f2
  rw [← hhe] at h1 h2
  rw [← hsp] at s1 s2
  rw [← hbd] at b1 b2
  rw [← hat] at a1 a2
  have HT2 := Lib.hid (show told a lot = #[.int .i64 fr, .int .i64 he, .int .i64 sp, .int .i64 bd, .int .i64 at_] from by rw [HT.out, hfr, hhe, hsp, hbd, hat])
  have EFree := Lib.hid (show (Fm.live (a.take coins)).free = fr - coins from by rw [eFree, hfr])
  have EHeld := Lib.hid (show sumM (Fm.live (a.take coins)).M = he from by rw [eHeld, hhe])
  have ESpent := Lib.hid (show (Fm.live (a.take coins)).sp = sp + coins from by rw [eSpent, hsp])
  have w0 : IntKind.i64.wrap (sp + coins) = sp + coins := IntWalk.i64_in _ (by omega)
  have w1 : IntKind.i64.wrap (fr - coins) = fr - coins := IntWalk.i64_in _ (by omega)
  rw [HT2.out]
  obtain ⟨U, hU⟩ : ∃ U, U = (w.alloc (.cells #[.int .i64 5, .int .i64 who, .int .i64 to, .int .i64 lot, .int .i64 coins] 45)).alloc (.cells #[.int .i64 fr, .int .i64 he, .int .i64 sp, .int .i64 bd, .int .i64 at_] 60) := ⟨_, rfl⟩
  have hx : Blk U w.heap.size 45 #[.int .i64 5, .int .i64 who, .int .i64 to, .int .i64 lot, .int .i64 coins] := by rw [hU]; exact (Blk.new w _ _).alloc _
  have hy : Blk U (w.heap.size + 1) 60 #[.int .i64 fr, .int .i64 he, .int .i64 sp, .int .i64 bd, .int .i64 at_] := by rw [hU]; exact Blk.new' _ _ (by simp)
  have hB : Below w.heap.size w U := by rw [hU]; exact ((Below.refl _ _).alloc (Nat.le_refl _) _).alloc (by simp) _
  have c0 : U.cell? ⟨w.heap.size, 0, none⟩ = some (.int .i64 5) := hx.cell 0
  have c3 : U.cell? ⟨w.heap.size, 3, none⟩ = some (.int .i64 lot) := hx.cell 3
  have c4 : U.cell? ⟨w.heap.size, 4, none⟩ = some (.int .i64 coins) := hx.cell 4
  have y0 : U.cell? ⟨w.heap.size + 1, 0, none⟩ = some (.int .i64 fr) := hy.cell 0
  have y1 : U.cell? ⟨w.heap.size + 1, 1, none⟩ = some (.int .i64 he) := hy.cell 1
  have y2 : U.cell? ⟨w.heap.size + 1, 2, none⟩ = some (.int .i64 sp) := hy.cell 2
  have y3 : U.cell? ⟨w.heap.size + 1, 3, none⟩ = some (.int .i64 bd) := hy.cell 3
  have y4 : U.cell? ⟨w.heap.size + 1, 4, none⟩ = some (.int .i64 at_) := hy.cell 4
  have lx := hx.lt
  have HU := Lib.hid hU
  have HA := Lib.hid (show AtP U (.pointer (some ⟨b, 0, none⟩)) (.live (a.take coins)) from ⟨b, m, n, rfl, h.grow hB⟩)
  have HB := Lib.hid hB
  have HO2 := Lib.hid (show (Fm.live (a.take coins)).Ok from ho2)
  have HX := Lib.hid hs.1
  clear hU hx hy hB h ho hf hs ho2 hfr hhe hsp hbd hat f1 f2 h1 h2 s1 s2 b1 b2 a1 a2 eFree eHeld eSpent hc0 hc1 hE
  go_enter Try.func29, Try.ntmps29
  go_wp2_with fail
  rw [← HU.out]
  go_quiet (fail)
  go_wp2_with fail
  refine wp_region_F (Below U.heap.size U) [] (by kernel_rfl) ((below_drewN (Below.refl _ _) _).drew) (fun hS => ?_)
  refine wpAnyF_take (i := 0) (oi := { dst := some 170, op := Go.Op.move (Go.Operand.tmp 0), type := 23, pos := "law.go:220", after := #[], guard := none }) (v := ?_) rfl (by kernel_rfl) (by kernel_rfl) (by kernel_rfl) (by kernel_rfl) (fun _ _ _ h => h) (Or.inl ⟨by rfl, ?_⟩) hS ?_
  rotate_left
  · intro w' hSw; have q3 := (hSw.cell (p := ⟨w.heap.size, 3, none⟩) lx).trans c3; have q4 := (hSw.cell (p := ⟨w.heap.size, 4, none⟩) lx).trans c4; go_simp; try with_reducible rfl
  try simp only [Act.put, List.setIfInBounds_toArray, List.set_cons_zero, List.set_cons_succ]
  refine wpAnyF_take (i := 2) (oi := { dst := some 172, op := Go.Op.move (Go.Operand.tmp 11), type := 2, pos := "law.go:220", after := #[], guard := none }) (v := ?_) rfl (by kernel_rfl) (by kernel_rfl) (by kernel_rfl) (by kernel_rfl) (fun _ _ _ h => h) (Or.inl ⟨by rfl, ?_⟩) hS ?_
  rotate_left
  · intro w' hSw; have q3 := (hSw.cell (p := ⟨w.heap.size, 3, none⟩) lx).trans c3; have q4 := (hSw.cell (p := ⟨w.heap.size, 4, none⟩) lx).trans c4; go_simp; try with_reducible rfl
  try simp only [Act.put, List.setIfInBounds_toArray, List.set_cons_zero, List.set_cons_succ]
  refine wpAnyF_take (i := 3) (oi := { dst := some 173, op := Go.Op.fieldAddr 45 (Go.Operand.tmp 5) 4, type := 0, pos := "law.go:220", after := #[], guard := none }) (v := ?_) rfl (by kernel_rfl) (by kernel_rfl) (by kernel_rfl) (by kernel_rfl) (fun _ _ _ h => h) (Or.inl ⟨by rfl, ?_⟩) hS ?_
  rotate_left
  · intro w' hSw; have q3 := (hSw.cell (p := ⟨w.heap.size, 3, none⟩) lx).trans c3; have q4 := (hSw.cell (p := ⟨w.heap.size, 4, none⟩) lx).trans c4; go_simp; try with_reducible rfl
  try simp only [Act.put, List.setIfInBounds_toArray, List.set_cons_zero, List.set_cons_succ]
  refine wpAnyF_take (i := 4) (oi := { dst := some 174, op := Go.Op.load 2 (Go.Operand.tmp 173), type := 2, pos := "law.go:220", after := #[{ on := 3, ground := Go.Ground.data }], guard := none }) (v := ?_) rfl (by kernel_rfl) (by kernel_rfl) (by kernel_rfl) (by kernel_rfl) (fun _ _ _ h => h) (Or.inl ⟨by rfl, ?_⟩) hS ?_
  rotate_left
  · intro w' hSw; have q3 := (hSw.cell (p := ⟨w.heap.size, 3, none⟩) lx).trans c3; have q4 := (hSw.cell (p := ⟨w.heap.size, 4, none⟩) lx).trans c4; go_simp; try with_reducible rfl
  try simp only [Act.put, List.setIfInBounds_toArray, List.set_cons_zero, List.set_cons_succ]
  refine wpAnyF_take (i := 5) (oi := { dst := some 175, op := Go.Op.binOp Go.BinOp.add 2 (Go.Operand.tmp 172) (Go.Operand.tmp 174) 2, type := 2, pos := "law.go:220", after := #[{ on := 2, ground := Go.Ground.data }, { on := 4, ground := Go.Ground.data }], guard := none }) (v := ?_) rfl (by kernel_rfl) (by kernel_rfl) (by kernel_rfl) (by kernel_rfl) (fun _ _ _ h => h) (Or.inl ⟨by rfl, ?_⟩) hS ?_
  rotate_left
  · intro w' hSw; have q3 := (hSw.cell (p := ⟨w.heap.size, 3, none⟩) lx).trans c3; have q4 := (hSw.cell (p := ⟨w.heap.size, 4, none⟩) lx).trans c4; go_simp; try with_reducible rfl
  try simp only [Act.put, List.setIfInBounds_toArray, List.set_cons_zero, List.set_cons_succ]
  refine wpAnyF_ready (rs := [1]) (by kernel_rfl) (by simp) ?_
  refine AllReadyF.cons (o := { dst := some 171, op := Go.Op.call { callee := Go.Callee.value (Go.Operand.func 24), args := #[Go.Operand.tmp 170], argTypes := #[23] }, type := 2, pos := "law.go:220", after := #[{ on := 0, ground := Go.Ground.data }], guard := none }) rfl (by rfl) (fun K hK => ?_) ?_
  · go_simp
    refine (spent_any (HA.out.grow hS)).mono ?_
    rintro e w7 ⟨rfl, hw7⟩
    rw [hw7]
    clear hw7
    rw [ESpent.out]
    refine hK.out _ _ ?_ (fun hS => ?_)
    · exact hS
    clear hK K
    try simp only [Act.put, List.setIfInBounds_toArray, List.set_cons_zero, List.set_cons_succ]
    refine wpAnyF_take (i := 6) (oi := { dst := some 176, op := Go.Op.binOp Go.BinOp.eql 2 (Go.Operand.tmp 171) (Go.Operand.tmp 175) 2, type := 4, pos := "law.go:220", after := #[{ on := 1, ground := Go.Ground.data }, { on := 5, ground := Go.Ground.data }], guard := none }) (v := ?_) rfl (by kernel_rfl) (by kernel_rfl) (by kernel_rfl) (by kernel_rfl) (fun _ _ _ h => h) (Or.inl ⟨by rfl, ?_⟩) hS ?_
    rotate_left
    · intro w' hSw; have q3 := (hSw.cell (p := ⟨w.heap.size, 3, none⟩) lx).trans c3; have q4 := (hSw.cell (p := ⟨w.heap.size, 4, none⟩) lx).trans c4; go_simp; try with_reducible rfl
    try simp only [Act.put, List.setIfInBounds_toArray, List.set_cons_zero, List.set_cons_succ]
    refine wpAnyF_take (i := 7) (oi := { dst := some 177, op := Go.Op.move (Go.Operand.tmp 176), type := 4, pos := "law.go:220", after := #[{ on := 6, ground := Go.Ground.data }, { on := 1, ground := Go.Ground.chain }], guard := none }) (v := ?_) rfl (by kernel_rfl) (by kernel_rfl) (by kernel_rfl) (by kernel_rfl) (fun _ _ _ h => h) (Or.inl ⟨by rfl, ?_⟩) hS ?_
    rotate_left
    · intro w' hSw; have q3 := (hSw.cell (p := ⟨w.heap.size, 3, none⟩) lx).trans c3; have q4 := (hSw.cell (p := ⟨w.heap.size, 4, none⟩) lx).trans c4; go_simp; try with_reducible rfl
    try simp only [Act.put, List.setIfInBounds_toArray, List.set_cons_zero, List.set_cons_succ]
    refine wpAnyF_take (i := 8) (oi := { dst := some 178, op := Go.Op.move (Go.Operand.tmp 0), type := 23, pos := "law.go:220", after := #[{ on := 7, ground := Go.Ground.guard }], guard := some (7, true) }) (v := ?_) rfl (by kernel_rfl) (by kernel_rfl) (by kernel_rfl) (by kernel_rfl) (fun _ _ _ h => h) (Or.inl ⟨by rfl, ?_⟩) hS ?_
    rotate_left
    · intro w' hSw; have q3 := (hSw.cell (p := ⟨w.heap.size, 3, none⟩) lx).trans c3; have q4 := (hSw.cell (p := ⟨w.heap.size, 4, none⟩) lx).trans c4; go_simp; try with_reducible rfl
    try simp only [Act.put, List.setIfInBounds_toArray, List.set_cons_zero, List.set_cons_succ]
    refine wpAnyF_take (i := 10) (oi := { dst := some 180, op := Go.Op.move (Go.Operand.tmp 9), type := 2, pos := "law.go:220", after := #[{ on := 7, ground := Go.Ground.guard }], guard := some (7, true) }) (v := ?_) rfl (by kernel_rfl) (by kernel_rfl) (by kernel_rfl) (by kernel_rfl) (fun _ _ _ h => h) (Or.inl ⟨by rfl, ?_⟩) hS ?_
    rotate_left
    · intro w' hSw; have q3 := (hSw.cell (p := ⟨w.heap.size, 3, none⟩) lx).trans c3; have q4 := (hSw.cell (p := ⟨w.heap.size, 4, none⟩) lx).trans c4; go_simp; try with_reducible rfl
    try simp only [Act.put, List.setIfInBounds_toArray, List.set_cons_zero, List.set_cons_succ]
    refine wpAnyF_take (i := 11) (oi := { dst := some 181, op := Go.Op.fieldAddr 45 (Go.Operand.tmp 5) 4, type := 0, pos := "law.go:220", after := #[{ on := 7, ground := Go.Ground.guard }], guard := some (7, true) }) (v := ?_) rfl (by kernel_rfl) (by kernel_rfl) (by kernel_rfl) (by kernel_rfl) (fun _ _ _ h => h) (Or.inl ⟨by rfl, ?_⟩) hS ?_
    rotate_left
    · intro w' hSw; have q3 := (hSw.cell (p := ⟨w.heap.size, 3, none⟩) lx).trans c3; have q4 := (hSw.cell (p := ⟨w.heap.size, 4, none⟩) lx).trans c4; go_simp; try with_reducible rfl
    try simp only [Act.put, List.setIfInBounds_toArray, List.set_cons_zero, List.set_cons_succ]
    refine wpAnyF_take (i := 12) (oi := { dst := some 182, op := Go.Op.load 2 (Go.Operand.tmp 181), type := 2, pos := "law.go:220", after := #[{ on := 11, ground := Go.Ground.data }, { on := 7, ground := Go.Ground.guard }], guard := some (7, true) }) (v := ?_) rfl (by kernel_rfl) (by kernel_rfl) (by kernel_rfl) (by kernel_rfl) (fun _ _ _ h => h) (Or.inl ⟨by rfl, ?_⟩) hS ?_
    rotate_left
    · intro w' hSw; have q3 := (hSw.cell (p := ⟨w.heap.size, 3, none⟩) lx).trans c3; have q4 := (hSw.cell (p := ⟨w.heap.size, 4, none⟩) lx).trans c4; go_simp; try with_reducible rfl
    try simp only [Act.put, List.setIfInBounds_toArray, List.set_cons_zero, List.set_cons_succ]
    refine wpAnyF_take (i := 13) (oi := { dst := some 183, op := Go.Op.binOp Go.BinOp.sub 2 (Go.Operand.tmp 180) (Go.Operand.tmp 182) 2, type := 2, pos := "law.go:220", after := #[{ on := 10, ground := Go.Ground.data }, { on := 12, ground := Go.Ground.data }, { on := 7, ground := Go.Ground.guard }], guard := some (7, true) }) (v := ?_) rfl (by kernel_rfl) (by kernel_rfl) (by kernel_rfl) (by kernel_rfl) (fun _ _ _ h => h) (Or.inl ⟨by rfl, ?_⟩) hS ?_
    rotate_left
    · intro w' hSw; have q3 := (hSw.cell (p := ⟨w.heap.size, 3, none⟩) lx).trans c3; have q4 := (hSw.cell (p := ⟨w.heap.size, 4, none⟩) lx).trans c4; go_simp; try with_reducible rfl
    try simp only [Act.put, List.setIfInBounds_toArray, List.set_cons_zero, List.set_cons_succ]
    refine wpAnyF_ready (rs := [9]) (by kernel_rfl) (by simp) ?_
    refine AllReadyF.cons (o := { dst := some 179, op := Go.Op.call { callee := Go.Callee.value (Go.Operand.func 22), args := #[Go.Operand.tmp 178], argTypes := #[23] }, type := 2, pos := "law.go:220", after := #[{ on := 8, ground := Go.Ground.data }, { on := 7, ground := Go.Ground.chain }, { on := 7, ground := Go.Ground.guard }], guard := some (7, true) }) rfl (by rfl) (fun K hK => ?_) ?_
    · go_simp
      refine (free_any (HA.out.grow hS) HO2.out).mono ?_
      rintro e w7 ⟨rfl, hb7⟩
      rw [EFree.out]
      refine hK.out _ _ ?_ (fun hS => ?_)
      · exact hS.trans (hb7.mono hS.size)
      clear hK K
      try simp only [Act.put, List.setIfInBounds_toArray, List.set_cons_zero, List.set_cons_succ]
      clear hb7
      refine wpAnyF_take (i := 14) (oi := { dst := some 184, op := Go.Op.binOp Go.BinOp.eql 2 (Go.Operand.tmp 179) (Go.Operand.tmp 183) 2, type := 4, pos := "law.go:220", after := #[{ on := 9, ground := Go.Ground.data }, { on := 13, ground := Go.Ground.data }, { on := 7, ground := Go.Ground.guard }], guard := some (7, true) }) (v := ?_) rfl (by kernel_rfl) (by kernel_rfl) (by kernel_rfl) (by kernel_rfl) (fun _ _ _ h => h) (Or.inl ⟨by rfl, ?_⟩) hS ?_
      rotate_left
      · intro w' hSw; have q3 := (hSw.cell (p := ⟨w.heap.size, 3, none⟩) lx).trans c3; have q4 := (hSw.cell (p := ⟨w.heap.size, 4, none⟩) lx).trans c4; go_simp; try with_reducible rfl
      try simp only [Act.put, List.setIfInBounds_toArray, List.set_cons_zero, List.set_cons_succ]
      refine wpAnyF_take (i := 15) (oi := { dst := some 185, op := Go.Op.pick (Go.Operand.tmp 177) (Go.Operand.tmp 184) (Go.Operand.const (Go.Value.bool false)), type := 4, pos := "law.go:220", after := #[{ on := 7, ground := Go.Ground.data }, { on := 14, ground := Go.Ground.data }], guard := none }) (v := ?_) rfl (by kernel_rfl) (by kernel_rfl) (by kernel_rfl) (by kernel_rfl) (fun _ _ _ h => h) (Or.inl ⟨by rfl, ?_⟩) hS ?_
      rotate_left
      · intro w' hSw; have q3 := (hSw.cell (p := ⟨w.heap.size, 3, none⟩) lx).trans c3; have q4 := (hSw.cell (p := ⟨w.heap.size, 4, none⟩) lx).trans c4; go_simp; try with_reducible rfl
      try simp only [Act.put, List.setIfInBounds_toArray, List.set_cons_zero, List.set_cons_succ]
      refine wpAnyF_take (i := 16) (oi := { dst := some 186, op := Go.Op.move (Go.Operand.tmp 185), type := 4, pos := "law.go:220", after := #[{ on := 15, ground := Go.Ground.data }, { on := 9, ground := Go.Ground.chain }], guard := none }) (v := ?_) rfl (by kernel_rfl) (by kernel_rfl) (by kernel_rfl) (by kernel_rfl) (fun _ _ _ h => h) (Or.inl ⟨by rfl, ?_⟩) hS ?_
      rotate_left
      · intro w' hSw; have q3 := (hSw.cell (p := ⟨w.heap.size, 3, none⟩) lx).trans c3; have q4 := (hSw.cell (p := ⟨w.heap.size, 4, none⟩) lx).trans c4; go_simp; try with_reducible rfl
      try simp only [Act.put, List.setIfInBounds_toArray, List.set_cons_zero, List.set_cons_succ]
      refine wpAnyF_take (i := 17) (oi := { dst := some 187, op := Go.Op.move (Go.Operand.tmp 0), type := 23, pos := "law.go:220", after := #[{ on := 16, ground := Go.Ground.guard }], guard := some (16, true) }) (v := ?_) rfl (by kernel_rfl) (by kernel_rfl) (by kernel_rfl) (by kernel_rfl) (fun _ _ _ h => h) (Or.inl ⟨by rfl, ?_⟩) hS ?_
      rotate_left
      · intro w' hSw; have q3 := (hSw.cell (p := ⟨w.heap.size, 3, none⟩) lx).trans c3; have q4 := (hSw.cell (p := ⟨w.heap.size, 4, none⟩) lx).trans c4; go_simp; try with_reducible rfl
      try simp only [Act.put, List.setIfInBounds_toArray, List.set_cons_zero, List.set_cons_succ]
      refine wpAnyF_take (i := 19) (oi := { dst := some 189, op := Go.Op.move (Go.Operand.tmp 10), type := 2, pos := "law.go:220", after := #[{ on := 16, ground := Go.Ground.guard }], guard := some (16, true) }) (v := ?_) rfl (by kernel_rfl) (by kernel_rfl) (by kernel_rfl) (by kernel_rfl) (fun _ _ _ h => h) (Or.inl ⟨by rfl, ?_⟩) hS ?_
      rotate_left
      · intro w' hSw; have q3 := (hSw.cell (p := ⟨w.heap.size, 3, none⟩) lx).trans c3; have q4 := (hSw.cell (p := ⟨w.heap.size, 4, none⟩) lx).trans c4; go_simp; try with_reducible rfl
      try simp only [Act.put, List.setIfInBounds_toArray, List.set_cons_zero, List.set_cons_succ]
      refine wpAnyF_ready (rs := [18]) (by kernel_rfl) (by simp) ?_
      refine AllReadyF.cons (o := { dst := some 188, op := Go.Op.call { callee := Go.Callee.value (Go.Operand.func 23), args := #[Go.Operand.tmp 187], argTypes := #[23] }, type := 2, pos := "law.go:220", after := #[{ on := 17, ground := Go.Ground.data }, { on := 16, ground := Go.Ground.chain }, { on := 16, ground := Go.Ground.guard }], guard := some (16, true) }) rfl (by rfl) (fun K hK => ?_) ?_
      · go_simp
        refine (held_any (HA.out.grow hS) HO2.out).mono ?_
        rintro e w7 ⟨rfl, hb7⟩
        rw [EHeld.out]
        refine hK.out _ _ ?_ (fun hS => ?_)
        · exact hS.trans (hb7.mono hS.size)
        clear hK K
        try simp only [Act.put, List.setIfInBounds_toArray, List.set_cons_zero, List.set_cons_succ]
        clear hb7
        refine wpAnyF_take (i := 20) (oi := { dst := some 190, op := Go.Op.binOp Go.BinOp.eql 2 (Go.Operand.tmp 188) (Go.Operand.tmp 189) 2, type := 4, pos := "law.go:220", after := #[{ on := 18, ground := Go.Ground.data }, { on := 19, ground := Go.Ground.data }, { on := 16, ground := Go.Ground.guard }], guard := some (16, true) }) (v := ?_) rfl (by kernel_rfl) (by kernel_rfl) (by kernel_rfl) (by kernel_rfl) (fun _ _ _ h => h) (Or.inl ⟨by rfl, ?_⟩) hS ?_
        rotate_left
        · intro w' hSw; have q3 := (hSw.cell (p := ⟨w.heap.size, 3, none⟩) lx).trans c3; have q4 := (hSw.cell (p := ⟨w.heap.size, 4, none⟩) lx).trans c4; go_simp; try with_reducible rfl
        try simp only [Act.put, List.setIfInBounds_toArray, List.set_cons_zero, List.set_cons_succ]
        refine wpAnyF_take (i := 21) (oi := { dst := some 191, op := Go.Op.pick (Go.Operand.tmp 186) (Go.Operand.tmp 190) (Go.Operand.const (Go.Value.bool false)), type := 4, pos := "law.go:220", after := #[{ on := 16, ground := Go.Ground.data }, { on := 20, ground := Go.Ground.data }], guard := none }) (v := ?_) rfl (by kernel_rfl) (by kernel_rfl) (by kernel_rfl) (by kernel_rfl) (fun _ _ _ h => h) (Or.inl ⟨by rfl, ?_⟩) hS ?_
        rotate_left
        · intro w' hSw; have q3 := (hSw.cell (p := ⟨w.heap.size, 3, none⟩) lx).trans c3; have q4 := (hSw.cell (p := ⟨w.heap.size, 4, none⟩) lx).trans c4; go_simp; try with_reducible rfl
        try simp only [Act.put, List.setIfInBounds_toArray, List.set_cons_zero, List.set_cons_succ]
        refine wpAnyF_take (i := 22) (oi := { dst := some 8, op := Go.Op.assign (Go.Operand.tmp 191), type := 4, pos := "law.go:220", after := #[{ on := 21, ground := Go.Ground.data }, { on := 18, ground := Go.Ground.chain }, { on := 0, ground := Go.Ground.phase }, { on := 1, ground := Go.Ground.phase }, { on := 2, ground := Go.Ground.phase }, { on := 3, ground := Go.Ground.phase }, { on := 4, ground := Go.Ground.phase }, { on := 5, ground := Go.Ground.phase }, { on := 6, ground := Go.Ground.phase }, { on := 7, ground := Go.Ground.phase }, { on := 8, ground := Go.Ground.phase }, { on := 9, ground := Go.Ground.phase }, { on := 10, ground := Go.Ground.phase }, { on := 11, ground := Go.Ground.phase }, { on := 12, ground := Go.Ground.phase }, { on := 13, ground := Go.Ground.phase }, { on := 14, ground := Go.Ground.phase }, { on := 15, ground := Go.Ground.phase }, { on := 16, ground := Go.Ground.phase }, { on := 17, ground := Go.Ground.phase }, { on := 18, ground := Go.Ground.phase }, { on := 19, ground := Go.Ground.phase }, { on := 20, ground := Go.Ground.phase }, { on := 21, ground := Go.Ground.phase }], guard := none }) (v := ?_) rfl (by kernel_rfl) (by kernel_rfl) (by kernel_rfl) (by kernel_rfl) (fun _ _ _ h => h) (Or.inl ⟨by rfl, ?_⟩) hS ?_
        rotate_left
        · intro w' hSw; have q3 := (hSw.cell (p := ⟨w.heap.size, 3, none⟩) lx).trans c3; have q4 := (hSw.cell (p := ⟨w.heap.size, 4, none⟩) lx).trans c4; go_simp; try with_reducible rfl
        try simp only [Act.put, List.setIfInBounds_toArray, List.set_cons_zero, List.set_cons_succ]
        refine wpAnyF_done (by kernel_rfl) ?_ _
        go_wp2_with fail
        go_ret
        exact ⟨rfl, HB.out.trans (hS.mono HB.out.size)⟩
      exact AllReadyF.nil
    exact AllReadyF.nil
  exact AllReadyF.nil

set_option maxRecDepth 100000 in
set_option maxHeartbeats 4000000 in
theorem goesOn_k0 {b m n : Nat} {a : Acc} {w : World} {kind who to lot coins : Int} (h : AccAt w b m n (a)) (ho : a.Ok) (hf : a.Fine) (hs : int64b lot ∧ int64b coins) (ho2 : (a).Ok) (k1 : kind ≠ 1) (k2 : kind ≠ 2) (k3 : kind ≠ 3) (k4 : kind ≠ 4) (k5 : kind ≠ 5) :
    Calls Try.prog 29 #[.pointer (some ⟨b, 0, none⟩), .agg #[.int .i64 kind, .int .i64 who, .int .i64 to, .int .i64 lot, .int .i64 coins], .agg (told a lot), .int .i64 0] w fun e w' => e = .returned (.bool true) ∧ Below w.heap.size w w' := by
  obtain ⟨f1, f2, h1, h2, s1, s2, b1, b2, a1, a2⟩ := bounds_of ho hf lot
  have eBudget : (Fm.live (a)).bud = a.bud := rfl
  have eFree : (Fm.live (a)).free = a.free := by show a.bud - a.sp - sumM a.M = _; unfold Acc.free; omega
  have eHeld : sumM (Fm.live (a)).M = sumM a.M := rfl
  have eSpent : (Fm.live (a)).sp = a.sp := rfl
  have HT := Lib.hid (show told a lot = #[.int .i64 a.free, .int .i64 (sumM a.M), .int .i64 a.sp, .int .i64 a.bud, .int .i64 (atM a.M lot)] from rfl)
  obtain ⟨fr, hfr⟩ : ∃ z, z = a.free := ⟨_, rfl⟩
  obtain ⟨he, hhe⟩ : ∃ z, z = sumM a.M := ⟨_, rfl⟩
  obtain ⟨sp, hsp⟩ : ∃ z, z = a.sp := ⟨_, rfl⟩
  obtain ⟨bd, hbd⟩ : ∃ z, z = a.bud := ⟨_, rfl⟩
  obtain ⟨at_, hat⟩ : ∃ z, z = atM a.M lot := ⟨_, rfl⟩
  rw [← hfr] at f1 f2
  rw [← hhe] at h1 h2
  rw [← hsp] at s1 s2
  rw [← hbd] at b1 b2
  rw [← hat] at a1 a2
  have HT2 := Lib.hid (show told a lot = #[.int .i64 fr, .int .i64 he, .int .i64 sp, .int .i64 bd, .int .i64 at_] from by rw [HT.out, hfr, hhe, hsp, hbd, hat])
  have EBudget := Lib.hid (show (Fm.live (a)).bud = bd from by rw [eBudget, hbd])
  have EFree := Lib.hid (show (Fm.live (a)).free = fr from by rw [eFree, hfr])
  have EHeld := Lib.hid (show sumM (Fm.live (a)).M = he from by rw [eHeld, hhe])
  have ESpent := Lib.hid (show (Fm.live (a)).sp = sp from by rw [eSpent, hsp])
  rw [HT2.out]
  obtain ⟨U, hU⟩ : ∃ U, U = (w.alloc (.cells #[.int .i64 kind, .int .i64 who, .int .i64 to, .int .i64 lot, .int .i64 coins] 45)).alloc (.cells #[.int .i64 fr, .int .i64 he, .int .i64 sp, .int .i64 bd, .int .i64 at_] 60) := ⟨_, rfl⟩
  have hx : Blk U w.heap.size 45 #[.int .i64 kind, .int .i64 who, .int .i64 to, .int .i64 lot, .int .i64 coins] := by rw [hU]; exact (Blk.new w _ _).alloc _
  have hy : Blk U (w.heap.size + 1) 60 #[.int .i64 fr, .int .i64 he, .int .i64 sp, .int .i64 bd, .int .i64 at_] := by rw [hU]; exact Blk.new' _ _ (by simp)
  have hB : Below w.heap.size w U := by rw [hU]; exact ((Below.refl _ _).alloc (Nat.le_refl _) _).alloc (by simp) _
  have c0 : U.cell? ⟨w.heap.size, 0, none⟩ = some (.int .i64 kind) := hx.cell 0
  have c3 : U.cell? ⟨w.heap.size, 3, none⟩ = some (.int .i64 lot) := hx.cell 3
  have c4 : U.cell? ⟨w.heap.size, 4, none⟩ = some (.int .i64 coins) := hx.cell 4
  have y0 : U.cell? ⟨w.heap.size + 1, 0, none⟩ = some (.int .i64 fr) := hy.cell 0
  have y1 : U.cell? ⟨w.heap.size + 1, 1, none⟩ = some (.int .i64 he) := hy.cell 1
  have y2 : U.cell? ⟨w.heap.size + 1, 2, none⟩ = some (.int .i64 sp) := hy.cell 2
  have y3 : U.cell? ⟨w.heap.size + 1, 3, none⟩ = some (.int .i64 bd) := hy.cell 3
  have y4 : U.cell? ⟨w.heap.size + 1, 4, none⟩ = some (.int .i64 at_) := hy.cell 4
  have lx := hx.lt
  have HU := Lib.hid hU
  have HA := Lib.hid (show AtP U (.pointer (some ⟨b, 0, none⟩)) (.live (a)) from ⟨b, m, n, rfl, h.grow hB⟩)
  have HB := Lib.hid hB
  have HO2 := Lib.hid (show (Fm.live (a)).Ok from ho2)
  have HX := Lib.hid hs.1
  clear hU hx hy hB h ho hf hs ho2 hfr hhe hsp hbd hat f1 f2 h1 h2 s1 s2 b1 b2 a1 a2 eBudget eFree eHeld eSpent
  have d1 : (kind == 1) = false := by simpa using k1
  have d2 : (kind == 2) = false := by simpa using k2
  have d3 : (kind == 3) = false := by simpa using k3
  have d4 : (kind == 4) = false := by simpa using k4
  have d5 : (kind == 5) = false := by simpa using k5
  clear k1 k2 k3 k4 k5
  go_enter Try.func29, Try.ntmps29
  go_wp2_with fail
  rw [← HU.out]
  go_quiet (fail)
  go_wp2_with fail
  have HS0 := Lib.hid (below_drewN (Below.refl U.heap.size U) nq)
  refine (free_any (HA.out.grow HS0.out) HO2.out).mono ?_
  rintro e w11 ⟨rfl, hb1⟩
  rw [EFree.out]
  have HS1 := Lib.hid (HS0.out.trans (hb1.mono HS0.out.size))
  clear hb1
  go_wp2_with fail
  refine (held_any (HA.out.grow HS1.out) HO2.out).mono ?_
  rintro e w12 ⟨rfl, hb2⟩
  rw [EHeld.out]
  have HS2 := Lib.hid (HS1.out.trans (hb2.mono HS1.out.size))
  clear hb2
  go_wp2_with fail
  refine (spent_any (HA.out.grow HS2.out)).mono ?_
  rintro e w13 ⟨rfl, hw3⟩
  rw [hw3]
  clear hw3
  rw [ESpent.out]
  have HS3 := HS2
  go_wp2_with fail
  refine (budget_any (HA.out.grow HS3.out)).mono ?_
  rintro e w14 ⟨rfl, hw4⟩
  rw [hw4]
  clear hw4
  rw [EBudget.out]
  have HS4 := HS3
  go_wp2_with fail
  go_ret
  exact ⟨rfl, HB.out.trans (HS4.out.mono HB.out.size)⟩
end Go.Proofs.Ytibhmgeckghoeaa.Ac

/- Account: the function values that may is handed. -/
import Derived.Test.YtibhmgeckghoeaaAccH
import Derived.Test.YtibhmgeckghoeaaRegn
namespace Go.Proofs.Ytibhmgeckghoeaa.Ac
open Go.RowKit Go.Shelf Go.Maps
open Go.Proofs.Ytibhmgeckghoeaa.Vb
attribute [local go_sem] Oper.semAt_some

theorem at_bound {M : HM} (h : HOk M) (k : Int) : 0 ≤ atM M k ∧ atM M k ≤ sumM M := by
  have h1 := sum_del k h.rise
  have h2 : 0 ≤ sumM (delM M k) := sumM_nonneg fun p hp => by have := h.each p (List.mem_filter.1 hp).1; omega
  refine ⟨?_, by omega⟩
  unfold atM
  cases hf : M.find? (fun p => p.1 == k) with
  | none => exact Int.le_refl _
  | some p => have := h.each p (List.mem_of_find?_eq_some hf); simp only; omega
def Acc.mostH (a : Acc) (x : Int) : Int := a.free + atM a.M x
theorem most_wrap {a : Acc} (h : a.Ok) (x : Int) : IntKind.i64.wrap (a.free + atM a.M x) = a.free + atM a.M x := by
  obtain ⟨h1, h2⟩ := h.bud
  obtain ⟨h3, h4⟩ := h.sp
  have h5 := at_bound h.h x
  have h6 := h.sum
  have h7 := h.h.nn
  unfold Acc.free
  exact IntWalk.i64_in _ (by omega)

set_option maxRecDepth 100000 in
set_option maxHeartbeats 2000000 in
theorem hold1_any {b m n g0 g1 : Nat} {a : Acc} {w : World} (h : AccAt w b m n a) (ho : a.Ok) {x : Int} (hx : -9223372036854775808 ≤ x ∧ x ≤ 9223372036854775807) (h0 : Blk w g0 23 #[.pointer (some ⟨b, 0, none⟩)]) (h1 : Blk w g1 3 #[.int .i64 x]) :
    Calls Try.prog 35 #[.pointer (some ⟨g0, 0, none⟩), .pointer (some ⟨g1, 0, none⟩)] w fun e w' => e = .returned (.int .i64 (a.mostH x)) ∧ Below w.heap.size w w' := by
  have k0 : w.cell? ⟨g0, 0, none⟩ = some (.pointer (some ⟨b, 0, none⟩)) := h0.cell 0
  have k1 : w.cell? ⟨g1, 0, none⟩ = some (.int .i64 x) := h1.cell 0
  have k2 : w.cell? ⟨b, 2, none⟩ = some (.map (some m)) := h.blk.cell 2
  have l0 := h0.lt
  have l1 := h1.lt
  have l2 := h.blk.lt
  have hw := most_wrap ho x
  have HA := Lib.hid h
  have HO := Lib.hid ho
  have HX := Lib.hid hx
  have hm : a.mostH x = a.free + atM a.M x := rfl
  obtain ⟨z, hz⟩ : ∃ z, z = a.mostH x := ⟨_, rfl⟩
  rw [← hz] at hm ⊢
  obtain ⟨fr, hfr⟩ : ∃ z, z = a.free := ⟨_, rfl⟩
  obtain ⟨at_, hat⟩ : ∃ z, z = atM a.M x := ⟨_, rfl⟩
  rw [← hfr, ← hat] at hw hm
  have HFR := Lib.hid (show fr = (Fm.live a).free from hfr)
  have HAT := Lib.hid hat
  have HM := Lib.hid hm
  clear h ho hx h0 h1 hz hfr hat hm
  go_enter Try.func35, Try.ntmps35
  go_wp2_with fail
  refine wp_region_F (Below w.heap.size w) [] (by kernel_rfl) ((Below.refl _ _).drew) (fun hS => ?_)
  refine wpAnyF_take (i := 0) (oi := { dst := some 3, op := Go.Op.load 23 (Go.Operand.tmp 0), type := 23, pos := "account.go:81", after := #[], guard := none }) (v := ?_) rfl (by kernel_rfl) (by kernel_rfl) (by kernel_rfl) (by kernel_rfl) (fun _ _ _ h => h) (Or.inl ⟨by rfl, ?_⟩) hS ?_
  rotate_left
  · intro w' hSw; have q0 := (hSw.cell (p := ⟨g0, 0, none⟩) l0).trans k0; have q1 := (hSw.cell (p := ⟨g1, 0, none⟩) l1).trans k1; have q2 := (hSw.cell (p := ⟨b, 2, none⟩) l2).trans k2; have hl := (HA.out.grow hSw).look HX.out; rw [← HAT.out] at hl; go_simp; try with_reducible rfl
  try simp only [Act.put, List.setIfInBounds_toArray, List.set_cons_zero, List.set_cons_succ]
  refine wpAnyF_take (i := 2) (oi := { dst := some 5, op := Go.Op.load 23 (Go.Operand.tmp 0), type := 23, pos := "account.go:81", after := #[], guard := none }) (v := ?_) rfl (by kernel_rfl) (by kernel_rfl) (by kernel_rfl) (by kernel_rfl) (fun _ _ _ h => h) (Or.inl ⟨by rfl, ?_⟩) hS ?_
  rotate_left
  · intro w' hSw; have q0 := (hSw.cell (p := ⟨g0, 0, none⟩) l0).trans k0; have q1 := (hSw.cell (p := ⟨g1, 0, none⟩) l1).trans k1; have q2 := (hSw.cell (p := ⟨b, 2, none⟩) l2).trans k2; have hl := (HA.out.grow hSw).look HX.out; rw [← HAT.out] at hl; go_simp; try with_reducible rfl
  try simp only [Act.put, List.setIfInBounds_toArray, List.set_cons_zero, List.set_cons_succ]
  refine wpAnyF_take (i := 3) (oi := { dst := some 6, op := Go.Op.nilCheck (Go.Operand.tmp 5), type := 0, pos := "account.go:81", after := #[{ on := 2, ground := Go.Ground.data }], guard := none }) (v := ?_) rfl (by kernel_rfl) (by kernel_rfl) (by kernel_rfl) (by kernel_rfl) (fun _ _ _ h => h) (Or.inl ⟨by rfl, ?_⟩) hS ?_
  rotate_left
  · intro w' hSw; have q0 := (hSw.cell (p := ⟨g0, 0, none⟩) l0).trans k0; have q1 := (hSw.cell (p := ⟨g1, 0, none⟩) l1).trans k1; have q2 := (hSw.cell (p := ⟨b, 2, none⟩) l2).trans k2; have hl := (HA.out.grow hSw).look HX.out; rw [← HAT.out] at hl; go_simp; try with_reducible rfl
  try simp only [Act.put, List.setIfInBounds_toArray, List.set_cons_zero, List.set_cons_succ]
  refine wpAnyF_take (i := 4) (oi := { dst := some 7, op := Go.Op.fieldAddr 67 (Go.Operand.tmp 6) 2, type := 0, pos := "account.go:81", after := #[{ on := 3, ground := Go.Ground.data }], guard := none }) (v := ?_) rfl (by kernel_rfl) (by kernel_rfl) (by kernel_rfl) (by kernel_rfl) (fun _ _ _ h => h) (Or.inl ⟨by rfl, ?_⟩) hS ?_
  rotate_left
  · intro w' hSw; have q0 := (hSw.cell (p := ⟨g0, 0, none⟩) l0).trans k0; have q1 := (hSw.cell (p := ⟨g1, 0, none⟩) l1).trans k1; have q2 := (hSw.cell (p := ⟨b, 2, none⟩) l2).trans k2; have hl := (HA.out.grow hSw).look HX.out; rw [← HAT.out] at hl; go_simp; try with_reducible rfl
  try simp only [Act.put, List.setIfInBounds_toArray, List.set_cons_zero, List.set_cons_succ]
  refine wpAnyF_take (i := 5) (oi := { dst := some 8, op := Go.Op.load 65 (Go.Operand.tmp 7), type := 65, pos := "account.go:81", after := #[{ on := 4, ground := Go.Ground.data }], guard := none }) (v := ?_) rfl (by kernel_rfl) (by kernel_rfl) (by kernel_rfl) (by kernel_rfl) (fun _ _ _ h => h) (Or.inl ⟨by rfl, ?_⟩) hS ?_
  rotate_left
  · intro w' hSw; have q0 := (hSw.cell (p := ⟨g0, 0, none⟩) l0).trans k0; have q1 := (hSw.cell (p := ⟨g1, 0, none⟩) l1).trans k1; have q2 := (hSw.cell (p := ⟨b, 2, none⟩) l2).trans k2; have hl := (HA.out.grow hSw).look HX.out; rw [← HAT.out] at hl; go_simp; try with_reducible rfl
  try simp only [Act.put, List.setIfInBounds_toArray, List.set_cons_zero, List.set_cons_succ]
  refine wpAnyF_take (i := 6) (oi := { dst := some 9, op := Go.Op.load 3 (Go.Operand.tmp 1), type := 3, pos := "account.go:81", after := #[], guard := none }) (v := ?_) rfl (by kernel_rfl) (by kernel_rfl) (by kernel_rfl) (by kernel_rfl) (fun _ _ _ h => h) (Or.inl ⟨by rfl, ?_⟩) hS ?_
  rotate_left
  · intro w' hSw; have q0 := (hSw.cell (p := ⟨g0, 0, none⟩) l0).trans k0; have q1 := (hSw.cell (p := ⟨g1, 0, none⟩) l1).trans k1; have q2 := (hSw.cell (p := ⟨b, 2, none⟩) l2).trans k2; have hl := (HA.out.grow hSw).look HX.out; rw [← HAT.out] at hl; go_simp; try with_reducible rfl
  try simp only [Act.put, List.setIfInBounds_toArray, List.set_cons_zero, List.set_cons_succ]
  refine wpAnyF_take (i := 7) (oi := { dst := some 10, op := Go.Op.lookup 65 (Go.Operand.tmp 8) (Go.Operand.tmp 9) false, type := 2, pos := "account.go:81", after := #[{ on := 5, ground := Go.Ground.data }, { on := 6, ground := Go.Ground.data }], guard := none }) (v := ?_) rfl (by kernel_rfl) (by kernel_rfl) (by kernel_rfl) (by kernel_rfl) (fun _ _ _ h => h) (Or.inl ⟨by rfl, ?_⟩) hS ?_
  rotate_left
  · intro w' hSw; have q0 := (hSw.cell (p := ⟨g0, 0, none⟩) l0).trans k0; have q1 := (hSw.cell (p := ⟨g1, 0, none⟩) l1).trans k1; have q2 := (hSw.cell (p := ⟨b, 2, none⟩) l2).trans k2; have hl := (HA.out.grow hSw).look HX.out; rw [← HAT.out] at hl; go_simp; try with_reducible rfl
  try simp only [Act.put, List.setIfInBounds_toArray, List.set_cons_zero, List.set_cons_succ]
  refine wpAnyF_ready (rs := [1]) (by kernel_rfl) (by simp) ?_
  refine AllReadyF.cons (o := { dst := some 4, op := Go.Op.call { callee := Go.Callee.value (Go.Operand.func 22), args := #[Go.Operand.tmp 3], argTypes := #[23] }, type := 2, pos := "account.go:81", after := #[{ on := 0, ground := Go.Ground.data }], guard := none }) rfl (by rfl) (fun K hK => ?_) ?_
  · go_simp
    refine (free_any (f := .live a) (w := w.drew) ⟨b, m, n, rfl, HA.out.grow (Below.refl _ _).drew⟩ HO.out).mono ?_
    rintro e w7 ⟨rfl, hb7⟩
    rw [← HFR.out]
    refine hK.out _ _ ?_ (fun hS => ?_)
    · exact (Below.refl w.heap.size w).drew.trans (hb7.mono (by simp))
    clear hK K
    try simp only [Act.put, List.setIfInBounds_toArray, List.set_cons_zero, List.set_cons_succ]
    have HB7 := Lib.hid ((Below.refl w.heap.size w).drew.trans (hb7.mono (by simp)))
    clear hb7
    refine wpAnyF_take (i := 8) (oi := { dst := some 11, op := Go.Op.binOp Go.BinOp.add 2 (Go.Operand.tmp 4) (Go.Operand.tmp 10) 2, type := 2, pos := "account.go:81", after := #[{ on := 1, ground := Go.Ground.data }, { on := 7, ground := Go.Ground.data }], guard := none }) (v := ?_) rfl (by kernel_rfl) (by kernel_rfl) (by kernel_rfl) (by kernel_rfl) (fun _ _ _ h => h) (Or.inl ⟨by rfl, ?_⟩) hS ?_
    rotate_left
    · intro w' hSw; have q0 := (hSw.cell (p := ⟨g0, 0, none⟩) l0).trans k0; have q1 := (hSw.cell (p := ⟨g1, 0, none⟩) l1).trans k1; have q2 := (hSw.cell (p := ⟨b, 2, none⟩) l2).trans k2; have hl := (HA.out.grow hSw).look HX.out; rw [← HAT.out] at hl; go_simp; try with_reducible rfl
    try simp only [Act.put, List.setIfInBounds_toArray, List.set_cons_zero, List.set_cons_succ]
    refine wpAnyF_take (i := 9) (oi := { dst := some 2, op := Go.Op.assign (Go.Operand.tmp 11), type := 2, pos := "account.go:81", after := #[{ on := 8, ground := Go.Ground.data }, { on := 1, ground := Go.Ground.chain }, { on := 0, ground := Go.Ground.phase }, { on := 1, ground := Go.Ground.phase }, { on := 2, ground := Go.Ground.phase }, { on := 3, ground := Go.Ground.phase }, { on := 4, ground := Go.Ground.phase }, { on := 5, ground := Go.Ground.phase }, { on := 6, ground := Go.Ground.phase }, { on := 7, ground := Go.Ground.phase }, { on := 8, ground := Go.Ground.phase }], guard := none }) (v := ?_) rfl (by kernel_rfl) (by kernel_rfl) (by kernel_rfl) (by kernel_rfl) (fun _ _ _ h => h) (Or.inl ⟨by rfl, ?_⟩) hS ?_
    rotate_left
    · intro w' hSw; have q0 := (hSw.cell (p := ⟨g0, 0, none⟩) l0).trans k0; have q1 := (hSw.cell (p := ⟨g1, 0, none⟩) l1).trans k1; have q2 := (hSw.cell (p := ⟨b, 2, none⟩) l2).trans k2; have hl := (HA.out.grow hSw).look HX.out; rw [← HAT.out] at hl; go_simp; try with_reducible rfl
    try simp only [Act.put, List.setIfInBounds_toArray, List.set_cons_zero, List.set_cons_succ]
    refine wpAnyF_done (by kernel_rfl) ?_ _
    clear hS
    go_wp2_with fail
    go_ret
    exact ⟨by rw [HM.out]; rfl, HB7.out⟩
  exact AllReadyF.nil

set_option maxRecDepth 100000 in
set_option maxHeartbeats 2000000 in
theorem can1_any {b m n g0 g1 : Nat} {a : Acc} {w : World} (h : AccAt w b m n a) (ho : a.Ok) {x : Int} (hx : -9223372036854775808 ≤ x ∧ x ≤ 9223372036854775807) (h0 : Blk w g0 23 #[.pointer (some ⟨b, 0, none⟩)]) (h1 : Blk w g1 3 #[.int .i64 x]) :
    Calls Try.prog 54 #[.pointer (some ⟨g0, 0, none⟩), .pointer (some ⟨g1, 0, none⟩)] w fun e w' => e = .returned (.int .i64 (a.mostH x)) ∧ Below w.heap.size w w' := by
  have k0 : w.cell? ⟨g0, 0, none⟩ = some (.pointer (some ⟨b, 0, none⟩)) := h0.cell 0
  have k1 : w.cell? ⟨g1, 0, none⟩ = some (.int .i64 x) := h1.cell 0
  have k2 : w.cell? ⟨b, 2, none⟩ = some (.map (some m)) := h.blk.cell 2
  have l0 := h0.lt
  have l1 := h1.lt
  have l2 := h.blk.lt
  have hw := most_wrap ho x
  have HA := Lib.hid h
  have HO := Lib.hid ho
  have HX := Lib.hid hx
  have hm : a.mostH x = a.free + atM a.M x := rfl
  obtain ⟨z, hz⟩ : ∃ z, z = a.mostH x := ⟨_, rfl⟩
  rw [← hz] at hm ⊢
  obtain ⟨fr, hfr⟩ : ∃ z, z = a.free := ⟨_, rfl⟩
  obtain ⟨at_, hat⟩ : ∃ z, z = atM a.M x := ⟨_, rfl⟩
  rw [← hfr, ← hat] at hw hm
  have HFR := Lib.hid (show fr = (Fm.live a).free from hfr)
  have HAT := Lib.hid hat
  have HM := Lib.hid hm
  clear h ho hx h0 h1 hz hfr hat hm
  go_enter Try.func54, Try.ntmps54
  go_wp2_with fail
  refine wp_region_F (Below w.heap.size w) [] (by kernel_rfl) ((Below.refl _ _).drew) (fun hS => ?_)
  refine wpAnyF_take (i := 0) (oi := { dst := some 3, op := Go.Op.load 23 (Go.Operand.tmp 0), type := 23, pos := "account.go:86", after := #[], guard := none }) (v := ?_) rfl (by kernel_rfl) (by kernel_rfl) (by kernel_rfl) (by kernel_rfl) (fun _ _ _ h => h) (Or.inl ⟨by rfl, ?_⟩) hS ?_
  rotate_left
  · intro w' hSw; have q0 := (hSw.cell (p := ⟨g0, 0, none⟩) l0).trans k0; have q1 := (hSw.cell (p := ⟨g1, 0, none⟩) l1).trans k1; have q2 := (hSw.cell (p := ⟨b, 2, none⟩) l2).trans k2; have hl := (HA.out.grow hSw).look HX.out; rw [← HAT.out] at hl; go_simp; try with_reducible rfl
  try simp only [Act.put, List.setIfInBounds_toArray, List.set_cons_zero, List.set_cons_succ]
  refine wpAnyF_take (i := 2) (oi := { dst := some 5, op := Go.Op.load 23 (Go.Operand.tmp 0), type := 23, pos := "account.go:86", after := #[], guard := none }) (v := ?_) rfl (by kernel_rfl) (by kernel_rfl) (by kernel_rfl) (by kernel_rfl) (fun _ _ _ h => h) (Or.inl ⟨by rfl, ?_⟩) hS ?_
  rotate_left
  · intro w' hSw; have q0 := (hSw.cell (p := ⟨g0, 0, none⟩) l0).trans k0; have q1 := (hSw.cell (p := ⟨g1, 0, none⟩) l1).trans k1; have q2 := (hSw.cell (p := ⟨b, 2, none⟩) l2).trans k2; have hl := (HA.out.grow hSw).look HX.out; rw [← HAT.out] at hl; go_simp; try with_reducible rfl
  try simp only [Act.put, List.setIfInBounds_toArray, List.set_cons_zero, List.set_cons_succ]
  refine wpAnyF_take (i := 3) (oi := { dst := some 6, op := Go.Op.nilCheck (Go.Operand.tmp 5), type := 0, pos := "account.go:86", after := #[{ on := 2, ground := Go.Ground.data }], guard := none }) (v := ?_) rfl (by kernel_rfl) (by kernel_rfl) (by kernel_rfl) (by kernel_rfl) (fun _ _ _ h => h) (Or.inl ⟨by rfl, ?_⟩) hS ?_
  rotate_left
  · intro w' hSw; have q0 := (hSw.cell (p := ⟨g0, 0, none⟩) l0).trans k0; have q1 := (hSw.cell (p := ⟨g1, 0, none⟩) l1).trans k1; have q2 := (hSw.cell (p := ⟨b, 2, none⟩) l2).trans k2; have hl := (HA.out.grow hSw).look HX.out; rw [← HAT.out] at hl; go_simp; try with_reducible rfl
  try simp only [Act.put, List.setIfInBounds_toArray, List.set_cons_zero, List.set_cons_succ]
  refine wpAnyF_take (i := 4) (oi := { dst := some 7, op := Go.Op.fieldAddr 67 (Go.Operand.tmp 6) 2, type := 0, pos := "account.go:86", after := #[{ on := 3, ground := Go.Ground.data }], guard := none }) (v := ?_) rfl (by kernel_rfl) (by kernel_rfl) (by kernel_rfl) (by kernel_rfl) (fun _ _ _ h => h) (Or.inl ⟨by rfl, ?_⟩) hS ?_
  rotate_left
  · intro w' hSw; have q0 := (hSw.cell (p := ⟨g0, 0, none⟩) l0).trans k0; have q1 := (hSw.cell (p := ⟨g1, 0, none⟩) l1).trans k1; have q2 := (hSw.cell (p := ⟨b, 2, none⟩) l2).trans k2; have hl := (HA.out.grow hSw).look HX.out; rw [← HAT.out] at hl; go_simp; try with_reducible rfl
  try simp only [Act.put, List.setIfInBounds_toArray, List.set_cons_zero, List.set_cons_succ]
  refine wpAnyF_take (i := 5) (oi := { dst := some 8, op := Go.Op.load 65 (Go.Operand.tmp 7), type := 65, pos := "account.go:86", after := #[{ on := 4, ground := Go.Ground.data }], guard := none }) (v := ?_) rfl (by kernel_rfl) (by kernel_rfl) (by kernel_rfl) (by kernel_rfl) (fun _ _ _ h => h) (Or.inl ⟨by rfl, ?_⟩) hS ?_
  rotate_left
  · intro w' hSw; have q0 := (hSw.cell (p := ⟨g0, 0, none⟩) l0).trans k0; have q1 := (hSw.cell (p := ⟨g1, 0, none⟩) l1).trans k1; have q2 := (hSw.cell (p := ⟨b, 2, none⟩) l2).trans k2; have hl := (HA.out.grow hSw).look HX.out; rw [← HAT.out] at hl; go_simp; try with_reducible rfl
  try simp only [Act.put, List.setIfInBounds_toArray, List.set_cons_zero, List.set_cons_succ]
  refine wpAnyF_take (i := 6) (oi := { dst := some 9, op := Go.Op.load 3 (Go.Operand.tmp 1), type := 3, pos := "account.go:86", after := #[], guard := none }) (v := ?_) rfl (by kernel_rfl) (by kernel_rfl) (by kernel_rfl) (by kernel_rfl) (fun _ _ _ h => h) (Or.inl ⟨by rfl, ?_⟩) hS ?_
  rotate_left
  · intro w' hSw; have q0 := (hSw.cell (p := ⟨g0, 0, none⟩) l0).trans k0; have q1 := (hSw.cell (p := ⟨g1, 0, none⟩) l1).trans k1; have q2 := (hSw.cell (p := ⟨b, 2, none⟩) l2).trans k2; have hl := (HA.out.grow hSw).look HX.out; rw [← HAT.out] at hl; go_simp; try with_reducible rfl
  try simp only [Act.put, List.setIfInBounds_toArray, List.set_cons_zero, List.set_cons_succ]
  refine wpAnyF_take (i := 7) (oi := { dst := some 10, op := Go.Op.lookup 65 (Go.Operand.tmp 8) (Go.Operand.tmp 9) false, type := 2, pos := "account.go:86", after := #[{ on := 5, ground := Go.Ground.data }, { on := 6, ground := Go.Ground.data }], guard := none }) (v := ?_) rfl (by kernel_rfl) (by kernel_rfl) (by kernel_rfl) (by kernel_rfl) (fun _ _ _ h => h) (Or.inl ⟨by rfl, ?_⟩) hS ?_
  rotate_left
  · intro w' hSw; have q0 := (hSw.cell (p := ⟨g0, 0, none⟩) l0).trans k0; have q1 := (hSw.cell (p := ⟨g1, 0, none⟩) l1).trans k1; have q2 := (hSw.cell (p := ⟨b, 2, none⟩) l2).trans k2; have hl := (HA.out.grow hSw).look HX.out; rw [← HAT.out] at hl; go_simp; try with_reducible rfl
  try simp only [Act.put, List.setIfInBounds_toArray, List.set_cons_zero, List.set_cons_succ]
  refine wpAnyF_ready (rs := [1]) (by kernel_rfl) (by simp) ?_
  refine AllReadyF.cons (o := { dst := some 4, op := Go.Op.call { callee := Go.Callee.value (Go.Operand.func 22), args := #[Go.Operand.tmp 3], argTypes := #[23] }, type := 2, pos := "account.go:86", after := #[{ on := 0, ground := Go.Ground.data }], guard := none }) rfl (by rfl) (fun K hK => ?_) ?_
  · go_simp
    refine (free_any (f := .live a) (w := w.drew) ⟨b, m, n, rfl, HA.out.grow (Below.refl _ _).drew⟩ HO.out).mono ?_
    rintro e w7 ⟨rfl, hb7⟩
    rw [← HFR.out]
    refine hK.out _ _ ?_ (fun hS => ?_)
    · exact (Below.refl w.heap.size w).drew.trans (hb7.mono (by simp))
    clear hK K
    try simp only [Act.put, List.setIfInBounds_toArray, List.set_cons_zero, List.set_cons_succ]
    have HB7 := Lib.hid ((Below.refl w.heap.size w).drew.trans (hb7.mono (by simp)))
    clear hb7
    refine wpAnyF_take (i := 8) (oi := { dst := some 11, op := Go.Op.binOp Go.BinOp.add 2 (Go.Operand.tmp 4) (Go.Operand.tmp 10) 2, type := 2, pos := "account.go:86", after := #[{ on := 1, ground := Go.Ground.data }, { on := 7, ground := Go.Ground.data }], guard := none }) (v := ?_) rfl (by kernel_rfl) (by kernel_rfl) (by kernel_rfl) (by kernel_rfl) (fun _ _ _ h => h) (Or.inl ⟨by rfl, ?_⟩) hS ?_
    rotate_left
    · intro w' hSw; have q0 := (hSw.cell (p := ⟨g0, 0, none⟩) l0).trans k0; have q1 := (hSw.cell (p := ⟨g1, 0, none⟩) l1).trans k1; have q2 := (hSw.cell (p := ⟨b, 2, none⟩) l2).trans k2; have hl := (HA.out.grow hSw).look HX.out; rw [← HAT.out] at hl; go_simp; try with_reducible rfl
    try simp only [Act.put, List.setIfInBounds_toArray, List.set_cons_zero, List.set_cons_succ]
    refine wpAnyF_take (i := 9) (oi := { dst := some 2, op := Go.Op.assign (Go.Operand.tmp 11), type := 2, pos := "account.go:86", after := #[{ on := 8, ground := Go.Ground.data }, { on := 1, ground := Go.Ground.chain }, { on := 0, ground := Go.Ground.phase }, { on := 1, ground := Go.Ground.phase }, { on := 2, ground := Go.Ground.phase }, { on := 3, ground := Go.Ground.phase }, { on := 4, ground := Go.Ground.phase }, { on := 5, ground := Go.Ground.phase }, { on := 6, ground := Go.Ground.phase }, { on := 7, ground := Go.Ground.phase }, { on := 8, ground := Go.Ground.phase }], guard := none }) (v := ?_) rfl (by kernel_rfl) (by kernel_rfl) (by kernel_rfl) (by kernel_rfl) (fun _ _ _ h => h) (Or.inl ⟨by rfl, ?_⟩) hS ?_
    rotate_left
    · intro w' hSw; have q0 := (hSw.cell (p := ⟨g0, 0, none⟩) l0).trans k0; have q1 := (hSw.cell (p := ⟨g1, 0, none⟩) l1).trans k1; have q2 := (hSw.cell (p := ⟨b, 2, none⟩) l2).trans k2; have hl := (HA.out.grow hSw).look HX.out; rw [← HAT.out] at hl; go_simp; try with_reducible rfl
    try simp only [Act.put, List.setIfInBounds_toArray, List.set_cons_zero, List.set_cons_succ]
    refine wpAnyF_done (by kernel_rfl) ?_ _
    clear hS
    go_wp2_with fail
    go_ret
    exact ⟨by rw [HM.out]; rfl, HB7.out⟩
  exact AllReadyF.nil

set_option maxHeartbeats 1000000 in
theorem hold2_any {b m n g0 g1 g2 : Nat} {a : Acc} {w : World} (h : AccAt w b m n a) (hn : n < maxLen) {x v : Int} (hx : -9223372036854775808 ≤ x ∧ x ≤ 9223372036854775807) (hv : -9223372036854775808 ≤ v ∧ v ≤ 9223372036854775807) (h0 : Blk w g0 23 #[.pointer (some ⟨b, 0, none⟩)]) (h1 : Blk w g1 3 #[.int .i64 x]) (h2 : Blk w g2 2 #[.int .i64 v]) :
    Calls Try.prog 36 #[.pointer (some ⟨g0, 0, none⟩), .pointer (some ⟨g1, 0, none⟩), .pointer (some ⟨g2, 0, none⟩)] w fun e w' => e = .returned (.tuple #[]) ∧ AccAt w' b m (n + 1) (a.set x v) ∧ Chg (· = m) w w' := by
  have k0 : w.cell? ⟨g0, 0, none⟩ = some (.pointer (some ⟨b, 0, none⟩)) := h0.cell 0
  have k1 : w.cell? ⟨g1, 0, none⟩ = some (.int .i64 x) := h1.cell 0
  have k2 : w.cell? ⟨g2, 0, none⟩ = some (.int .i64 v) := h2.cell 0
  have HA := Lib.hid h
  have HX := Lib.hid hx
  have HV := Lib.hid hv
  have HN := Lib.hid hn
  clear h hx hv hn h0 h1 h2
  go_enter Try.func36, Try.ntmps36
  go_wp2_with fail
  refine (set_any HA.out HN.out HX.out HV.out).mono ?_
  rintro e w1 ⟨rfl, h1, h2⟩
  have H1 := Lib.hid h1
  have H2 := Lib.hid h2
  clear h1 h2
  go_wp2_with fail
  go_end0
  exact ⟨rfl, H1.out, H2.out⟩

theorem can2_any (w : World) : Calls Try.prog 55 #[] w fun e w' => e = .returned (.tuple #[]) ∧ w' = w := by
  go_enter Try.func55, Try.ntmps55
  go_wp2_with fail
  go_end0
  exact ⟨rfl, rfl⟩

theorem release1_any (w : World) : Calls Try.prog 61 #[] w fun e w' => e = .returned (.int .i64 0) ∧ w' = w := by
  go_enter Try.func61, Try.ntmps61
  go_wp2_with fail
  go_ret
  exact ⟨rfl, rfl⟩

set_option maxHeartbeats 1000000 in
theorem release2_any {b m n g0 g1 : Nat} {a : Acc} {w : World} (h : AccAt w b m n a) (hn : n < maxLen) {x : Int} (hx : -9223372036854775808 ≤ x ∧ x ≤ 9223372036854775807) (h0 : Blk w g0 23 #[.pointer (some ⟨b, 0, none⟩)]) (h1 : Blk w g1 3 #[.int .i64 x]) :
    Calls Try.prog 62 #[.pointer (some ⟨g0, 0, none⟩), .pointer (some ⟨g1, 0, none⟩)] w fun e w' => e = .returned (.tuple #[]) ∧ AccAt w' b m (n + 1) (a.set x 0) ∧ Chg (· = m) w w' := by
  have k0 : w.cell? ⟨g0, 0, none⟩ = some (.pointer (some ⟨b, 0, none⟩)) := h0.cell 0
  have k1 : w.cell? ⟨g1, 0, none⟩ = some (.int .i64 x) := h1.cell 0
  have HA := Lib.hid h
  have HX := Lib.hid hx
  have HN := Lib.hid hn
  clear h hx hn h0 h1
  go_enter Try.func62, Try.ntmps62
  go_wp2_with fail
  refine (set_any HA.out HN.out HX.out (by omega)).mono ?_
  rintro e w1 ⟨rfl, h1, h2⟩
  have H1 := Lib.hid h1
  have H2 := Lib.hid h2
  clear h1 h2
  go_wp2_with fail
  go_end0
  exact ⟨rfl, H1.out, H2.out⟩

set_option maxRecDepth 100000 in
set_option maxHeartbeats 2000000 in
theorem pay1_any {b m n g0 g1 : Nat} {a : Acc} {w : World} (h : AccAt w b m n a) {x : Int} (hx : -9223372036854775808 ≤ x ∧ x ≤ 9223372036854775807) (h0 : Blk w g0 23 #[.pointer (some ⟨b, 0, none⟩)]) (h1 : Blk w g1 3 #[.int .i64 x]) :
    Calls Try.prog 59 #[.pointer (some ⟨g0, 0, none⟩), .pointer (some ⟨g1, 0, none⟩)] w fun e w' => e = .returned (.int .i64 (atM a.M x)) ∧ Below w.heap.size w w' := by
  have k0 : w.cell? ⟨g0, 0, none⟩ = some (.pointer (some ⟨b, 0, none⟩)) := h0.cell 0
  have k1 : w.cell? ⟨g1, 0, none⟩ = some (.int .i64 x) := h1.cell 0
  have k2 : w.cell? ⟨b, 2, none⟩ = some (.map (some m)) := h.blk.cell 2
  have l0 := h0.lt
  have l1 := h1.lt
  have l2 := h.blk.lt
  have HA := Lib.hid h
  have HX := Lib.hid hx
  obtain ⟨at_, hat⟩ : ∃ z, z = atM a.M x := ⟨_, rfl⟩
  rw [← hat]
  have HAT := Lib.hid hat
  clear h hx h0 h1 hat
  go_enter Try.func59, Try.ntmps59
  go_wp2_with fail
  refine wp_region_F (Below w.heap.size w) [] (by kernel_rfl) ((Below.refl _ _).drew) (fun hS => ?_)
  refine wpAnyF_take (i := 0) (oi := { dst := some 3, op := Go.Op.load 23 (Go.Operand.tmp 0), type := 23, pos := "account.go:98", after := #[], guard := none }) (v := ?_) rfl (by kernel_rfl) (by kernel_rfl) (by kernel_rfl) (by kernel_rfl) (fun _ _ _ h => h) (Or.inl ⟨by rfl, ?_⟩) hS ?_
  rotate_left
  · intro w' hSw; have q0 := (hSw.cell (p := ⟨g0, 0, none⟩) l0).trans k0; have q1 := (hSw.cell (p := ⟨g1, 0, none⟩) l1).trans k1; have q2 := (hSw.cell (p := ⟨b, 2, none⟩) l2).trans k2; have hl := (HA.out.grow hSw).look HX.out; rw [← HAT.out] at hl; go_simp; try with_reducible rfl
  try simp only [Act.put, List.setIfInBounds_toArray, List.set_cons_zero, List.set_cons_succ]
  refine wpAnyF_take (i := 1) (oi := { dst := some 4, op := Go.Op.nilCheck (Go.Operand.tmp 3), type := 0, pos := "account.go:98", after := #[{ on := 0, ground := Go.Ground.data }], guard := none }) (v := ?_) rfl (by kernel_rfl) (by kernel_rfl) (by kernel_rfl) (by kernel_rfl) (fun _ _ _ h => h) (Or.inl ⟨by rfl, ?_⟩) hS ?_
  rotate_left
  · intro w' hSw; have q0 := (hSw.cell (p := ⟨g0, 0, none⟩) l0).trans k0; have q1 := (hSw.cell (p := ⟨g1, 0, none⟩) l1).trans k1; have q2 := (hSw.cell (p := ⟨b, 2, none⟩) l2).trans k2; have hl := (HA.out.grow hSw).look HX.out; rw [← HAT.out] at hl; go_simp; try with_reducible rfl
  try simp only [Act.put, List.setIfInBounds_toArray, List.set_cons_zero, List.set_cons_succ]
  refine wpAnyF_take (i := 2) (oi := { dst := some 5, op := Go.Op.fieldAddr 67 (Go.Operand.tmp 4) 2, type := 0, pos := "account.go:98", after := #[{ on := 1, ground := Go.Ground.data }], guard := none }) (v := ?_) rfl (by kernel_rfl) (by kernel_rfl) (by kernel_rfl) (by kernel_rfl) (fun _ _ _ h => h) (Or.inl ⟨by rfl, ?_⟩) hS ?_
  rotate_left
  · intro w' hSw; have q0 := (hSw.cell (p := ⟨g0, 0, none⟩) l0).trans k0; have q1 := (hSw.cell (p := ⟨g1, 0, none⟩) l1).trans k1; have q2 := (hSw.cell (p := ⟨b, 2, none⟩) l2).trans k2; have hl := (HA.out.grow hSw).look HX.out; rw [← HAT.out] at hl; go_simp; try with_reducible rfl
  try simp only [Act.put, List.setIfInBounds_toArray, List.set_cons_zero, List.set_cons_succ]
  refine wpAnyF_take (i := 3) (oi := { dst := some 6, op := Go.Op.load 65 (Go.Operand.tmp 5), type := 65, pos := "account.go:98", after := #[{ on := 2, ground := Go.Ground.data }], guard := none }) (v := ?_) rfl (by kernel_rfl) (by kernel_rfl) (by kernel_rfl) (by kernel_rfl) (fun _ _ _ h => h) (Or.inl ⟨by rfl, ?_⟩) hS ?_
  rotate_left
  · intro w' hSw; have q0 := (hSw.cell (p := ⟨g0, 0, none⟩) l0).trans k0; have q1 := (hSw.cell (p := ⟨g1, 0, none⟩) l1).trans k1; have q2 := (hSw.cell (p := ⟨b, 2, none⟩) l2).trans k2; have hl := (HA.out.grow hSw).look HX.out; rw [← HAT.out] at hl; go_simp; try with_reducible rfl
  try simp only [Act.put, List.setIfInBounds_toArray, List.set_cons_zero, List.set_cons_succ]
  refine wpAnyF_take (i := 4) (oi := { dst := some 7, op := Go.Op.load 3 (Go.Operand.tmp 1), type := 3, pos := "account.go:98", after := #[], guard := none }) (v := ?_) rfl (by kernel_rfl) (by kernel_rfl) (by kernel_rfl) (by kernel_rfl) (fun _ _ _ h => h) (Or.inl ⟨by rfl, ?_⟩) hS ?_
  rotate_left
  · intro w' hSw; have q0 := (hSw.cell (p := ⟨g0, 0, none⟩) l0).trans k0; have q1 := (hSw.cell (p := ⟨g1, 0, none⟩) l1).trans k1; have q2 := (hSw.cell (p := ⟨b, 2, none⟩) l2).trans k2; have hl := (HA.out.grow hSw).look HX.out; rw [← HAT.out] at hl; go_simp; try with_reducible rfl
  try simp only [Act.put, List.setIfInBounds_toArray, List.set_cons_zero, List.set_cons_succ]
  refine wpAnyF_take (i := 5) (oi := { dst := some 8, op := Go.Op.lookup 65 (Go.Operand.tmp 6) (Go.Operand.tmp 7) false, type := 2, pos := "account.go:98", after := #[{ on := 3, ground := Go.Ground.data }, { on := 4, ground := Go.Ground.data }], guard := none }) (v := ?_) rfl (by kernel_rfl) (by kernel_rfl) (by kernel_rfl) (by kernel_rfl) (fun _ _ _ h => h) (Or.inl ⟨by rfl, ?_⟩) hS ?_
  rotate_left
  · intro w' hSw; have q0 := (hSw.cell (p := ⟨g0, 0, none⟩) l0).trans k0; have q1 := (hSw.cell (p := ⟨g1, 0, none⟩) l1).trans k1; have q2 := (hSw.cell (p := ⟨b, 2, none⟩) l2).trans k2; have hl := (HA.out.grow hSw).look HX.out; rw [← HAT.out] at hl; go_simp; try with_reducible rfl
  try simp only [Act.put, List.setIfInBounds_toArray, List.set_cons_zero, List.set_cons_succ]
  refine wpAnyF_take (i := 6) (oi := { dst := some 2, op := Go.Op.assign (Go.Operand.tmp 8), type := 2, pos := "account.go:98", after := #[{ on := 5, ground := Go.Ground.data }, { on := 0, ground := Go.Ground.phase }, { on := 1, ground := Go.Ground.phase }, { on := 2, ground := Go.Ground.phase }, { on := 3, ground := Go.Ground.phase }, { on := 4, ground := Go.Ground.phase }, { on := 5, ground := Go.Ground.phase }], guard := none }) (v := ?_) rfl (by kernel_rfl) (by kernel_rfl) (by kernel_rfl) (by kernel_rfl) (fun _ _ _ h => h) (Or.inl ⟨by rfl, ?_⟩) hS ?_
  rotate_left
  · intro w' hSw; have q0 := (hSw.cell (p := ⟨g0, 0, none⟩) l0).trans k0; have q1 := (hSw.cell (p := ⟨g1, 0, none⟩) l1).trans k1; have q2 := (hSw.cell (p := ⟨b, 2, none⟩) l2).trans k2; have hl := (HA.out.grow hSw).look HX.out; rw [← HAT.out] at hl; go_simp; try with_reducible rfl
  try simp only [Act.put, List.setIfInBounds_toArray, List.set_cons_zero, List.set_cons_succ]
  refine wpAnyF_done (by kernel_rfl) ?_ _
  go_wp2_with fail
  go_ret
  exact ⟨rfl, hS⟩
end Go.Proofs.Ytibhmgeckghoeaa.Ac

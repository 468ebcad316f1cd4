/- Account: New, Copy, Same. -/
import Derived.Test.YtibhmgeckghoeaaAccN
namespace Go.Proofs.Ytibhmgeckghoeaa.Ac
open Go.RowKit Go.Shelf Go.Maps
open Go.Proofs.Ytibhmgeckghoeaa.Vb
attribute [local go_sem] Oper.semAt_some

def newE (bud : Int) : Int := if coin bud then 0 else 2
theorem ofE_new (bud : Int) : ofE bud 0 [] = newE bud := by
  unfold newE
  by_cases h : coin bud
  · rw [if_pos h, ofE_ok h (by decide) rfl (by have := h.1; simp [sumM]; omega)]
  · rw [if_neg h, ofE_arg (.inl h)]
def newA (bud : Int) : Acc := ⟨bud, 0, []⟩

set_option maxHeartbeats 1000000 in
theorem new_any (bud : Int) (w : World) :
    Calls Try.prog 7 #[.int .i64 bud] w fun e w' => Below w.heap.size w w' ∧
      ((¬ coin bud ∧ e = .returned (.tuple #[.pointer none, .int .i64 2])) ∨
       (coin bud ∧ e = .returned (.tuple #[.pointer (some ⟨w.heap.size + 1, 0, none⟩), .int .i64 0]) ∧ AccAt w' (w.heap.size + 1) w.heap.size 0 (newA bud))) := by
  have HE := Lib.hid (ofE_new bud)
  go_enter Try.func7, Try.ntmps7
  go_wp2_with fail
  refine (of_any (bud := bud) (sp := 0) (Helds.nil w (fun _ => True))).mono ?_
  rintro e w1 ⟨hb, (⟨h1, rfl⟩ | ⟨h1, rfl, hA⟩)⟩
  · have HB := Lib.hid hb
    have h2 : ¬ coin bud ∧ ofE bud 0 [] = 2 := by
      rw [HE.out] at h1 ⊢
      unfold newE at h1 ⊢
      by_cases h : coin bud
      · rw [if_pos h] at h1; exact absurd rfl h1
      · exact ⟨h, if_neg h⟩
    rw [h2.2]
    have H2 := Lib.hid h2.1
    clear hb h1 h2
    go_wp2_with fail
    refine bodyPost_ret (v := .tuple #[.pointer none, .int .i64 2]) (by simp [results, Try.results7, go_sem]) rfl ⟨HB.out, .inl ⟨H2.out, rfl⟩⟩
  · have HB := Lib.hid hb
    have HA := Lib.hid hA
    have H2 := Lib.hid (show coin bud from by
      rw [HE.out] at h1
      unfold newE at h1
      by_cases h : coin bud
      · exact h
      · rw [if_neg h] at h1; omega)
    clear hb h1 hA
    go_wp2_with fail
    refine bodyPost_ret (v := .tuple #[.pointer (some ⟨w.heap.size + 1, 0, none⟩), .int .i64 0]) (by simp [results, Try.results7, go_sem]) rfl ⟨HB.out, .inr ⟨H2.out, rfl, HA.out⟩⟩

set_option maxRecDepth 100000 in
set_option maxHeartbeats 2000000 in
theorem copy_live {b m n : Nat} {a : Acc} {w : World} (h : AccAt w b m n a) :
    Calls Try.prog 16 #[.pointer (some ⟨b, 0, none⟩)] w fun e w' => Below w.heap.size w w' ∧ ∃ b' m', e = .returned (.pointer (some ⟨b', 0, none⟩)) ∧ w.heap.size ≤ b' ∧ w.heap.size ≤ m' ∧ AccAt w' b' m' n a := by
  have HV := Lib.hid (show AtP w (.pointer (some ⟨b, 0, none⟩)) (.live a) from ⟨b, m, n, rfl, h⟩)
  have HT := Lib.hid (show (Fm.live a).there = true from rfl)
  have k0 : w.cell? ⟨b, 0, none⟩ = some (.int .i64 a.bud) := h.blk.cell 0
  have k1 : w.cell? ⟨b, 1, none⟩ = some (.int .i64 a.sp) := h.blk.cell 1
  have k2 : w.cell? ⟨b, 2, none⟩ = some (.map (some m)) := h.blk.cell 2
  have l2 := h.blk.lt
  have HA := Lib.hid h
  clear h
  go_enter Try.func16, Try.ntmps16
  go_wp2_with fail
  refine (there_any HV.out).mono ?_
  rintro e w3 ⟨rfl, rfl⟩
  rw [HT.out]
  go_wp2_with fail
  refine wp_region_F (Below w3.heap.size w3) [] (by kernel_rfl) ((Below.refl _ _).drew) (fun hS => ?_)
  refine wpAnyF_take (i := 0) (oi := { dst := some 6, op := Go.Op.move (Go.Operand.tmp 0), type := 23, pos := "account.go:170", after := #[], guard := none }) (v := ?_) rfl (by kernel_rfl) (by kernel_rfl) (by kernel_rfl) (by kernel_rfl) (fun _ _ _ h => h) (Or.inl ⟨by rfl, ?_⟩) hS ?_
  rotate_left
  · intro w' hSw; have q0 := (hSw.cell (p := ⟨b, 0, none⟩) l2).trans k0; have q1 := (hSw.cell (p := ⟨b, 1, none⟩) l2).trans k1; have q2 := (hSw.cell (p := ⟨b, 2, none⟩) l2).trans k2; go_simp; try with_reducible rfl
  try simp only [Act.put, List.setIfInBounds_toArray, List.set_cons_zero, List.set_cons_succ]
  refine wpAnyF_take (i := 1) (oi := { dst := some 7, op := Go.Op.nilCheck (Go.Operand.tmp 6), type := 0, pos := "account.go:170", after := #[{ on := 0, ground := Go.Ground.data }], guard := none }) (v := ?_) rfl (by kernel_rfl) (by kernel_rfl) (by kernel_rfl) (by kernel_rfl) (fun _ _ _ h => h) (Or.inl ⟨by rfl, ?_⟩) hS ?_
  rotate_left
  · intro w' hSw; have q0 := (hSw.cell (p := ⟨b, 0, none⟩) l2).trans k0; have q1 := (hSw.cell (p := ⟨b, 1, none⟩) l2).trans k1; have q2 := (hSw.cell (p := ⟨b, 2, none⟩) l2).trans k2; go_simp; try with_reducible rfl
  try simp only [Act.put, List.setIfInBounds_toArray, List.set_cons_zero, List.set_cons_succ]
  refine wpAnyF_take (i := 2) (oi := { dst := some 8, op := Go.Op.fieldAddr 67 (Go.Operand.tmp 7) 0, type := 0, pos := "account.go:170", after := #[{ on := 1, ground := Go.Ground.data }], guard := none }) (v := ?_) rfl (by kernel_rfl) (by kernel_rfl) (by kernel_rfl) (by kernel_rfl) (fun _ _ _ h => h) (Or.inl ⟨by rfl, ?_⟩) hS ?_
  rotate_left
  · intro w' hSw; have q0 := (hSw.cell (p := ⟨b, 0, none⟩) l2).trans k0; have q1 := (hSw.cell (p := ⟨b, 1, none⟩) l2).trans k1; have q2 := (hSw.cell (p := ⟨b, 2, none⟩) l2).trans k2; go_simp; try with_reducible rfl
  try simp only [Act.put, List.setIfInBounds_toArray, List.set_cons_zero, List.set_cons_succ]
  refine wpAnyF_take (i := 3) (oi := { dst := some 9, op := Go.Op.load 2 (Go.Operand.tmp 8), type := 2, pos := "account.go:170", after := #[{ on := 2, ground := Go.Ground.data }], guard := none }) (v := ?_) rfl (by kernel_rfl) (by kernel_rfl) (by kernel_rfl) (by kernel_rfl) (fun _ _ _ h => h) (Or.inl ⟨by rfl, ?_⟩) hS ?_
  rotate_left
  · intro w' hSw; have q0 := (hSw.cell (p := ⟨b, 0, none⟩) l2).trans k0; have q1 := (hSw.cell (p := ⟨b, 1, none⟩) l2).trans k1; have q2 := (hSw.cell (p := ⟨b, 2, none⟩) l2).trans k2; go_simp; try with_reducible rfl
  try simp only [Act.put, List.setIfInBounds_toArray, List.set_cons_zero, List.set_cons_succ]
  refine wpAnyF_take (i := 4) (oi := { dst := some 10, op := Go.Op.move (Go.Operand.tmp 0), type := 23, pos := "account.go:170", after := #[], guard := none }) (v := ?_) rfl (by kernel_rfl) (by kernel_rfl) (by kernel_rfl) (by kernel_rfl) (fun _ _ _ h => h) (Or.inl ⟨by rfl, ?_⟩) hS ?_
  rotate_left
  · intro w' hSw; have q0 := (hSw.cell (p := ⟨b, 0, none⟩) l2).trans k0; have q1 := (hSw.cell (p := ⟨b, 1, none⟩) l2).trans k1; have q2 := (hSw.cell (p := ⟨b, 2, none⟩) l2).trans k2; go_simp; try with_reducible rfl
  try simp only [Act.put, List.setIfInBounds_toArray, List.set_cons_zero, List.set_cons_succ]
  refine wpAnyF_take (i := 5) (oi := { dst := some 11, op := Go.Op.nilCheck (Go.Operand.tmp 10), type := 0, pos := "account.go:170", after := #[{ on := 4, ground := Go.Ground.data }], guard := none }) (v := ?_) rfl (by kernel_rfl) (by kernel_rfl) (by kernel_rfl) (by kernel_rfl) (fun _ _ _ h => h) (Or.inl ⟨by rfl, ?_⟩) hS ?_
  rotate_left
  · intro w' hSw; have q0 := (hSw.cell (p := ⟨b, 0, none⟩) l2).trans k0; have q1 := (hSw.cell (p := ⟨b, 1, none⟩) l2).trans k1; have q2 := (hSw.cell (p := ⟨b, 2, none⟩) l2).trans k2; go_simp; try with_reducible rfl
  try simp only [Act.put, List.setIfInBounds_toArray, List.set_cons_zero, List.set_cons_succ]
  refine wpAnyF_take (i := 6) (oi := { dst := some 12, op := Go.Op.fieldAddr 67 (Go.Operand.tmp 11) 1, type := 0, pos := "account.go:170", after := #[{ on := 5, ground := Go.Ground.data }], guard := none }) (v := ?_) rfl (by kernel_rfl) (by kernel_rfl) (by kernel_rfl) (by kernel_rfl) (fun _ _ _ h => h) (Or.inl ⟨by rfl, ?_⟩) hS ?_
  rotate_left
  · intro w' hSw; have q0 := (hSw.cell (p := ⟨b, 0, none⟩) l2).trans k0; have q1 := (hSw.cell (p := ⟨b, 1, none⟩) l2).trans k1; have q2 := (hSw.cell (p := ⟨b, 2, none⟩) l2).trans k2; go_simp; try with_reducible rfl
  try simp only [Act.put, List.setIfInBounds_toArray, List.set_cons_zero, List.set_cons_succ]
  refine wpAnyF_take (i := 7) (oi := { dst := some 13, op := Go.Op.load 2 (Go.Operand.tmp 12), type := 2, pos := "account.go:170", after := #[{ on := 6, ground := Go.Ground.data }], guard := none }) (v := ?_) rfl (by kernel_rfl) (by kernel_rfl) (by kernel_rfl) (by kernel_rfl) (fun _ _ _ h => h) (Or.inl ⟨by rfl, ?_⟩) hS ?_
  rotate_left
  · intro w' hSw; have q0 := (hSw.cell (p := ⟨b, 0, none⟩) l2).trans k0; have q1 := (hSw.cell (p := ⟨b, 1, none⟩) l2).trans k1; have q2 := (hSw.cell (p := ⟨b, 2, none⟩) l2).trans k2; go_simp; try with_reducible rfl
  try simp only [Act.put, List.setIfInBounds_toArray, List.set_cons_zero, List.set_cons_succ]
  refine wpAnyF_take (i := 8) (oi := { dst := some 14, op := Go.Op.move (Go.Operand.tmp 0), type := 23, pos := "account.go:170", after := #[], guard := none }) (v := ?_) rfl (by kernel_rfl) (by kernel_rfl) (by kernel_rfl) (by kernel_rfl) (fun _ _ _ h => h) (Or.inl ⟨by rfl, ?_⟩) hS ?_
  rotate_left
  · intro w' hSw; have q0 := (hSw.cell (p := ⟨b, 0, none⟩) l2).trans k0; have q1 := (hSw.cell (p := ⟨b, 1, none⟩) l2).trans k1; have q2 := (hSw.cell (p := ⟨b, 2, none⟩) l2).trans k2; go_simp; try with_reducible rfl
  try simp only [Act.put, List.setIfInBounds_toArray, List.set_cons_zero, List.set_cons_succ]
  refine wpAnyF_take (i := 9) (oi := { dst := some 15, op := Go.Op.nilCheck (Go.Operand.tmp 14), type := 0, pos := "account.go:170", after := #[{ on := 8, ground := Go.Ground.data }], guard := none }) (v := ?_) rfl (by kernel_rfl) (by kernel_rfl) (by kernel_rfl) (by kernel_rfl) (fun _ _ _ h => h) (Or.inl ⟨by rfl, ?_⟩) hS ?_
  rotate_left
  · intro w' hSw; have q0 := (hSw.cell (p := ⟨b, 0, none⟩) l2).trans k0; have q1 := (hSw.cell (p := ⟨b, 1, none⟩) l2).trans k1; have q2 := (hSw.cell (p := ⟨b, 2, none⟩) l2).trans k2; go_simp; try with_reducible rfl
  try simp only [Act.put, List.setIfInBounds_toArray, List.set_cons_zero, List.set_cons_succ]
  refine wpAnyF_take (i := 10) (oi := { dst := some 16, op := Go.Op.fieldAddr 67 (Go.Operand.tmp 15) 2, type := 0, pos := "account.go:170", after := #[{ on := 9, ground := Go.Ground.data }], guard := none }) (v := ?_) rfl (by kernel_rfl) (by kernel_rfl) (by kernel_rfl) (by kernel_rfl) (fun _ _ _ h => h) (Or.inl ⟨by rfl, ?_⟩) hS ?_
  rotate_left
  · intro w' hSw; have q0 := (hSw.cell (p := ⟨b, 0, none⟩) l2).trans k0; have q1 := (hSw.cell (p := ⟨b, 1, none⟩) l2).trans k1; have q2 := (hSw.cell (p := ⟨b, 2, none⟩) l2).trans k2; go_simp; try with_reducible rfl
  try simp only [Act.put, List.setIfInBounds_toArray, List.set_cons_zero, List.set_cons_succ]
  refine wpAnyF_take (i := 11) (oi := { dst := some 17, op := Go.Op.load 65 (Go.Operand.tmp 16), type := 65, pos := "account.go:170", after := #[{ on := 10, ground := Go.Ground.data }], guard := none }) (v := ?_) rfl (by kernel_rfl) (by kernel_rfl) (by kernel_rfl) (by kernel_rfl) (fun _ _ _ h => h) (Or.inl ⟨by rfl, ?_⟩) hS ?_
  rotate_left
  · intro w' hSw; have q0 := (hSw.cell (p := ⟨b, 0, none⟩) l2).trans k0; have q1 := (hSw.cell (p := ⟨b, 1, none⟩) l2).trans k1; have q2 := (hSw.cell (p := ⟨b, 2, none⟩) l2).trans k2; go_simp; try with_reducible rfl
  try simp only [Act.put, List.setIfInBounds_toArray, List.set_cons_zero, List.set_cons_succ]
  refine wpAnyF_ready (rs := [12]) (by kernel_rfl) (by simp) ?_
  refine AllReadyF.cons (o := { dst := some 18, op := Go.Op.call { callee := Go.Callee.value (Go.Operand.func 42), args := #[Go.Operand.tmp 17], argTypes := #[65] }, type := 65, pos := "account.go:170", after := #[{ on := 11, ground := Go.Ground.data }], guard := none }) rfl (by rfl) (fun K hK => ?_) ?_
  · go_simp
    refine (clone_any (HA.out.grow (Below.refl w3.heap.size w3).drew)).mono ?_
    rintro e w7 ⟨rfl, hm7, hb7⟩
    refine hK.out _ _ ?_ (fun hS => ?_)
    · exact (Below.refl w3.heap.size w3).drew.trans (hb7.mono (by simp))
    clear hK K
    try simp only [Act.put, List.setIfInBounds_toArray, List.set_cons_zero, List.set_cons_succ]
    have HB7 := Lib.hid ((Below.refl w3.heap.size w3).drew.trans (hb7.mono (by simp)))
    have HM7 := Lib.hid hm7
    clear hb7 hm7
    refine wpAnyF_take (i := 13) (oi := { dst := some 19, op := Go.Op.build 67 #[(0, Go.Operand.tmp 9), (1, Go.Operand.tmp 13), (2, Go.Operand.tmp 18)], type := 67, pos := "account.go:170", after := #[{ on := 3, ground := Go.Ground.data }, { on := 7, ground := Go.Ground.data }, { on := 12, ground := Go.Ground.data }], guard := none }) (v := ?_) rfl (by kernel_rfl) (by kernel_rfl) (by kernel_rfl) (by kernel_rfl) (fun _ _ _ h => h) (Or.inl ⟨by rfl, ?_⟩) hS ?_
    rotate_left
    · intro w' hSw; have q0 := (hSw.cell (p := ⟨b, 0, none⟩) l2).trans k0; have q1 := (hSw.cell (p := ⟨b, 1, none⟩) l2).trans k1; have q2 := (hSw.cell (p := ⟨b, 2, none⟩) l2).trans k2; go_simp; try with_reducible rfl
    try simp only [Act.put, List.setIfInBounds_toArray, List.set_cons_zero, List.set_cons_succ]
    refine wpAnyF_ready (rs := [14]) (by kernel_rfl) (by simp) ?_
    refine AllReadyF.cons (o := { dst := some 20, op := Go.Op.box 67 (Go.Operand.tmp 19), type := 23, pos := "account.go:170", after := #[{ on := 13, ground := Go.Ground.data }], guard := none }) rfl (by rfl) (fun K hK => ?_) ?_
    · go_simp
      refine hK.out _ _ ?_ (fun hS => ?_)
      · exact hS.alloc HB7.out.size _
      clear hK K
      try simp only [Act.put, List.setIfInBounds_toArray, List.set_cons_zero, List.set_cons_succ]
      refine wpAnyF_take (i := 15) (oi := { dst := some 2, op := Go.Op.assign (Go.Operand.tmp 20), type := 23, pos := "account.go:170", after := #[{ on := 14, ground := Go.Ground.data }, { on := 12, ground := Go.Ground.chain }, { on := 0, ground := Go.Ground.phase }, { on := 1, ground := Go.Ground.phase }, { on := 2, ground := Go.Ground.phase }, { on := 3, ground := Go.Ground.phase }, { on := 4, ground := Go.Ground.phase }, { on := 5, ground := Go.Ground.phase }, { on := 6, ground := Go.Ground.phase }, { on := 7, ground := Go.Ground.phase }, { on := 8, ground := Go.Ground.phase }, { on := 9, ground := Go.Ground.phase }, { on := 10, ground := Go.Ground.phase }, { on := 11, ground := Go.Ground.phase }, { on := 12, ground := Go.Ground.phase }, { on := 13, ground := Go.Ground.phase }, { on := 14, ground := Go.Ground.phase }], guard := none }) (v := ?_) rfl (by kernel_rfl) (by kernel_rfl) (by kernel_rfl) (by kernel_rfl) (fun _ _ _ h => h) (Or.inl ⟨by rfl, ?_⟩) hS ?_
      rotate_left
      · intro w' hSw; have q0 := (hSw.cell (p := ⟨b, 0, none⟩) l2).trans k0; have q1 := (hSw.cell (p := ⟨b, 1, none⟩) l2).trans k1; have q2 := (hSw.cell (p := ⟨b, 2, none⟩) l2).trans k2; go_simp; try with_reducible rfl
      try simp only [Act.put, List.setIfInBounds_toArray, List.set_cons_zero, List.set_cons_succ]
      refine wpAnyF_done (by kernel_rfl) ?_ _
      go_wp2_with fail
      go_ret
      exact ⟨HB7.out.alloc HB7.out.size _, w7.heap.size, w3.heap.size, rfl, HB7.out.size, Nat.le_refl _, ⟨Blk.new w7 _ _, HM7.out.alloc _⟩⟩
    exact AllReadyF.nil
  exact AllReadyF.nil

theorem copy_dead {v : Value} {f : Fm} {w : World} (h : AtP w v f) (hf : f.there = false) :
    Calls Try.prog 16 #[v] w fun e w' => e = .returned (.pointer none) ∧ w' = w := by
  have HV := Lib.hid h
  have HF := Lib.hid hf
  clear h hf
  go_enter Try.func16, Try.ntmps16
  go_wp2_with fail
  refine (there_any HV.out).mono ?_
  rintro e w3 ⟨rfl, rfl⟩
  rw [HF.out]
  go_wp2_with fail
  go_ret
  exact ⟨rfl, rfl⟩
end Go.Proofs.Ytibhmgeckghoeaa.Ac

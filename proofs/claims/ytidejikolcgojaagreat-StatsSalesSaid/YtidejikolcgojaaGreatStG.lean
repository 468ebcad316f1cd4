/- Stats: the closures that sums are handed; the document's rows out of rows. (Printed by tools/gen_stg.py.) -/
import Derived.Test.YtidejikolcgojaaGreatStF
namespace Go.Proofs.YtidejikolcgojaaGreat.St
open Go.RowKit Go.Shelf
open Go.Proofs.YtidejikolcgojaaGreat.Vb Go.Proofs.YtidejikolcgojaaGreat.Ac
attribute [local go_sem] run_fadd run_fsub run_fmul run_fdiv run_store_float

/-- a variable that holds a number -/
def NumAt (W : World) (g : Nat) (f : Fl) : Prop := ∃ x, Blk W g 27 #[.float .f64 x] ∧ IsF x f
theorem NumAt.grow {W W' : World} {g : Nat} {f : Fl} (h : NumAt W g f) (hb : Below W.heap.size W W') : NumAt W' g f := by
  obtain ⟨x, h1, h2⟩ := h
  exact ⟨x, h1.grow hb, h2⟩
theorem RowAt.lt {W : World} {g : Nat} {R : Nat → Prop} {l : List Nat} (h : RowAt W g R l) : ∀ x ∈ l, x < bits64 := by
  obtain ⟨v, _, h2⟩ := h
  exact h2.2

/-- products of two rows less two numbers, place by place -/
def prodL (x : List Fl) (a : Fl) (y : List Fl) (b : Fl) : List Fl := List.zipWith (fun p q => fmul (fsub p a) (fsub q b)) x y
/-- the squares of a row's shares -/
def shareL (x : List Fl) (s : Fl) : List Fl := x.map fun p => fmul (fdiv p s) (fdiv p s)
/-- the numbers at the places from one on, each fourth -/
def everyL {α : Type} (l : List α) (p : Nat) : List α := (List.range ((l.length + 3 - p) / 4)).filterMap fun i => l[4 * i + p]?
theorem et_f64 : ElemT Tryz.prog 24 27 1 8 := elemT_of Tryz.underlying24 (by omega) (z := .float .f64 0) (by kernel_rfl) rfl

set_option maxRecDepth 100000 in
set_option maxHeartbeats 2000000 in
theorem fit1_any {W : World} {gt gx gm gn : Nat} {R R' : Nat → Prop} {t x : List Nat} {mt mx : Fl} (ht : RowAt W gt R t) (hx : RowAt W gx R' x) (hm : NumAt W gm mt) (hn : NumAt W gn mx) {i a b : Nat} (hi : t[i]? = some a) (hj : x[i]? = some b) :
    Calls Tryz.prog 45 #[.int .i64 i, .pointer (some ⟨gt, 0, none⟩), .pointer (some ⟨gm, 0, none⟩), .pointer (some ⟨gx, 0, none⟩), .pointer (some ⟨gn, 0, none⟩)] W fun e W' => ∃ r, e = .returned (.float .f64 r) ∧ IsF r (fmul (fsub (cn a) mt) (fsub (cn b) mx)) ∧ Below W.heap.size W W' := by
  obtain ⟨vt, t1, t2⟩ := ht
  obtain ⟨vx, x1, x2⟩ := hx
  obtain ⟨um, m1, m2⟩ := hm
  obtain ⟨un, n1, n2⟩ := hn
  obtain ⟨A, cap, rfl, hnc, hcap⟩ := t2.form
  obtain ⟨A2, cap2, rfl, hnc2, hcap2⟩ := x2.form
  have hlt := (List.getElem?_eq_some_iff.1 hi).1
  have hlt2 := (List.getElem?_eq_some_iff.1 hj).1
  obtain ⟨bt, ot, rfl, _, lt1, q0, q1⟩ := t2.at_ hi
  obtain ⟨bx, ox, rfl, _, lx1, p0, p1⟩ := x2.at_ hj
  have k0 : W.cell? ⟨gt, 0, none⟩ = some (.slice (some ⟨bt, ot, none⟩) t.length cap) := t1.cell 0
  have k1 : W.cell? ⟨gx, 0, none⟩ = some (.slice (some ⟨bx, ox, none⟩) x.length cap2) := x1.cell 0
  have k2 : W.cell? ⟨gm, 0, none⟩ = some (.float .f64 um) := m1.cell 0
  have k3 : W.cell? ⟨gn, 0, none⟩ = some (.float .f64 un) := n1.cell 0
  have l0 := t1.lt
  have l1 := x1.lt
  have l2 := m1.lt
  have l3 := n1.lt
  have HA := Lib.hid (isF_self q1)
  have HB := Lib.hid (isF_self p1)
  have HM := Lib.hid m2
  have HN := Lib.hid n2
  have e1 : (0 : Int) ≤ (i : Int) := by omega
  have e2 : (i : Int) < (t.length : Int) := by omega
  have e3 : (i : Int) < (x.length : Int) := by omega
  clear t1 t2 x1 x2 m1 m2 n1 n2 hi hj q1 p1
  obtain ⟨I, hI⟩ : ∃ I : World → Prop, I = Below W.heap.size W := ⟨_, rfl⟩
  have hIn : ∀ W n, I W → I (W.drewN n) := by rw [hI]; exact fun W n h => below_drewN h n
  have hI1 : ∀ U, I U → Below W.heap.size W U := by rw [hI]; exact fun W h => h
  have HI := Lib.hid (show I W by rw [hI]; exact Below.refl _ _)
  clear hI
  go_enter Tryz.func45, Tryz.ntmps45
  go_wp2_with fail
  refine wp_region_F (Below W.heap.size W) [] (by kernel_rfl) ((Below.refl _ _).drew) (fun hS => ?_)
  refine wpAnyF_take (i := 0) (oi := { dst := some 7, op := Go.Op.load 24 (Go.Operand.tmp 1), type := 24, pos := "stats.go:216", after := #[], guard := none }) (v := ?_) rfl (by kernel_rfl) (by kernel_rfl) (by kernel_rfl) (by kernel_rfl) (fun _ _ _ h => h) (Or.inl ⟨by rfl, ?_⟩) hS ?_
  rotate_left
  · intro w' hSw; have z0 := (hSw.cell (p := ⟨gt, 0, none⟩) l0).trans k0; have z1 := (hSw.cell (p := ⟨gx, 0, none⟩) l1).trans k1; have z2 := (hSw.cell (p := ⟨gm, 0, none⟩) l2).trans k2; have z3 := (hSw.cell (p := ⟨gn, 0, none⟩) l3).trans k3; have z4 := (hSw.cell (p := ⟨bt, ot + i, none⟩) lt1).trans q0; have z5 := (hSw.cell (p := ⟨bx, ox + i, none⟩) lx1).trans p0; go_simp; try with_reducible rfl
  try simp only [Act.put, List.setIfInBounds_toArray, List.set_cons_zero, List.set_cons_succ]
  refine wpAnyF_take (i := 1) (oi := { dst := some 8, op := Go.Op.move (Go.Operand.tmp 0), type := 3, pos := "stats.go:216", after := #[], guard := none }) (v := ?_) rfl (by kernel_rfl) (by kernel_rfl) (by kernel_rfl) (by kernel_rfl) (fun _ _ _ h => h) (Or.inl ⟨by rfl, ?_⟩) hS ?_
  rotate_left
  · intro w' hSw; have z0 := (hSw.cell (p := ⟨gt, 0, none⟩) l0).trans k0; have z1 := (hSw.cell (p := ⟨gx, 0, none⟩) l1).trans k1; have z2 := (hSw.cell (p := ⟨gm, 0, none⟩) l2).trans k2; have z3 := (hSw.cell (p := ⟨gn, 0, none⟩) l3).trans k3; have z4 := (hSw.cell (p := ⟨bt, ot + i, none⟩) lt1).trans q0; have z5 := (hSw.cell (p := ⟨bx, ox + i, none⟩) lx1).trans p0; go_simp; try with_reducible rfl
  try simp only [Act.put, List.setIfInBounds_toArray, List.set_cons_zero, List.set_cons_succ]
  refine wpAnyF_take (i := 2) (oi := { dst := some 9, op := Go.Op.indexAddr 24 (Go.Operand.tmp 7) (Go.Operand.tmp 8), type := 0, pos := "stats.go:216", after := #[{ on := 0, ground := Go.Ground.data }, { on := 1, ground := Go.Ground.data }], guard := none }) (v := ?_) rfl (by kernel_rfl) (by kernel_rfl) (by kernel_rfl) (by kernel_rfl) (fun _ _ _ h => h) (Or.inl ⟨by rfl, ?_⟩) hS ?_
  rotate_left
  · intro w' hSw; have z0 := (hSw.cell (p := ⟨gt, 0, none⟩) l0).trans k0; have z1 := (hSw.cell (p := ⟨gx, 0, none⟩) l1).trans k1; have z2 := (hSw.cell (p := ⟨gm, 0, none⟩) l2).trans k2; have z3 := (hSw.cell (p := ⟨gn, 0, none⟩) l3).trans k3; have z4 := (hSw.cell (p := ⟨bt, ot + i, none⟩) lt1).trans q0; have z5 := (hSw.cell (p := ⟨bx, ox + i, none⟩) lx1).trans p0; go_simp; try with_reducible rfl
  try simp only [Act.put, List.setIfInBounds_toArray, List.set_cons_zero, List.set_cons_succ]
  refine wpAnyF_take (i := 3) (oi := { dst := some 10, op := Go.Op.load 27 (Go.Operand.tmp 9), type := 27, pos := "stats.go:216", after := #[{ on := 2, ground := Go.Ground.data }], guard := none }) (v := ?_) rfl (by kernel_rfl) (by kernel_rfl) (by kernel_rfl) (by kernel_rfl) (fun _ _ _ h => h) (Or.inl ⟨by rfl, ?_⟩) hS ?_
  rotate_left
  · intro w' hSw; have z0 := (hSw.cell (p := ⟨gt, 0, none⟩) l0).trans k0; have z1 := (hSw.cell (p := ⟨gx, 0, none⟩) l1).trans k1; have z2 := (hSw.cell (p := ⟨gm, 0, none⟩) l2).trans k2; have z3 := (hSw.cell (p := ⟨gn, 0, none⟩) l3).trans k3; have z4 := (hSw.cell (p := ⟨bt, ot + i, none⟩) lt1).trans q0; have z5 := (hSw.cell (p := ⟨bx, ox + i, none⟩) lx1).trans p0; go_simp; try with_reducible rfl
  try simp only [Act.put, List.setIfInBounds_toArray, List.set_cons_zero, List.set_cons_succ]
  refine wpAnyF_take (i := 4) (oi := { dst := some 11, op := Go.Op.load 27 (Go.Operand.tmp 2), type := 27, pos := "stats.go:216", after := #[], guard := none }) (v := ?_) rfl (by kernel_rfl) (by kernel_rfl) (by kernel_rfl) (by kernel_rfl) (fun _ _ _ h => h) (Or.inl ⟨by rfl, ?_⟩) hS ?_
  rotate_left
  · intro w' hSw; have z0 := (hSw.cell (p := ⟨gt, 0, none⟩) l0).trans k0; have z1 := (hSw.cell (p := ⟨gx, 0, none⟩) l1).trans k1; have z2 := (hSw.cell (p := ⟨gm, 0, none⟩) l2).trans k2; have z3 := (hSw.cell (p := ⟨gn, 0, none⟩) l3).trans k3; have z4 := (hSw.cell (p := ⟨bt, ot + i, none⟩) lt1).trans q0; have z5 := (hSw.cell (p := ⟨bx, ox + i, none⟩) lx1).trans p0; go_simp; try with_reducible rfl
  try simp only [Act.put, List.setIfInBounds_toArray, List.set_cons_zero, List.set_cons_succ]
  refine wpAnyF_take (i := 6) (oi := { dst := some 13, op := Go.Op.load 24 (Go.Operand.tmp 3), type := 24, pos := "stats.go:216", after := #[], guard := none }) (v := ?_) rfl (by kernel_rfl) (by kernel_rfl) (by kernel_rfl) (by kernel_rfl) (fun _ _ _ h => h) (Or.inl ⟨by rfl, ?_⟩) hS ?_
  rotate_left
  · intro w' hSw; have z0 := (hSw.cell (p := ⟨gt, 0, none⟩) l0).trans k0; have z1 := (hSw.cell (p := ⟨gx, 0, none⟩) l1).trans k1; have z2 := (hSw.cell (p := ⟨gm, 0, none⟩) l2).trans k2; have z3 := (hSw.cell (p := ⟨gn, 0, none⟩) l3).trans k3; have z4 := (hSw.cell (p := ⟨bt, ot + i, none⟩) lt1).trans q0; have z5 := (hSw.cell (p := ⟨bx, ox + i, none⟩) lx1).trans p0; go_simp; try with_reducible rfl
  try simp only [Act.put, List.setIfInBounds_toArray, List.set_cons_zero, List.set_cons_succ]
  refine wpAnyF_take (i := 7) (oi := { dst := some 14, op := Go.Op.move (Go.Operand.tmp 0), type := 3, pos := "stats.go:216", after := #[], guard := none }) (v := ?_) rfl (by kernel_rfl) (by kernel_rfl) (by kernel_rfl) (by kernel_rfl) (fun _ _ _ h => h) (Or.inl ⟨by rfl, ?_⟩) hS ?_
  rotate_left
  · intro w' hSw; have z0 := (hSw.cell (p := ⟨gt, 0, none⟩) l0).trans k0; have z1 := (hSw.cell (p := ⟨gx, 0, none⟩) l1).trans k1; have z2 := (hSw.cell (p := ⟨gm, 0, none⟩) l2).trans k2; have z3 := (hSw.cell (p := ⟨gn, 0, none⟩) l3).trans k3; have z4 := (hSw.cell (p := ⟨bt, ot + i, none⟩) lt1).trans q0; have z5 := (hSw.cell (p := ⟨bx, ox + i, none⟩) lx1).trans p0; go_simp; try with_reducible rfl
  try simp only [Act.put, List.setIfInBounds_toArray, List.set_cons_zero, List.set_cons_succ]
  refine wpAnyF_take (i := 8) (oi := { dst := some 15, op := Go.Op.indexAddr 24 (Go.Operand.tmp 13) (Go.Operand.tmp 14), type := 0, pos := "stats.go:216", after := #[{ on := 6, ground := Go.Ground.data }, { on := 7, ground := Go.Ground.data }], guard := none }) (v := ?_) rfl (by kernel_rfl) (by kernel_rfl) (by kernel_rfl) (by kernel_rfl) (fun _ _ _ h => h) (Or.inl ⟨by rfl, ?_⟩) hS ?_
  rotate_left
  · intro w' hSw; have z0 := (hSw.cell (p := ⟨gt, 0, none⟩) l0).trans k0; have z1 := (hSw.cell (p := ⟨gx, 0, none⟩) l1).trans k1; have z2 := (hSw.cell (p := ⟨gm, 0, none⟩) l2).trans k2; have z3 := (hSw.cell (p := ⟨gn, 0, none⟩) l3).trans k3; have z4 := (hSw.cell (p := ⟨bt, ot + i, none⟩) lt1).trans q0; have z5 := (hSw.cell (p := ⟨bx, ox + i, none⟩) lx1).trans p0; go_simp; try with_reducible rfl
  try simp only [Act.put, List.setIfInBounds_toArray, List.set_cons_zero, List.set_cons_succ]
  refine wpAnyF_take (i := 9) (oi := { dst := some 16, op := Go.Op.load 27 (Go.Operand.tmp 15), type := 27, pos := "stats.go:216", after := #[{ on := 8, ground := Go.Ground.data }], guard := none }) (v := ?_) rfl (by kernel_rfl) (by kernel_rfl) (by kernel_rfl) (by kernel_rfl) (fun _ _ _ h => h) (Or.inl ⟨by rfl, ?_⟩) hS ?_
  rotate_left
  · intro w' hSw; have z0 := (hSw.cell (p := ⟨gt, 0, none⟩) l0).trans k0; have z1 := (hSw.cell (p := ⟨gx, 0, none⟩) l1).trans k1; have z2 := (hSw.cell (p := ⟨gm, 0, none⟩) l2).trans k2; have z3 := (hSw.cell (p := ⟨gn, 0, none⟩) l3).trans k3; have z4 := (hSw.cell (p := ⟨bt, ot + i, none⟩) lt1).trans q0; have z5 := (hSw.cell (p := ⟨bx, ox + i, none⟩) lx1).trans p0; go_simp; try with_reducible rfl
  try simp only [Act.put, List.setIfInBounds_toArray, List.set_cons_zero, List.set_cons_succ]
  refine wpAnyF_take (i := 10) (oi := { dst := some 17, op := Go.Op.load 27 (Go.Operand.tmp 4), type := 27, pos := "stats.go:216", after := #[], guard := none }) (v := ?_) rfl (by kernel_rfl) (by kernel_rfl) (by kernel_rfl) (by kernel_rfl) (fun _ _ _ h => h) (Or.inl ⟨by rfl, ?_⟩) hS ?_
  rotate_left
  · intro w' hSw; have z0 := (hSw.cell (p := ⟨gt, 0, none⟩) l0).trans k0; have z1 := (hSw.cell (p := ⟨gx, 0, none⟩) l1).trans k1; have z2 := (hSw.cell (p := ⟨gm, 0, none⟩) l2).trans k2; have z3 := (hSw.cell (p := ⟨gn, 0, none⟩) l3).trans k3; have z4 := (hSw.cell (p := ⟨bt, ot + i, none⟩) lt1).trans q0; have z5 := (hSw.cell (p := ⟨bx, ox + i, none⟩) lx1).trans p0; go_simp; try with_reducible rfl
  try simp only [Act.put, List.setIfInBounds_toArray, List.set_cons_zero, List.set_cons_succ]
  refine wpAnyF_ready (rs := [5, 11]) (by kernel_rfl) (by simp) ?_
  refine AllReadyF.cons (o := { dst := some 12, op := Go.Op.binOp Go.BinOp.sub 27 (Go.Operand.tmp 10) (Go.Operand.tmp 11) 27, type := 27, pos := "stats.go:216", after := #[{ on := 3, ground := Go.Ground.data }, { on := 4, ground := Go.Ground.data }], guard := none }) rfl (by rfl) (fun K hK => ?_) ?_
  · go_simp
    have Ha5 := Lib.hid (isF_sub HA.out HM.out (W.drew))
    generalize aV Ieee.double.sub a um (W.drew) = a5 at Ha5 ⊢
    generalize hW : W.drewN _ = W1
    have HI1 := Lib.hid (show I W1 from hW ▸ hIn _ _ HI.out)
    clear hW
    refine hK.out _ _ ?_ (fun hS => ?_)
    · exact hI1 _ HI1.out
    clear hK K
    try simp only [Act.put, List.setIfInBounds_toArray, List.set_cons_zero, List.set_cons_succ]
    refine wpAnyF_ready (rs := [11]) (by kernel_rfl) (by simp) ?_
    refine AllReadyF.cons (o := { dst := some 18, op := Go.Op.binOp Go.BinOp.sub 27 (Go.Operand.tmp 16) (Go.Operand.tmp 17) 27, type := 27, pos := "stats.go:216", after := #[{ on := 9, ground := Go.Ground.data }, { on := 10, ground := Go.Ground.data }], guard := none }) rfl (by rfl) (fun K hK => ?_) ?_
    · go_simp
      have Ha11 := Lib.hid (isF_sub HB.out HN.out (W1))
      generalize aV Ieee.double.sub b un (W1) = a11 at Ha11 ⊢
      generalize hW : W1.drewN _ = W2
      have HI2 := Lib.hid (show I W2 from hW ▸ hIn _ _ HI1.out)
      clear hW
      refine hK.out _ _ ?_ (fun hS => ?_)
      · exact hI1 _ HI2.out
      clear hK K
      try simp only [Act.put, List.setIfInBounds_toArray, List.set_cons_zero, List.set_cons_succ]
      refine wpAnyF_ready (rs := [12]) (by kernel_rfl) (by simp) ?_
      refine AllReadyF.cons (o := { dst := some 19, op := Go.Op.binOp Go.BinOp.mul 27 (Go.Operand.tmp 12) (Go.Operand.tmp 18) 27, type := 27, pos := "stats.go:216", after := #[{ on := 5, ground := Go.Ground.data }, { on := 11, ground := Go.Ground.data }], guard := none }) rfl (by rfl) (fun K hK => ?_) ?_
      · go_simp
        have Ha12 := Lib.hid (isF_mul Ha5.out Ha11.out (W2))
        generalize aV Ieee.double.mul a5 a11 (W2) = a12 at Ha12 ⊢
        generalize hW : W2.drewN _ = W3
        have HI3 := Lib.hid (show I W3 from hW ▸ hIn _ _ HI2.out)
        clear hW
        refine hK.out _ _ ?_ (fun hS => ?_)
        · exact hI1 _ HI3.out
        clear hK K
        try simp only [Act.put, List.setIfInBounds_toArray, List.set_cons_zero, List.set_cons_succ]
        refine wpAnyF_take (i := 13) (oi := { dst := some 6, op := Go.Op.assign (Go.Operand.tmp 19), type := 27, pos := "stats.go:216", after := #[{ on := 12, ground := Go.Ground.data }, { on := 0, ground := Go.Ground.phase }, { on := 1, ground := Go.Ground.phase }, { on := 2, ground := Go.Ground.phase }, { on := 3, ground := Go.Ground.phase }, { on := 4, ground := Go.Ground.phase }, { on := 5, ground := Go.Ground.phase }, { on := 6, ground := Go.Ground.phase }, { on := 7, ground := Go.Ground.phase }, { on := 8, ground := Go.Ground.phase }, { on := 9, ground := Go.Ground.phase }, { on := 10, ground := Go.Ground.phase }, { on := 11, ground := Go.Ground.phase }, { on := 12, ground := Go.Ground.phase }], guard := none }) (v := ?_) rfl (by kernel_rfl) (by kernel_rfl) (by kernel_rfl) (by kernel_rfl) (fun _ _ _ h => h) (Or.inl ⟨by rfl, ?_⟩) hS ?_
        rotate_left
        · intro w' hSw; have z0 := (hSw.cell (p := ⟨gt, 0, none⟩) l0).trans k0; have z1 := (hSw.cell (p := ⟨gx, 0, none⟩) l1).trans k1; have z2 := (hSw.cell (p := ⟨gm, 0, none⟩) l2).trans k2; have z3 := (hSw.cell (p := ⟨gn, 0, none⟩) l3).trans k3; have z4 := (hSw.cell (p := ⟨bt, ot + i, none⟩) lt1).trans q0; have z5 := (hSw.cell (p := ⟨bx, ox + i, none⟩) lx1).trans p0; go_simp; try with_reducible rfl
        try simp only [Act.put, List.setIfInBounds_toArray, List.set_cons_zero, List.set_cons_succ]
        refine wpAnyF_done (by kernel_rfl) ?_ _
        go_wp2_with fail
        go_ret
        exact ⟨_, rfl, Ha12.out, hI1 _ HI3.out⟩
      exact AllReadyF.nil
    exact AllReadyF.nil
  refine AllReadyF.cons (o := { dst := some 18, op := Go.Op.binOp Go.BinOp.sub 27 (Go.Operand.tmp 16) (Go.Operand.tmp 17) 27, type := 27, pos := "stats.go:216", after := #[{ on := 9, ground := Go.Ground.data }, { on := 10, ground := Go.Ground.data }], guard := none }) rfl (by rfl) (fun K hK => ?_) ?_
  · go_simp
    have Ha11 := Lib.hid (isF_sub HB.out HN.out (W.drew))
    generalize aV Ieee.double.sub b un (W.drew) = a11 at Ha11 ⊢
    generalize hW : W.drewN _ = W1
    have HI1 := Lib.hid (show I W1 from hW ▸ hIn _ _ HI.out)
    clear hW
    refine hK.out _ _ ?_ (fun hS => ?_)
    · exact hI1 _ HI1.out
    clear hK K
    try simp only [Act.put, List.setIfInBounds_toArray, List.set_cons_zero, List.set_cons_succ]
    refine wpAnyF_ready (rs := [5]) (by kernel_rfl) (by simp) ?_
    refine AllReadyF.cons (o := { dst := some 12, op := Go.Op.binOp Go.BinOp.sub 27 (Go.Operand.tmp 10) (Go.Operand.tmp 11) 27, type := 27, pos := "stats.go:216", after := #[{ on := 3, ground := Go.Ground.data }, { on := 4, ground := Go.Ground.data }], guard := none }) rfl (by rfl) (fun K hK => ?_) ?_
    · go_simp
      have Ha5 := Lib.hid (isF_sub HA.out HM.out (W1))
      generalize aV Ieee.double.sub a um (W1) = a5 at Ha5 ⊢
      generalize hW : W1.drewN _ = W2
      have HI2 := Lib.hid (show I W2 from hW ▸ hIn _ _ HI1.out)
      clear hW
      refine hK.out _ _ ?_ (fun hS => ?_)
      · exact hI1 _ HI2.out
      clear hK K
      try simp only [Act.put, List.setIfInBounds_toArray, List.set_cons_zero, List.set_cons_succ]
      refine wpAnyF_ready (rs := [12]) (by kernel_rfl) (by simp) ?_
      refine AllReadyF.cons (o := { dst := some 19, op := Go.Op.binOp Go.BinOp.mul 27 (Go.Operand.tmp 12) (Go.Operand.tmp 18) 27, type := 27, pos := "stats.go:216", after := #[{ on := 5, ground := Go.Ground.data }, { on := 11, ground := Go.Ground.data }], guard := none }) rfl (by rfl) (fun K hK => ?_) ?_
      · go_simp
        have Ha12 := Lib.hid (isF_mul Ha5.out Ha11.out (W2))
        generalize aV Ieee.double.mul a5 a11 (W2) = a12 at Ha12 ⊢
        generalize hW : W2.drewN _ = W3
        have HI3 := Lib.hid (show I W3 from hW ▸ hIn _ _ HI2.out)
        clear hW
        refine hK.out _ _ ?_ (fun hS => ?_)
        · exact hI1 _ HI3.out
        clear hK K
        try simp only [Act.put, List.setIfInBounds_toArray, List.set_cons_zero, List.set_cons_succ]
        refine wpAnyF_take (i := 13) (oi := { dst := some 6, op := Go.Op.assign (Go.Operand.tmp 19), type := 27, pos := "stats.go:216", after := #[{ on := 12, ground := Go.Ground.data }, { on := 0, ground := Go.Ground.phase }, { on := 1, ground := Go.Ground.phase }, { on := 2, ground := Go.Ground.phase }, { on := 3, ground := Go.Ground.phase }, { on := 4, ground := Go.Ground.phase }, { on := 5, ground := Go.Ground.phase }, { on := 6, ground := Go.Ground.phase }, { on := 7, ground := Go.Ground.phase }, { on := 8, ground := Go.Ground.phase }, { on := 9, ground := Go.Ground.phase }, { on := 10, ground := Go.Ground.phase }, { on := 11, ground := Go.Ground.phase }, { on := 12, ground := Go.Ground.phase }], guard := none }) (v := ?_) rfl (by kernel_rfl) (by kernel_rfl) (by kernel_rfl) (by kernel_rfl) (fun _ _ _ h => h) (Or.inl ⟨by rfl, ?_⟩) hS ?_
        rotate_left
        · intro w' hSw; have z0 := (hSw.cell (p := ⟨gt, 0, none⟩) l0).trans k0; have z1 := (hSw.cell (p := ⟨gx, 0, none⟩) l1).trans k1; have z2 := (hSw.cell (p := ⟨gm, 0, none⟩) l2).trans k2; have z3 := (hSw.cell (p := ⟨gn, 0, none⟩) l3).trans k3; have z4 := (hSw.cell (p := ⟨bt, ot + i, none⟩) lt1).trans q0; have z5 := (hSw.cell (p := ⟨bx, ox + i, none⟩) lx1).trans p0; go_simp; try with_reducible rfl
        try simp only [Act.put, List.setIfInBounds_toArray, List.set_cons_zero, List.set_cons_succ]
        refine wpAnyF_done (by kernel_rfl) ?_ _
        go_wp2_with fail
        go_ret
        exact ⟨_, rfl, Ha12.out, hI1 _ HI3.out⟩
      exact AllReadyF.nil
    exact AllReadyF.nil
  exact AllReadyF.nil
set_option maxRecDepth 100000 in
set_option maxHeartbeats 2000000 in
theorem fit2_any {W : World} {gt gm : Nat} {R : Nat → Prop} {t : List Nat} {mt : Fl} (ht : RowAt W gt R t) (hm : NumAt W gm mt) {i a : Nat} (hi : t[i]? = some a) :
    Calls Tryz.prog 46 #[.int .i64 i, .pointer (some ⟨gt, 0, none⟩), .pointer (some ⟨gm, 0, none⟩)] W fun e W' => ∃ r, e = .returned (.float .f64 r) ∧ IsF r (fmul (fsub (cn a) mt) (fsub (cn a) mt)) ∧ Below W.heap.size W W' := by
  obtain ⟨vt, t1, t2⟩ := ht
  obtain ⟨um, m1, m2⟩ := hm
  obtain ⟨A, cap, rfl, hnc, hcap⟩ := t2.form
  have hlt := (List.getElem?_eq_some_iff.1 hi).1
  obtain ⟨bt, ot, rfl, _, lt1, q0, q1⟩ := t2.at_ hi
  have k0 : W.cell? ⟨gt, 0, none⟩ = some (.slice (some ⟨bt, ot, none⟩) t.length cap) := t1.cell 0
  have k2 : W.cell? ⟨gm, 0, none⟩ = some (.float .f64 um) := m1.cell 0
  have l0 := t1.lt
  have l2 := m1.lt
  have HA := Lib.hid (isF_self q1)
  have HM := Lib.hid m2
  have e1 : (0 : Int) ≤ (i : Int) := by omega
  have e2 : (i : Int) < (t.length : Int) := by omega
  clear t1 t2 m1 m2 hi q1
  obtain ⟨I, hI⟩ : ∃ I : World → Prop, I = Below W.heap.size W := ⟨_, rfl⟩
  have hIn : ∀ W n, I W → I (W.drewN n) := by rw [hI]; exact fun W n h => below_drewN h n
  have hI1 : ∀ U, I U → Below W.heap.size W U := by rw [hI]; exact fun W h => h
  have HI := Lib.hid (show I W by rw [hI]; exact Below.refl _ _)
  clear hI
  go_enter Tryz.func46, Tryz.ntmps46
  go_wp2_with fail
  refine wp_region_F (Below W.heap.size W) [] (by kernel_rfl) ((Below.refl _ _).drew) (fun hS => ?_)
  refine wpAnyF_take (i := 0) (oi := { dst := some 5, op := Go.Op.load 24 (Go.Operand.tmp 1), type := 24, pos := "stats.go:217", after := #[], guard := none }) (v := ?_) rfl (by kernel_rfl) (by kernel_rfl) (by kernel_rfl) (by kernel_rfl) (fun _ _ _ h => h) (Or.inl ⟨by rfl, ?_⟩) hS ?_
  rotate_left
  · intro w' hSw; have z0 := (hSw.cell (p := ⟨gt, 0, none⟩) l0).trans k0; have z2 := (hSw.cell (p := ⟨gm, 0, none⟩) l2).trans k2; have z4 := (hSw.cell (p := ⟨bt, ot + i, none⟩) lt1).trans q0; go_simp; try with_reducible rfl
  try simp only [Act.put, List.setIfInBounds_toArray, List.set_cons_zero, List.set_cons_succ]
  refine wpAnyF_take (i := 1) (oi := { dst := some 6, op := Go.Op.move (Go.Operand.tmp 0), type := 3, pos := "stats.go:217", after := #[], guard := none }) (v := ?_) rfl (by kernel_rfl) (by kernel_rfl) (by kernel_rfl) (by kernel_rfl) (fun _ _ _ h => h) (Or.inl ⟨by rfl, ?_⟩) hS ?_
  rotate_left
  · intro w' hSw; have z0 := (hSw.cell (p := ⟨gt, 0, none⟩) l0).trans k0; have z2 := (hSw.cell (p := ⟨gm, 0, none⟩) l2).trans k2; have z4 := (hSw.cell (p := ⟨bt, ot + i, none⟩) lt1).trans q0; go_simp; try with_reducible rfl
  try simp only [Act.put, List.setIfInBounds_toArray, List.set_cons_zero, List.set_cons_succ]
  refine wpAnyF_take (i := 2) (oi := { dst := some 7, op := Go.Op.indexAddr 24 (Go.Operand.tmp 5) (Go.Operand.tmp 6), type := 0, pos := "stats.go:217", after := #[{ on := 0, ground := Go.Ground.data }, { on := 1, ground := Go.Ground.data }], guard := none }) (v := ?_) rfl (by kernel_rfl) (by kernel_rfl) (by kernel_rfl) (by kernel_rfl) (fun _ _ _ h => h) (Or.inl ⟨by rfl, ?_⟩) hS ?_
  rotate_left
  · intro w' hSw; have z0 := (hSw.cell (p := ⟨gt, 0, none⟩) l0).trans k0; have z2 := (hSw.cell (p := ⟨gm, 0, none⟩) l2).trans k2; have z4 := (hSw.cell (p := ⟨bt, ot + i, none⟩) lt1).trans q0; go_simp; try with_reducible rfl
  try simp only [Act.put, List.setIfInBounds_toArray, List.set_cons_zero, List.set_cons_succ]
  refine wpAnyF_take (i := 3) (oi := { dst := some 8, op := Go.Op.load 27 (Go.Operand.tmp 7), type := 27, pos := "stats.go:217", after := #[{ on := 2, ground := Go.Ground.data }], guard := none }) (v := ?_) rfl (by kernel_rfl) (by kernel_rfl) (by kernel_rfl) (by kernel_rfl) (fun _ _ _ h => h) (Or.inl ⟨by rfl, ?_⟩) hS ?_
  rotate_left
  · intro w' hSw; have z0 := (hSw.cell (p := ⟨gt, 0, none⟩) l0).trans k0; have z2 := (hSw.cell (p := ⟨gm, 0, none⟩) l2).trans k2; have z4 := (hSw.cell (p := ⟨bt, ot + i, none⟩) lt1).trans q0; go_simp; try with_reducible rfl
  try simp only [Act.put, List.setIfInBounds_toArray, List.set_cons_zero, List.set_cons_succ]
  refine wpAnyF_take (i := 4) (oi := { dst := some 9, op := Go.Op.load 27 (Go.Operand.tmp 2), type := 27, pos := "stats.go:217", after := #[], guard := none }) (v := ?_) rfl (by kernel_rfl) (by kernel_rfl) (by kernel_rfl) (by kernel_rfl) (fun _ _ _ h => h) (Or.inl ⟨by rfl, ?_⟩) hS ?_
  rotate_left
  · intro w' hSw; have z0 := (hSw.cell (p := ⟨gt, 0, none⟩) l0).trans k0; have z2 := (hSw.cell (p := ⟨gm, 0, none⟩) l2).trans k2; have z4 := (hSw.cell (p := ⟨bt, ot + i, none⟩) lt1).trans q0; go_simp; try with_reducible rfl
  try simp only [Act.put, List.setIfInBounds_toArray, List.set_cons_zero, List.set_cons_succ]
  refine wpAnyF_take (i := 6) (oi := { dst := some 11, op := Go.Op.load 24 (Go.Operand.tmp 1), type := 24, pos := "stats.go:217", after := #[], guard := none }) (v := ?_) rfl (by kernel_rfl) (by kernel_rfl) (by kernel_rfl) (by kernel_rfl) (fun _ _ _ h => h) (Or.inl ⟨by rfl, ?_⟩) hS ?_
  rotate_left
  · intro w' hSw; have z0 := (hSw.cell (p := ⟨gt, 0, none⟩) l0).trans k0; have z2 := (hSw.cell (p := ⟨gm, 0, none⟩) l2).trans k2; have z4 := (hSw.cell (p := ⟨bt, ot + i, none⟩) lt1).trans q0; go_simp; try with_reducible rfl
  try simp only [Act.put, List.setIfInBounds_toArray, List.set_cons_zero, List.set_cons_succ]
  refine wpAnyF_take (i := 7) (oi := { dst := some 12, op := Go.Op.move (Go.Operand.tmp 0), type := 3, pos := "stats.go:217", after := #[], guard := none }) (v := ?_) rfl (by kernel_rfl) (by kernel_rfl) (by kernel_rfl) (by kernel_rfl) (fun _ _ _ h => h) (Or.inl ⟨by rfl, ?_⟩) hS ?_
  rotate_left
  · intro w' hSw; have z0 := (hSw.cell (p := ⟨gt, 0, none⟩) l0).trans k0; have z2 := (hSw.cell (p := ⟨gm, 0, none⟩) l2).trans k2; have z4 := (hSw.cell (p := ⟨bt, ot + i, none⟩) lt1).trans q0; go_simp; try with_reducible rfl
  try simp only [Act.put, List.setIfInBounds_toArray, List.set_cons_zero, List.set_cons_succ]
  refine wpAnyF_take (i := 8) (oi := { dst := some 13, op := Go.Op.indexAddr 24 (Go.Operand.tmp 11) (Go.Operand.tmp 12), type := 0, pos := "stats.go:217", after := #[{ on := 6, ground := Go.Ground.data }, { on := 7, ground := Go.Ground.data }], guard := none }) (v := ?_) rfl (by kernel_rfl) (by kernel_rfl) (by kernel_rfl) (by kernel_rfl) (fun _ _ _ h => h) (Or.inl ⟨by rfl, ?_⟩) hS ?_
  rotate_left
  · intro w' hSw; have z0 := (hSw.cell (p := ⟨gt, 0, none⟩) l0).trans k0; have z2 := (hSw.cell (p := ⟨gm, 0, none⟩) l2).trans k2; have z4 := (hSw.cell (p := ⟨bt, ot + i, none⟩) lt1).trans q0; go_simp; try with_reducible rfl
  try simp only [Act.put, List.setIfInBounds_toArray, List.set_cons_zero, List.set_cons_succ]
  refine wpAnyF_take (i := 9) (oi := { dst := some 14, op := Go.Op.load 27 (Go.Operand.tmp 13), type := 27, pos := "stats.go:217", after := #[{ on := 8, ground := Go.Ground.data }], guard := none }) (v := ?_) rfl (by kernel_rfl) (by kernel_rfl) (by kernel_rfl) (by kernel_rfl) (fun _ _ _ h => h) (Or.inl ⟨by rfl, ?_⟩) hS ?_
  rotate_left
  · intro w' hSw; have z0 := (hSw.cell (p := ⟨gt, 0, none⟩) l0).trans k0; have z2 := (hSw.cell (p := ⟨gm, 0, none⟩) l2).trans k2; have z4 := (hSw.cell (p := ⟨bt, ot + i, none⟩) lt1).trans q0; go_simp; try with_reducible rfl
  try simp only [Act.put, List.setIfInBounds_toArray, List.set_cons_zero, List.set_cons_succ]
  refine wpAnyF_take (i := 10) (oi := { dst := some 15, op := Go.Op.load 27 (Go.Operand.tmp 2), type := 27, pos := "stats.go:217", after := #[], guard := none }) (v := ?_) rfl (by kernel_rfl) (by kernel_rfl) (by kernel_rfl) (by kernel_rfl) (fun _ _ _ h => h) (Or.inl ⟨by rfl, ?_⟩) hS ?_
  rotate_left
  · intro w' hSw; have z0 := (hSw.cell (p := ⟨gt, 0, none⟩) l0).trans k0; have z2 := (hSw.cell (p := ⟨gm, 0, none⟩) l2).trans k2; have z4 := (hSw.cell (p := ⟨bt, ot + i, none⟩) lt1).trans q0; go_simp; try with_reducible rfl
  try simp only [Act.put, List.setIfInBounds_toArray, List.set_cons_zero, List.set_cons_succ]
  refine wpAnyF_ready (rs := [5, 11]) (by kernel_rfl) (by simp) ?_
  refine AllReadyF.cons (o := { dst := some 10, op := Go.Op.binOp Go.BinOp.sub 27 (Go.Operand.tmp 8) (Go.Operand.tmp 9) 27, type := 27, pos := "stats.go:217", after := #[{ on := 3, ground := Go.Ground.data }, { on := 4, ground := Go.Ground.data }], guard := none }) rfl (by rfl) (fun K hK => ?_) ?_
  · go_simp
    have Ha5 := Lib.hid (isF_sub HA.out HM.out (W.drew))
    generalize aV Ieee.double.sub a um (W.drew) = a5 at Ha5 ⊢
    generalize hW : W.drewN _ = W1
    have HI1 := Lib.hid (show I W1 from hW ▸ hIn _ _ HI.out)
    clear hW
    refine hK.out _ _ ?_ (fun hS => ?_)
    · exact hI1 _ HI1.out
    clear hK K
    try simp only [Act.put, List.setIfInBounds_toArray, List.set_cons_zero, List.set_cons_succ]
    refine wpAnyF_ready (rs := [11]) (by kernel_rfl) (by simp) ?_
    refine AllReadyF.cons (o := { dst := some 16, op := Go.Op.binOp Go.BinOp.sub 27 (Go.Operand.tmp 14) (Go.Operand.tmp 15) 27, type := 27, pos := "stats.go:217", after := #[{ on := 9, ground := Go.Ground.data }, { on := 10, ground := Go.Ground.data }], guard := none }) rfl (by rfl) (fun K hK => ?_) ?_
    · go_simp
      have Ha11 := Lib.hid (isF_sub HA.out HM.out (W1))
      generalize aV Ieee.double.sub a um (W1) = a11 at Ha11 ⊢
      generalize hW : W1.drewN _ = W2
      have HI2 := Lib.hid (show I W2 from hW ▸ hIn _ _ HI1.out)
      clear hW
      refine hK.out _ _ ?_ (fun hS => ?_)
      · exact hI1 _ HI2.out
      clear hK K
      try simp only [Act.put, List.setIfInBounds_toArray, List.set_cons_zero, List.set_cons_succ]
      refine wpAnyF_ready (rs := [12]) (by kernel_rfl) (by simp) ?_
      refine AllReadyF.cons (o := { dst := some 17, op := Go.Op.binOp Go.BinOp.mul 27 (Go.Operand.tmp 10) (Go.Operand.tmp 16) 27, type := 27, pos := "stats.go:217", after := #[{ on := 5, ground := Go.Ground.data }, { on := 11, ground := Go.Ground.data }], guard := none }) rfl (by rfl) (fun K hK => ?_) ?_
      · go_simp
        have Ha12 := Lib.hid (isF_mul Ha5.out Ha11.out (W2))
        generalize aV Ieee.double.mul a5 a11 (W2) = a12 at Ha12 ⊢
        generalize hW : W2.drewN _ = W3
        have HI3 := Lib.hid (show I W3 from hW ▸ hIn _ _ HI2.out)
        clear hW
        refine hK.out _ _ ?_ (fun hS => ?_)
        · exact hI1 _ HI3.out
        clear hK K
        try simp only [Act.put, List.setIfInBounds_toArray, List.set_cons_zero, List.set_cons_succ]
        refine wpAnyF_take (i := 13) (oi := { dst := some 4, op := Go.Op.assign (Go.Operand.tmp 17), type := 27, pos := "stats.go:217", after := #[{ on := 12, ground := Go.Ground.data }, { on := 0, ground := Go.Ground.phase }, { on := 1, ground := Go.Ground.phase }, { on := 2, ground := Go.Ground.phase }, { on := 3, ground := Go.Ground.phase }, { on := 4, ground := Go.Ground.phase }, { on := 5, ground := Go.Ground.phase }, { on := 6, ground := Go.Ground.phase }, { on := 7, ground := Go.Ground.phase }, { on := 8, ground := Go.Ground.phase }, { on := 9, ground := Go.Ground.phase }, { on := 10, ground := Go.Ground.phase }, { on := 11, ground := Go.Ground.phase }, { on := 12, ground := Go.Ground.phase }], guard := none }) (v := ?_) rfl (by kernel_rfl) (by kernel_rfl) (by kernel_rfl) (by kernel_rfl) (fun _ _ _ h => h) (Or.inl ⟨by rfl, ?_⟩) hS ?_
        rotate_left
        · intro w' hSw; have z0 := (hSw.cell (p := ⟨gt, 0, none⟩) l0).trans k0; have z2 := (hSw.cell (p := ⟨gm, 0, none⟩) l2).trans k2; have z4 := (hSw.cell (p := ⟨bt, ot + i, none⟩) lt1).trans q0; go_simp; try with_reducible rfl
        try simp only [Act.put, List.setIfInBounds_toArray, List.set_cons_zero, List.set_cons_succ]
        refine wpAnyF_done (by kernel_rfl) ?_ _
        go_wp2_with fail
        go_ret
        exact ⟨_, rfl, Ha12.out, hI1 _ HI3.out⟩
      exact AllReadyF.nil
    exact AllReadyF.nil
  refine AllReadyF.cons (o := { dst := some 16, op := Go.Op.binOp Go.BinOp.sub 27 (Go.Operand.tmp 14) (Go.Operand.tmp 15) 27, type := 27, pos := "stats.go:217", after := #[{ on := 9, ground := Go.Ground.data }, { on := 10, ground := Go.Ground.data }], guard := none }) rfl (by rfl) (fun K hK => ?_) ?_
  · go_simp
    have Ha11 := Lib.hid (isF_sub HA.out HM.out (W.drew))
    generalize aV Ieee.double.sub a um (W.drew) = a11 at Ha11 ⊢
    generalize hW : W.drewN _ = W1
    have HI1 := Lib.hid (show I W1 from hW ▸ hIn _ _ HI.out)
    clear hW
    refine hK.out _ _ ?_ (fun hS => ?_)
    · exact hI1 _ HI1.out
    clear hK K
    try simp only [Act.put, List.setIfInBounds_toArray, List.set_cons_zero, List.set_cons_succ]
    refine wpAnyF_ready (rs := [5]) (by kernel_rfl) (by simp) ?_
    refine AllReadyF.cons (o := { dst := some 10, op := Go.Op.binOp Go.BinOp.sub 27 (Go.Operand.tmp 8) (Go.Operand.tmp 9) 27, type := 27, pos := "stats.go:217", after := #[{ on := 3, ground := Go.Ground.data }, { on := 4, ground := Go.Ground.data }], guard := none }) rfl (by rfl) (fun K hK => ?_) ?_
    · go_simp
      have Ha5 := Lib.hid (isF_sub HA.out HM.out (W1))
      generalize aV Ieee.double.sub a um (W1) = a5 at Ha5 ⊢
      generalize hW : W1.drewN _ = W2
      have HI2 := Lib.hid (show I W2 from hW ▸ hIn _ _ HI1.out)
      clear hW
      refine hK.out _ _ ?_ (fun hS => ?_)
      · exact hI1 _ HI2.out
      clear hK K
      try simp only [Act.put, List.setIfInBounds_toArray, List.set_cons_zero, List.set_cons_succ]
      refine wpAnyF_ready (rs := [12]) (by kernel_rfl) (by simp) ?_
      refine AllReadyF.cons (o := { dst := some 17, op := Go.Op.binOp Go.BinOp.mul 27 (Go.Operand.tmp 10) (Go.Operand.tmp 16) 27, type := 27, pos := "stats.go:217", after := #[{ on := 5, ground := Go.Ground.data }, { on := 11, ground := Go.Ground.data }], guard := none }) rfl (by rfl) (fun K hK => ?_) ?_
      · go_simp
        have Ha12 := Lib.hid (isF_mul Ha5.out Ha11.out (W2))
        generalize aV Ieee.double.mul a5 a11 (W2) = a12 at Ha12 ⊢
        generalize hW : W2.drewN _ = W3
        have HI3 := Lib.hid (show I W3 from hW ▸ hIn _ _ HI2.out)
        clear hW
        refine hK.out _ _ ?_ (fun hS => ?_)
        · exact hI1 _ HI3.out
        clear hK K
        try simp only [Act.put, List.setIfInBounds_toArray, List.set_cons_zero, List.set_cons_succ]
        refine wpAnyF_take (i := 13) (oi := { dst := some 4, op := Go.Op.assign (Go.Operand.tmp 17), type := 27, pos := "stats.go:217", after := #[{ on := 12, ground := Go.Ground.data }, { on := 0, ground := Go.Ground.phase }, { on := 1, ground := Go.Ground.phase }, { on := 2, ground := Go.Ground.phase }, { on := 3, ground := Go.Ground.phase }, { on := 4, ground := Go.Ground.phase }, { on := 5, ground := Go.Ground.phase }, { on := 6, ground := Go.Ground.phase }, { on := 7, ground := Go.Ground.phase }, { on := 8, ground := Go.Ground.phase }, { on := 9, ground := Go.Ground.phase }, { on := 10, ground := Go.Ground.phase }, { on := 11, ground := Go.Ground.phase }, { on := 12, ground := Go.Ground.phase }], guard := none }) (v := ?_) rfl (by kernel_rfl) (by kernel_rfl) (by kernel_rfl) (by kernel_rfl) (fun _ _ _ h => h) (Or.inl ⟨by rfl, ?_⟩) hS ?_
        rotate_left
        · intro w' hSw; have z0 := (hSw.cell (p := ⟨gt, 0, none⟩) l0).trans k0; have z2 := (hSw.cell (p := ⟨gm, 0, none⟩) l2).trans k2; have z4 := (hSw.cell (p := ⟨bt, ot + i, none⟩) lt1).trans q0; go_simp; try with_reducible rfl
        try simp only [Act.put, List.setIfInBounds_toArray, List.set_cons_zero, List.set_cons_succ]
        refine wpAnyF_done (by kernel_rfl) ?_ _
        go_wp2_with fail
        go_ret
        exact ⟨_, rfl, Ha12.out, hI1 _ HI3.out⟩
      exact AllReadyF.nil
    exact AllReadyF.nil
  exact AllReadyF.nil
set_option maxRecDepth 100000 in
set_option maxHeartbeats 2000000 in
theorem spread1_any {W : World} {gt gm : Nat} {R : Nat → Prop} {t : List Nat} {mt : Fl} (ht : RowAt W gt R t) (hm : NumAt W gm mt) {i a : Nat} (hi : t[i]? = some a) :
    Calls Tryz.prog 59 #[.int .i64 i, .pointer (some ⟨gt, 0, none⟩), .pointer (some ⟨gm, 0, none⟩)] W fun e W' => ∃ r, e = .returned (.float .f64 r) ∧ IsF r (fmul (fsub (cn a) mt) (fsub (cn a) mt)) ∧ Below W.heap.size W W' := by
  obtain ⟨vt, t1, t2⟩ := ht
  obtain ⟨um, m1, m2⟩ := hm
  obtain ⟨A, cap, rfl, hnc, hcap⟩ := t2.form
  have hlt := (List.getElem?_eq_some_iff.1 hi).1
  obtain ⟨bt, ot, rfl, _, lt1, q0, q1⟩ := t2.at_ hi
  have k0 : W.cell? ⟨gt, 0, none⟩ = some (.slice (some ⟨bt, ot, none⟩) t.length cap) := t1.cell 0
  have k2 : W.cell? ⟨gm, 0, none⟩ = some (.float .f64 um) := m1.cell 0
  have l0 := t1.lt
  have l2 := m1.lt
  have HA := Lib.hid (isF_self q1)
  have HM := Lib.hid m2
  have e1 : (0 : Int) ≤ (i : Int) := by omega
  have e2 : (i : Int) < (t.length : Int) := by omega
  clear t1 t2 m1 m2 hi q1
  obtain ⟨I, hI⟩ : ∃ I : World → Prop, I = Below W.heap.size W := ⟨_, rfl⟩
  have hIn : ∀ W n, I W → I (W.drewN n) := by rw [hI]; exact fun W n h => below_drewN h n
  have hI1 : ∀ U, I U → Below W.heap.size W U := by rw [hI]; exact fun W h => h
  have HI := Lib.hid (show I W by rw [hI]; exact Below.refl _ _)
  clear hI
  go_enter Tryz.func59, Tryz.ntmps59
  go_wp2_with fail
  refine wp_region_F (Below W.heap.size W) [] (by kernel_rfl) ((Below.refl _ _).drew) (fun hS => ?_)
  refine wpAnyF_take (i := 0) (oi := { dst := some 6, op := Go.Op.load 24 (Go.Operand.tmp 1), type := 24, pos := "stats.go:155", after := #[], guard := none }) (v := ?_) rfl (by kernel_rfl) (by kernel_rfl) (by kernel_rfl) (by kernel_rfl) (fun _ _ _ h => h) (Or.inl ⟨by rfl, ?_⟩) hS ?_
  rotate_left
  · intro w' hSw; have z0 := (hSw.cell (p := ⟨gt, 0, none⟩) l0).trans k0; have z2 := (hSw.cell (p := ⟨gm, 0, none⟩) l2).trans k2; have z4 := (hSw.cell (p := ⟨bt, ot + i, none⟩) lt1).trans q0; go_simp; try with_reducible rfl
  try simp only [Act.put, List.setIfInBounds_toArray, List.set_cons_zero, List.set_cons_succ]
  refine wpAnyF_take (i := 1) (oi := { dst := some 7, op := Go.Op.move (Go.Operand.tmp 0), type := 3, pos := "stats.go:155", after := #[], guard := none }) (v := ?_) rfl (by kernel_rfl) (by kernel_rfl) (by kernel_rfl) (by kernel_rfl) (fun _ _ _ h => h) (Or.inl ⟨by rfl, ?_⟩) hS ?_
  rotate_left
  · intro w' hSw; have z0 := (hSw.cell (p := ⟨gt, 0, none⟩) l0).trans k0; have z2 := (hSw.cell (p := ⟨gm, 0, none⟩) l2).trans k2; have z4 := (hSw.cell (p := ⟨bt, ot + i, none⟩) lt1).trans q0; go_simp; try with_reducible rfl
  try simp only [Act.put, List.setIfInBounds_toArray, List.set_cons_zero, List.set_cons_succ]
  refine wpAnyF_take (i := 2) (oi := { dst := some 8, op := Go.Op.indexAddr 24 (Go.Operand.tmp 6) (Go.Operand.tmp 7), type := 0, pos := "stats.go:155", after := #[{ on := 0, ground := Go.Ground.data }, { on := 1, ground := Go.Ground.data }], guard := none }) (v := ?_) rfl (by kernel_rfl) (by kernel_rfl) (by kernel_rfl) (by kernel_rfl) (fun _ _ _ h => h) (Or.inl ⟨by rfl, ?_⟩) hS ?_
  rotate_left
  · intro w' hSw; have z0 := (hSw.cell (p := ⟨gt, 0, none⟩) l0).trans k0; have z2 := (hSw.cell (p := ⟨gm, 0, none⟩) l2).trans k2; have z4 := (hSw.cell (p := ⟨bt, ot + i, none⟩) lt1).trans q0; go_simp; try with_reducible rfl
  try simp only [Act.put, List.setIfInBounds_toArray, List.set_cons_zero, List.set_cons_succ]
  refine wpAnyF_take (i := 3) (oi := { dst := some 9, op := Go.Op.load 27 (Go.Operand.tmp 8), type := 27, pos := "stats.go:155", after := #[{ on := 2, ground := Go.Ground.data }], guard := none }) (v := ?_) rfl (by kernel_rfl) (by kernel_rfl) (by kernel_rfl) (by kernel_rfl) (fun _ _ _ h => h) (Or.inl ⟨by rfl, ?_⟩) hS ?_
  rotate_left
  · intro w' hSw; have z0 := (hSw.cell (p := ⟨gt, 0, none⟩) l0).trans k0; have z2 := (hSw.cell (p := ⟨gm, 0, none⟩) l2).trans k2; have z4 := (hSw.cell (p := ⟨bt, ot + i, none⟩) lt1).trans q0; go_simp; try with_reducible rfl
  try simp only [Act.put, List.setIfInBounds_toArray, List.set_cons_zero, List.set_cons_succ]
  refine wpAnyF_take (i := 4) (oi := { dst := some 10, op := Go.Op.load 27 (Go.Operand.tmp 2), type := 27, pos := "stats.go:155", after := #[], guard := none }) (v := ?_) rfl (by kernel_rfl) (by kernel_rfl) (by kernel_rfl) (by kernel_rfl) (fun _ _ _ h => h) (Or.inl ⟨by rfl, ?_⟩) hS ?_
  rotate_left
  · intro w' hSw; have z0 := (hSw.cell (p := ⟨gt, 0, none⟩) l0).trans k0; have z2 := (hSw.cell (p := ⟨gm, 0, none⟩) l2).trans k2; have z4 := (hSw.cell (p := ⟨bt, ot + i, none⟩) lt1).trans q0; go_simp; try with_reducible rfl
  try simp only [Act.put, List.setIfInBounds_toArray, List.set_cons_zero, List.set_cons_succ]
  refine wpAnyF_ready (rs := [5]) (by kernel_rfl) (by simp) ?_
  refine AllReadyF.cons (o := { dst := some 11, op := Go.Op.binOp Go.BinOp.sub 27 (Go.Operand.tmp 9) (Go.Operand.tmp 10) 27, type := 27, pos := "stats.go:155", after := #[{ on := 3, ground := Go.Ground.data }, { on := 4, ground := Go.Ground.data }], guard := none }) rfl (by rfl) (fun K hK => ?_) ?_
  · go_simp
    have Ha5 := Lib.hid (isF_sub HA.out HM.out (W.drew))
    generalize aV Ieee.double.sub a um (W.drew) = a5 at Ha5 ⊢
    generalize hW : W.drewN _ = W1
    have HI1 := Lib.hid (show I W1 from hW ▸ hIn _ _ HI.out)
    clear hW
    refine hK.out _ _ ?_ (fun hS => ?_)
    · exact hI1 _ HI1.out
    clear hK K
    try simp only [Act.put, List.setIfInBounds_toArray, List.set_cons_zero, List.set_cons_succ]
    refine wpAnyF_take (i := 6) (oi := { dst := some 5, op := Go.Op.assign (Go.Operand.tmp 11), type := 27, pos := "stats.go:155", after := #[{ on := 5, ground := Go.Ground.data }, { on := 0, ground := Go.Ground.phase }, { on := 1, ground := Go.Ground.phase }, { on := 2, ground := Go.Ground.phase }, { on := 3, ground := Go.Ground.phase }, { on := 4, ground := Go.Ground.phase }, { on := 5, ground := Go.Ground.phase }], guard := none }) (v := ?_) rfl (by kernel_rfl) (by kernel_rfl) (by kernel_rfl) (by kernel_rfl) (fun _ _ _ h => h) (Or.inl ⟨by rfl, ?_⟩) hS ?_
    rotate_left
    · intro w' hSw; have z0 := (hSw.cell (p := ⟨gt, 0, none⟩) l0).trans k0; have z2 := (hSw.cell (p := ⟨gm, 0, none⟩) l2).trans k2; have z4 := (hSw.cell (p := ⟨bt, ot + i, none⟩) lt1).trans q0; go_simp; try with_reducible rfl
    try simp only [Act.put, List.setIfInBounds_toArray, List.set_cons_zero, List.set_cons_succ]
    refine wpAnyF_done (by kernel_rfl) ?_ _
    go_wp2_with fail
    generalize hv : aV Ieee.double.mul a5 a5 _ = a6
    have Ha6 := Lib.hid (isF_eq hv (isF_mul Ha5.out Ha5.out _))
    clear hv
    go_ret
    exact ⟨_, rfl, Ha6.out, below_drewN (hI1 _ HI1.out) _⟩
  exact AllReadyF.nil
set_option maxRecDepth 100000 in
set_option maxHeartbeats 2000000 in
theorem shares1_any {W : World} {gt gm : Nat} {R : Nat → Prop} {t : List Nat} {mt : Fl} (ht : RowAt W gt R t) (hm : NumAt W gm mt) {i a : Nat} (hi : t[i]? = some a) :
    Calls Tryz.prog 63 #[.int .i64 i, .pointer (some ⟨gt, 0, none⟩), .pointer (some ⟨gm, 0, none⟩)] W fun e W' => ∃ r, e = .returned (.float .f64 r) ∧ IsF r (fmul (fdiv (cn a) mt) (fdiv (cn a) mt)) ∧ Below W.heap.size W W' := by
  obtain ⟨vt, t1, t2⟩ := ht
  obtain ⟨um, m1, m2⟩ := hm
  obtain ⟨A, cap, rfl, hnc, hcap⟩ := t2.form
  have hlt := (List.getElem?_eq_some_iff.1 hi).1
  obtain ⟨bt, ot, rfl, _, lt1, q0, q1⟩ := t2.at_ hi
  have k0 : W.cell? ⟨gt, 0, none⟩ = some (.slice (some ⟨bt, ot, none⟩) t.length cap) := t1.cell 0
  have k2 : W.cell? ⟨gm, 0, none⟩ = some (.float .f64 um) := m1.cell 0
  have l0 := t1.lt
  have l2 := m1.lt
  have HA := Lib.hid (isF_self q1)
  have HM := Lib.hid m2
  have e1 : (0 : Int) ≤ (i : Int) := by omega
  have e2 : (i : Int) < (t.length : Int) := by omega
  clear t1 t2 m1 m2 hi q1
  obtain ⟨I, hI⟩ : ∃ I : World → Prop, I = Below W.heap.size W := ⟨_, rfl⟩
  have hIn : ∀ W n, I W → I (W.drewN n) := by rw [hI]; exact fun W n h => below_drewN h n
  have hI1 : ∀ U, I U → Below W.heap.size W U := by rw [hI]; exact fun W h => h
  have HI := Lib.hid (show I W by rw [hI]; exact Below.refl _ _)
  clear hI
  go_enter Tryz.func63, Tryz.ntmps63
  go_wp2_with fail
  refine wp_region_F (Below W.heap.size W) [] (by kernel_rfl) ((Below.refl _ _).drew) (fun hS => ?_)
  refine wpAnyF_take (i := 0) (oi := { dst := some 6, op := Go.Op.load 24 (Go.Operand.tmp 1), type := 24, pos := "stats.go:205", after := #[], guard := none }) (v := ?_) rfl (by kernel_rfl) (by kernel_rfl) (by kernel_rfl) (by kernel_rfl) (fun _ _ _ h => h) (Or.inl ⟨by rfl, ?_⟩) hS ?_
  rotate_left
  · intro w' hSw; have z0 := (hSw.cell (p := ⟨gt, 0, none⟩) l0).trans k0; have z2 := (hSw.cell (p := ⟨gm, 0, none⟩) l2).trans k2; have z4 := (hSw.cell (p := ⟨bt, ot + i, none⟩) lt1).trans q0; go_simp; try with_reducible rfl
  try simp only [Act.put, List.setIfInBounds_toArray, List.set_cons_zero, List.set_cons_succ]
  refine wpAnyF_take (i := 1) (oi := { dst := some 7, op := Go.Op.move (Go.Operand.tmp 0), type := 3, pos := "stats.go:205", after := #[], guard := none }) (v := ?_) rfl (by kernel_rfl) (by kernel_rfl) (by kernel_rfl) (by kernel_rfl) (fun _ _ _ h => h) (Or.inl ⟨by rfl, ?_⟩) hS ?_
  rotate_left
  · intro w' hSw; have z0 := (hSw.cell (p := ⟨gt, 0, none⟩) l0).trans k0; have z2 := (hSw.cell (p := ⟨gm, 0, none⟩) l2).trans k2; have z4 := (hSw.cell (p := ⟨bt, ot + i, none⟩) lt1).trans q0; go_simp; try with_reducible rfl
  try simp only [Act.put, List.setIfInBounds_toArray, List.set_cons_zero, List.set_cons_succ]
  refine wpAnyF_take (i := 2) (oi := { dst := some 8, op := Go.Op.indexAddr 24 (Go.Operand.tmp 6) (Go.Operand.tmp 7), type := 0, pos := "stats.go:205", after := #[{ on := 0, ground := Go.Ground.data }, { on := 1, ground := Go.Ground.data }], guard := none }) (v := ?_) rfl (by kernel_rfl) (by kernel_rfl) (by kernel_rfl) (by kernel_rfl) (fun _ _ _ h => h) (Or.inl ⟨by rfl, ?_⟩) hS ?_
  rotate_left
  · intro w' hSw; have z0 := (hSw.cell (p := ⟨gt, 0, none⟩) l0).trans k0; have z2 := (hSw.cell (p := ⟨gm, 0, none⟩) l2).trans k2; have z4 := (hSw.cell (p := ⟨bt, ot + i, none⟩) lt1).trans q0; go_simp; try with_reducible rfl
  try simp only [Act.put, List.setIfInBounds_toArray, List.set_cons_zero, List.set_cons_succ]
  refine wpAnyF_take (i := 3) (oi := { dst := some 9, op := Go.Op.load 27 (Go.Operand.tmp 8), type := 27, pos := "stats.go:205", after := #[{ on := 2, ground := Go.Ground.data }], guard := none }) (v := ?_) rfl (by kernel_rfl) (by kernel_rfl) (by kernel_rfl) (by kernel_rfl) (fun _ _ _ h => h) (Or.inl ⟨by rfl, ?_⟩) hS ?_
  rotate_left
  · intro w' hSw; have z0 := (hSw.cell (p := ⟨gt, 0, none⟩) l0).trans k0; have z2 := (hSw.cell (p := ⟨gm, 0, none⟩) l2).trans k2; have z4 := (hSw.cell (p := ⟨bt, ot + i, none⟩) lt1).trans q0; go_simp; try with_reducible rfl
  try simp only [Act.put, List.setIfInBounds_toArray, List.set_cons_zero, List.set_cons_succ]
  refine wpAnyF_take (i := 4) (oi := { dst := some 10, op := Go.Op.load 27 (Go.Operand.tmp 2), type := 27, pos := "stats.go:205", after := #[], guard := none }) (v := ?_) rfl (by kernel_rfl) (by kernel_rfl) (by kernel_rfl) (by kernel_rfl) (fun _ _ _ h => h) (Or.inl ⟨by rfl, ?_⟩) hS ?_
  rotate_left
  · intro w' hSw; have z0 := (hSw.cell (p := ⟨gt, 0, none⟩) l0).trans k0; have z2 := (hSw.cell (p := ⟨gm, 0, none⟩) l2).trans k2; have z4 := (hSw.cell (p := ⟨bt, ot + i, none⟩) lt1).trans q0; go_simp; try with_reducible rfl
  try simp only [Act.put, List.setIfInBounds_toArray, List.set_cons_zero, List.set_cons_succ]
  refine wpAnyF_ready (rs := [5]) (by kernel_rfl) (by simp) ?_
  refine AllReadyF.cons (o := { dst := some 11, op := Go.Op.binOp Go.BinOp.quo 27 (Go.Operand.tmp 9) (Go.Operand.tmp 10) 27, type := 27, pos := "stats.go:205", after := #[{ on := 3, ground := Go.Ground.data }, { on := 4, ground := Go.Ground.data }], guard := none }) rfl (by rfl) (fun K hK => ?_) ?_
  · go_simp
    have Ha5 := Lib.hid (isF_div HA.out HM.out (W.drew))
    generalize aV Ieee.double.div a um (W.drew) = a5 at Ha5 ⊢
    generalize hW : W.drewN _ = W1
    have HI1 := Lib.hid (show I W1 from hW ▸ hIn _ _ HI.out)
    clear hW
    refine hK.out _ _ ?_ (fun hS => ?_)
    · exact hI1 _ HI1.out
    clear hK K
    try simp only [Act.put, List.setIfInBounds_toArray, List.set_cons_zero, List.set_cons_succ]
    refine wpAnyF_take (i := 6) (oi := { dst := some 5, op := Go.Op.assign (Go.Operand.tmp 11), type := 27, pos := "stats.go:205", after := #[{ on := 5, ground := Go.Ground.data }, { on := 0, ground := Go.Ground.phase }, { on := 1, ground := Go.Ground.phase }, { on := 2, ground := Go.Ground.phase }, { on := 3, ground := Go.Ground.phase }, { on := 4, ground := Go.Ground.phase }, { on := 5, ground := Go.Ground.phase }], guard := none }) (v := ?_) rfl (by kernel_rfl) (by kernel_rfl) (by kernel_rfl) (by kernel_rfl) (fun _ _ _ h => h) (Or.inl ⟨by rfl, ?_⟩) hS ?_
    rotate_left
    · intro w' hSw; have z0 := (hSw.cell (p := ⟨gt, 0, none⟩) l0).trans k0; have z2 := (hSw.cell (p := ⟨gm, 0, none⟩) l2).trans k2; have z4 := (hSw.cell (p := ⟨bt, ot + i, none⟩) lt1).trans q0; go_simp; try with_reducible rfl
    try simp only [Act.put, List.setIfInBounds_toArray, List.set_cons_zero, List.set_cons_succ]
    refine wpAnyF_done (by kernel_rfl) ?_ _
    go_wp2_with fail
    generalize hv : aV Ieee.double.mul a5 a5 _ = a6
    have Ha6 := Lib.hid (isF_eq hv (isF_mul Ha5.out Ha5.out _))
    clear hv
    go_ret
    exact ⟨_, rfl, Ha6.out, below_drewN (hI1 _ HI1.out) _⟩
  exact AllReadyF.nil
end Go.Proofs.YtidejikolcgojaaGreat.St

/- Stats: the document's nan. -/
import Derived.Test.YtidejikolcgojaaGreatStW
import Derived.Test.YtidejikolcgojaaGreatStQ
import Derived.BigQuiet
namespace Go.Proofs.YtidejikolcgojaaGreat.St
open Go.RowKit Go.Shelf
open Go.Proofs.YtidejikolcgojaaGreat.Vb Go.Proofs.YtidejikolcgojaaGreat.Ac
attribute [local go_sem] run_fadd run_fsub run_fmul run_fdiv run_store_float

theorem any_take {l : List Nat} {k x : Nat} (hx : l[k]? = some x) (h : (l.take k).any isN = false) : (l.take (k + 1)).any isN = isN x := by
  rw [List.take_add_one, hx, List.any_append, h]
  simp
set_option maxRecDepth 100000 in
set_option maxHeartbeats 4000000 in
theorem refnan_any {l : List Nat} {v : Value} {R : Nat → Prop} {w : World} (h : Fls w R v l) (hle : l.length ≤ 1000) :
    Calls Tryz.prog 55 #[v] w fun e w' => e = .returned (.bool (l.any isN)) ∧ Below w.heap.size w w' := by
  obtain ⟨A, cap, rfl, hnc, hcap⟩ := h.form
  have HL := Lib.hid h
  obtain ⟨z, hz⟩ : ∃ z, z = l.any isN := ⟨_, rfl⟩
  have HZ := Lib.hid hz
  rw [← hz]
  clear h hz
  go_enter Tryz.func55, Tryz.ntmps55
  go_wp2_with fail
  go_loopw [3] (fun i wr => ∃ k : Nat, k ≤ l.length ∧ i = .int .i64 k ∧ (l.take k).any isN = false ∧ Below w.heap.size w wr) (fun i _ => l.length - (intOf i).toNat)
  case atStart => exact ⟨0, Nat.zero_le _, rfl, rfl, Below.refl _ _⟩
  case round =>
    obtain ⟨k, hk, rfl, hno, hb⟩ := hrel
    have HB := Lib.hid hb
    have HNO := Lib.hid hno
    clear hno
    by_cases hlt : k < l.length
    · obtain ⟨x, hx⟩ : ∃ x, l[k]? = some x := ⟨_, List.getElem?_eq_getElem hlt⟩
      obtain ⟨bq, off, rfl, _, hbq, q0, q1⟩ := (HL.out.grow hb).at_ hx
      have HX := Lib.hid hx
      have hne := neq_self x
      have e1 : (0 : Int) ≤ (k : Int) := by omega
      have e2 : (k : Int) < (l.length : Int) := by omega
      by_cases hn : isN x = true
      · rw [hn] at hne
        have hnx : (FloatKind.f64.format.order x x != some .eq) = true := hne
        have HE := Lib.hid (show z = true by
          rw [HZ.out, List.any_eq_true]
          exact ⟨x, List.mem_of_getElem? HX.out, hn⟩)
        clear hx hb hn hne q1
        go_wp2_with fail
        refine wp_region_F (Below wr.heap.size wr) [] (by kernel_rfl) ((Below.refl _ _).drew) (fun hS => ?_)
        refine wpAnyF_take (i := 0) (oi := { dst := some 10, op := Go.Op.move (Go.Operand.tmp 0), type := 24, pos := "ref.go:73", after := #[], guard := none }) (v := ?_) rfl (by kernel_rfl) (by kernel_rfl) (by kernel_rfl) (by kernel_rfl) (fun _ _ _ h => h) (Or.inl ⟨by rfl, ?_⟩) hS ?_
        rotate_left
        · intro w' hSw; have p0 := (hSw.cell (p := ⟨bq, off + k, none⟩) hbq).trans q0; go_simp; try with_reducible rfl
        try simp only [Act.put, List.setIfInBounds_toArray, List.set_cons_zero, List.set_cons_succ]
        refine wpAnyF_take (i := 1) (oi := { dst := some 11, op := Go.Op.move (Go.Operand.tmp 3), type := 3, pos := "ref.go:73", after := #[], guard := none }) (v := ?_) rfl (by kernel_rfl) (by kernel_rfl) (by kernel_rfl) (by kernel_rfl) (fun _ _ _ h => h) (Or.inl ⟨by rfl, ?_⟩) hS ?_
        rotate_left
        · intro w' hSw; have p0 := (hSw.cell (p := ⟨bq, off + k, none⟩) hbq).trans q0; go_simp; try with_reducible rfl
        try simp only [Act.put, List.setIfInBounds_toArray, List.set_cons_zero, List.set_cons_succ]
        refine wpAnyF_take (i := 2) (oi := { dst := some 12, op := Go.Op.indexAddr 24 (Go.Operand.tmp 10) (Go.Operand.tmp 11), type := 0, pos := "ref.go:73", after := #[{ on := 0, ground := Go.Ground.data }, { on := 1, ground := Go.Ground.data }], guard := none }) (v := ?_) rfl (by kernel_rfl) (by kernel_rfl) (by kernel_rfl) (by kernel_rfl) (fun _ _ _ h => h) (Or.inl ⟨by rfl, ?_⟩) hS ?_
        rotate_left
        · intro w' hSw; have p0 := (hSw.cell (p := ⟨bq, off + k, none⟩) hbq).trans q0; go_simp; try with_reducible rfl
        try simp only [Act.put, List.setIfInBounds_toArray, List.set_cons_zero, List.set_cons_succ]
        refine wpAnyF_take (i := 3) (oi := { dst := some 13, op := Go.Op.load 27 (Go.Operand.tmp 12), type := 27, pos := "ref.go:73", after := #[{ on := 2, ground := Go.Ground.data }], guard := none }) (v := ?_) rfl (by kernel_rfl) (by kernel_rfl) (by kernel_rfl) (by kernel_rfl) (fun _ _ _ h => h) (Or.inl ⟨by rfl, ?_⟩) hS ?_
        rotate_left
        · intro w' hSw; have p0 := (hSw.cell (p := ⟨bq, off + k, none⟩) hbq).trans q0; go_simp; try with_reducible rfl
        try simp only [Act.put, List.setIfInBounds_toArray, List.set_cons_zero, List.set_cons_succ]
        refine wpAnyF_take (i := 4) (oi := { dst := some 14, op := Go.Op.move (Go.Operand.tmp 0), type := 24, pos := "ref.go:73", after := #[], guard := none }) (v := ?_) rfl (by kernel_rfl) (by kernel_rfl) (by kernel_rfl) (by kernel_rfl) (fun _ _ _ h => h) (Or.inl ⟨by rfl, ?_⟩) hS ?_
        rotate_left
        · intro w' hSw; have p0 := (hSw.cell (p := ⟨bq, off + k, none⟩) hbq).trans q0; go_simp; try with_reducible rfl
        try simp only [Act.put, List.setIfInBounds_toArray, List.set_cons_zero, List.set_cons_succ]
        refine wpAnyF_take (i := 5) (oi := { dst := some 15, op := Go.Op.move (Go.Operand.tmp 3), type := 3, pos := "ref.go:73", after := #[], guard := none }) (v := ?_) rfl (by kernel_rfl) (by kernel_rfl) (by kernel_rfl) (by kernel_rfl) (fun _ _ _ h => h) (Or.inl ⟨by rfl, ?_⟩) hS ?_
        rotate_left
        · intro w' hSw; have p0 := (hSw.cell (p := ⟨bq, off + k, none⟩) hbq).trans q0; go_simp; try with_reducible rfl
        try simp only [Act.put, List.setIfInBounds_toArray, List.set_cons_zero, List.set_cons_succ]
        refine wpAnyF_take (i := 6) (oi := { dst := some 16, op := Go.Op.indexAddr 24 (Go.Operand.tmp 14) (Go.Operand.tmp 15), type := 0, pos := "ref.go:73", after := #[{ on := 4, ground := Go.Ground.data }, { on := 5, ground := Go.Ground.data }], guard := none }) (v := ?_) rfl (by kernel_rfl) (by kernel_rfl) (by kernel_rfl) (by kernel_rfl) (fun _ _ _ h => h) (Or.inl ⟨by rfl, ?_⟩) hS ?_
        rotate_left
        · intro w' hSw; have p0 := (hSw.cell (p := ⟨bq, off + k, none⟩) hbq).trans q0; go_simp; try with_reducible rfl
        try simp only [Act.put, List.setIfInBounds_toArray, List.set_cons_zero, List.set_cons_succ]
        refine wpAnyF_take (i := 7) (oi := { dst := some 17, op := Go.Op.load 27 (Go.Operand.tmp 16), type := 27, pos := "ref.go:73", after := #[{ on := 6, ground := Go.Ground.data }], guard := none }) (v := ?_) rfl (by kernel_rfl) (by kernel_rfl) (by kernel_rfl) (by kernel_rfl) (fun _ _ _ h => h) (Or.inl ⟨by rfl, ?_⟩) hS ?_
        rotate_left
        · intro w' hSw; have p0 := (hSw.cell (p := ⟨bq, off + k, none⟩) hbq).trans q0; go_simp; try with_reducible rfl
        try simp only [Act.put, List.setIfInBounds_toArray, List.set_cons_zero, List.set_cons_succ]
        refine wpAnyF_take (i := 8) (oi := { dst := some 18, op := Go.Op.binOp Go.BinOp.neq 27 (Go.Operand.tmp 13) (Go.Operand.tmp 17) 27, type := 4, pos := "ref.go:73", after := #[{ on := 3, ground := Go.Ground.data }, { on := 7, ground := Go.Ground.data }], guard := none }) (v := ?_) rfl (by kernel_rfl) (by kernel_rfl) (by kernel_rfl) (by kernel_rfl) (fun _ _ _ h => h) (Or.inl ⟨by rfl, ?_⟩) hS ?_
        rotate_left
        · intro w' hSw; have p0 := (hSw.cell (p := ⟨bq, off + k, none⟩) hbq).trans q0; go_simp; try with_reducible rfl
        try simp only [Act.put, List.setIfInBounds_toArray, List.set_cons_zero, List.set_cons_succ]
        refine wpAnyF_done (by kernel_rfl) ?_ _
        have HS9 := Lib.hid (HB.out.trans (hS.mono HB.out.size))
        clear hS
        go_wp2_with fail
        go_ret
        exact ⟨by rw [HE.out]; rfl, HS9.out⟩
      · have hn' : isN x = false := by simpa using hn
        rw [hn'] at hne
        have hnx : (FloatKind.f64.format.order x x != some .eq) = false := hne
        have HE := Lib.hid (show (l.take (k + 1)).any isN = false by rw [any_take HX.out HNO.out, hn'])
        clear hx hb hn hne hn' q1
        go_wp2_with fail
        refine wp_region_F (Below wr.heap.size wr) [] (by kernel_rfl) ((Below.refl _ _).drew) (fun hS => ?_)
        refine wpAnyF_take (i := 0) (oi := { dst := some 10, op := Go.Op.move (Go.Operand.tmp 0), type := 24, pos := "ref.go:73", after := #[], guard := none }) (v := ?_) rfl (by kernel_rfl) (by kernel_rfl) (by kernel_rfl) (by kernel_rfl) (fun _ _ _ h => h) (Or.inl ⟨by rfl, ?_⟩) hS ?_
        rotate_left
        · intro w' hSw; have p0 := (hSw.cell (p := ⟨bq, off + k, none⟩) hbq).trans q0; go_simp; try with_reducible rfl
        try simp only [Act.put, List.setIfInBounds_toArray, List.set_cons_zero, List.set_cons_succ]
        refine wpAnyF_take (i := 1) (oi := { dst := some 11, op := Go.Op.move (Go.Operand.tmp 3), type := 3, pos := "ref.go:73", after := #[], guard := none }) (v := ?_) rfl (by kernel_rfl) (by kernel_rfl) (by kernel_rfl) (by kernel_rfl) (fun _ _ _ h => h) (Or.inl ⟨by rfl, ?_⟩) hS ?_
        rotate_left
        · intro w' hSw; have p0 := (hSw.cell (p := ⟨bq, off + k, none⟩) hbq).trans q0; go_simp; try with_reducible rfl
        try simp only [Act.put, List.setIfInBounds_toArray, List.set_cons_zero, List.set_cons_succ]
        refine wpAnyF_take (i := 2) (oi := { dst := some 12, op := Go.Op.indexAddr 24 (Go.Operand.tmp 10) (Go.Operand.tmp 11), type := 0, pos := "ref.go:73", after := #[{ on := 0, ground := Go.Ground.data }, { on := 1, ground := Go.Ground.data }], guard := none }) (v := ?_) rfl (by kernel_rfl) (by kernel_rfl) (by kernel_rfl) (by kernel_rfl) (fun _ _ _ h => h) (Or.inl ⟨by rfl, ?_⟩) hS ?_
        rotate_left
        · intro w' hSw; have p0 := (hSw.cell (p := ⟨bq, off + k, none⟩) hbq).trans q0; go_simp; try with_reducible rfl
        try simp only [Act.put, List.setIfInBounds_toArray, List.set_cons_zero, List.set_cons_succ]
        refine wpAnyF_take (i := 3) (oi := { dst := some 13, op := Go.Op.load 27 (Go.Operand.tmp 12), type := 27, pos := "ref.go:73", after := #[{ on := 2, ground := Go.Ground.data }], guard := none }) (v := ?_) rfl (by kernel_rfl) (by kernel_rfl) (by kernel_rfl) (by kernel_rfl) (fun _ _ _ h => h) (Or.inl ⟨by rfl, ?_⟩) hS ?_
        rotate_left
        · intro w' hSw; have p0 := (hSw.cell (p := ⟨bq, off + k, none⟩) hbq).trans q0; go_simp; try with_reducible rfl
        try simp only [Act.put, List.setIfInBounds_toArray, List.set_cons_zero, List.set_cons_succ]
        refine wpAnyF_take (i := 4) (oi := { dst := some 14, op := Go.Op.move (Go.Operand.tmp 0), type := 24, pos := "ref.go:73", after := #[], guard := none }) (v := ?_) rfl (by kernel_rfl) (by kernel_rfl) (by kernel_rfl) (by kernel_rfl) (fun _ _ _ h => h) (Or.inl ⟨by rfl, ?_⟩) hS ?_
        rotate_left
        · intro w' hSw; have p0 := (hSw.cell (p := ⟨bq, off + k, none⟩) hbq).trans q0; go_simp; try with_reducible rfl
        try simp only [Act.put, List.setIfInBounds_toArray, List.set_cons_zero, List.set_cons_succ]
        refine wpAnyF_take (i := 5) (oi := { dst := some 15, op := Go.Op.move (Go.Operand.tmp 3), type := 3, pos := "ref.go:73", after := #[], guard := none }) (v := ?_) rfl (by kernel_rfl) (by kernel_rfl) (by kernel_rfl) (by kernel_rfl) (fun _ _ _ h => h) (Or.inl ⟨by rfl, ?_⟩) hS ?_
        rotate_left
        · intro w' hSw; have p0 := (hSw.cell (p := ⟨bq, off + k, none⟩) hbq).trans q0; go_simp; try with_reducible rfl
        try simp only [Act.put, List.setIfInBounds_toArray, List.set_cons_zero, List.set_cons_succ]
        refine wpAnyF_take (i := 6) (oi := { dst := some 16, op := Go.Op.indexAddr 24 (Go.Operand.tmp 14) (Go.Operand.tmp 15), type := 0, pos := "ref.go:73", after := #[{ on := 4, ground := Go.Ground.data }, { on := 5, ground := Go.Ground.data }], guard := none }) (v := ?_) rfl (by kernel_rfl) (by kernel_rfl) (by kernel_rfl) (by kernel_rfl) (fun _ _ _ h => h) (Or.inl ⟨by rfl, ?_⟩) hS ?_
        rotate_left
        · intro w' hSw; have p0 := (hSw.cell (p := ⟨bq, off + k, none⟩) hbq).trans q0; go_simp; try with_reducible rfl
        try simp only [Act.put, List.setIfInBounds_toArray, List.set_cons_zero, List.set_cons_succ]
        refine wpAnyF_take (i := 7) (oi := { dst := some 17, op := Go.Op.load 27 (Go.Operand.tmp 16), type := 27, pos := "ref.go:73", after := #[{ on := 6, ground := Go.Ground.data }], guard := none }) (v := ?_) rfl (by kernel_rfl) (by kernel_rfl) (by kernel_rfl) (by kernel_rfl) (fun _ _ _ h => h) (Or.inl ⟨by rfl, ?_⟩) hS ?_
        rotate_left
        · intro w' hSw; have p0 := (hSw.cell (p := ⟨bq, off + k, none⟩) hbq).trans q0; go_simp; try with_reducible rfl
        try simp only [Act.put, List.setIfInBounds_toArray, List.set_cons_zero, List.set_cons_succ]
        refine wpAnyF_take (i := 8) (oi := { dst := some 18, op := Go.Op.binOp Go.BinOp.neq 27 (Go.Operand.tmp 13) (Go.Operand.tmp 17) 27, type := 4, pos := "ref.go:73", after := #[{ on := 3, ground := Go.Ground.data }, { on := 7, ground := Go.Ground.data }], guard := none }) (v := ?_) rfl (by kernel_rfl) (by kernel_rfl) (by kernel_rfl) (by kernel_rfl) (fun _ _ _ h => h) (Or.inl ⟨by rfl, ?_⟩) hS ?_
        rotate_left
        · intro w' hSw; have p0 := (hSw.cell (p := ⟨bq, off + k, none⟩) hbq).trans q0; go_simp; try with_reducible rfl
        try simp only [Act.put, List.setIfInBounds_toArray, List.set_cons_zero, List.set_cons_succ]
        refine wpAnyF_done (by kernel_rfl) ?_ _
        have HS9 := Lib.hid (HB.out.trans (hS.mono HB.out.size))
        clear hS
        go_wp2_with fail
        go_roundw
        case rel => exact ⟨k + 1, by omega, by go_num, HE.out, HS9.out⟩
        case measure => simp [intOf]; omega
    · obtain rfl : k = l.length := by omega
      have HE := Lib.hid (show z = false by rw [HZ.out, ← HNO.out, List.take_length])
      clear hb
      go_wp2_with fail
      go_ret
      exact ⟨by rw [HE.out]; rfl, HB.out⟩
end Go.Proofs.YtidejikolcgojaaGreat.St

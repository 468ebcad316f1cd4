/- Joined by program: TruM. -/
import Derived.Test.YtcigobiolbojhaaGreatZj
import Derived.Test.YtcigobiolbojhaaGreatZa
/- Law 29's own: given. -/
namespace Go.Proofs.YtcigobiolbojhaaGreat.Vb
open Go.RowKit

set_option maxRecDepth 100000 in
set_option maxHeartbeats 6400000 in
theorem given29_any (n : Int) (bs : List (List Off)) (buyer r : Int) (tr : List Off) (ts : List (List Off)) (v vt vs : Value) (R Rt Rs : Nat → Prop) (w : World) (hl : Buys w R v bs) (ht : Offs w Rt vt tr) (hs : Buys w Rs vs ts)
    (hbl : bs.length ≤ 40) (htl : ts.length ≤ 40) (hb40 : ∀ l ∈ bs, l.length ≤ 40) (ht40 : ∀ l ∈ ts, l.length ≤ 40) (htr : tr.length ≤ 40) :
    Calls Tryz.prog 6 #[.agg #[.int .i64 n, v, .int .i64 buyer, .int .i64 r, vt, vs]] w fun e w' => ∃ (g c : Nat) (Ab : Option Addr) (cb : Nat) (At : Option Addr) (ct : Nat),
      e = .returned (.agg #[.int .i64 n, .slice Ab bs.length cb, .int .i64 buyer, .int .i64 r, .slice (some ⟨g, 0, none⟩) tr.length c, .slice At ts.length ct]) ∧ LentO w' w.heap.size g c tr ∧ LentB w' w.heap.size (.slice Ab bs.length cb) bs ∧ LentB w' w.heap.size (.slice At ts.length ct) ts ∧ Below w.heap.size w w' := by
  obtain ⟨_, ⟨_, Axb, cxb, rfl, _⟩, _⟩ := id hl
  obtain ⟨_, ⟨_, Axs, cxs, rfl, _⟩, _⟩ := id hs
  obtain ⟨⟨_, Axt, cxt, rfl, _⟩, _⟩ := id ht
  have HBS := Lib.hid hl
  have HTS := Lib.hid hs
  have HT := Lib.hid ht
  have HSM := Lib.hid hb40
  have HSMs := Lib.hid ht40
  clear hl ht hs hb40 ht40
  go_enter Tryz.func6, Tryz.ntmps6
  go_wp2_with fail
  obtain ⟨WA, hWA⟩ : ∃ V, V = (w.alloc (.cells #[.int .i64 n, .slice Axb bs.length cxb, .int .i64 buyer, .int .i64 r, .slice Axt tr.length cxt, .slice Axs ts.length cxs] 28)).alloc (.cells #[.int .i64 0, .slice none 0 0, .int .i64 0, .int .i64 0, .slice none 0 0, .slice none 0 0] 28) := ⟨_, rfl⟩
  have HX := Lib.hid (show Blk WA w.heap.size 28 #[.int .i64 n, .slice Axb bs.length cxb, .int .i64 buyer, .int .i64 r, .slice Axt tr.length cxt, .slice Axs ts.length cxs] from by rw [hWA]; exact (Blk.new w _ _).alloc _)
  have HR := Lib.hid (show Blk WA (w.heap.size + 1) 28 #[.int .i64 0, .slice none 0 0, .int .i64 0, .int .i64 0, .slice none 0 0, .slice none 0 0] from by rw [hWA]; exact Blk.new' _ _ (by simp))
  have HBW := Lib.hid (show Below w.heap.size w WA from by rw [hWA]; exact ((Below.refl _ _).alloc (Nat.le_refl _) _).alloc (by simp) _)
  have hsA : WA.heap.size = w.heap.size + 2 := by rw [hWA]; simp
  rw [← hWA]
  clear hWA
  have x0 : WA.cell? ⟨w.heap.size, 0, none⟩ = some (.int .i64 n) := HX.out.cell 0
  have x1 : WA.cell? ⟨w.heap.size, 1, none⟩ = some (.slice Axb bs.length cxb) := HX.out.cell 1
  have x2 : WA.cell? ⟨w.heap.size, 2, none⟩ = some (.int .i64 buyer) := HX.out.cell 2
  have x3 : WA.cell? ⟨w.heap.size, 3, none⟩ = some (.int .i64 r) := HX.out.cell 3
  have x4 : WA.cell? ⟨w.heap.size, 4, none⟩ = some (.slice Axt tr.length cxt) := HX.out.cell 4
  have x5 : WA.cell? ⟨w.heap.size, 5, none⟩ = some (.slice Axs ts.length cxs) := HX.out.cell 5
  refine wp_region_F (Below (w.heap.size + 2) WA) [13] (by kernel_rfl) ((Below.refl _ _).drew) (fun hS => ?_)
  obtain ⟨V0, hV⟩ : ∃ V, V = WA.drew := ⟨_, rfl⟩
  have HPA : Below (w.heap.size + 2) WA V0 := by rw [hV]; exact (Below.refl _ _).drew
  have HS0 := Lib.hid (show V0.heap.size = w.heap.size + 2 by rw [hV]; simpa using hsA)
  rw [← hV] at hS ⊢
  replace HPA := Lib.hid HPA
  clear hV
  refine wpAnyF_take (i := 0) (oi := { dst := some 6, op := Go.Op.fieldAddr 28 (Go.Operand.tmp 1) 0, type := 0, pos := "law.go:98", after := #[], guard := none }) (v := ?_) rfl (by kernel_rfl) (by kernel_rfl) (by kernel_rfl) (by kernel_rfl) (fun _ _ _ h => h) (Or.inl ⟨by rfl, ?_⟩) hS ?_
  rotate_left
  · intro w' hSw; have q0 := (hSw.cell (p := ⟨w.heap.size, 0, none⟩) (by simp <;> omega)).trans x0; have q2 := (hSw.cell (p := ⟨w.heap.size, 2, none⟩) (by simp <;> omega)).trans x2; have q3 := (hSw.cell (p := ⟨w.heap.size, 3, none⟩) (by simp <;> omega)).trans x3; have q4 := (hSw.cell (p := ⟨w.heap.size, 4, none⟩) (by simp <;> omega)).trans x4; go_simp; try with_reducible rfl
  try simp only [Act.put, List.setIfInBounds_toArray, List.set_cons_zero, List.set_cons_succ]
  refine wpAnyF_take (i := 1) (oi := { dst := some 7, op := Go.Op.fieldAddr 24 (Go.Operand.tmp 6) 0, type := 0, pos := "law.go:98", after := #[{ on := 0, ground := Go.Ground.data }], guard := none }) (v := ?_) rfl (by kernel_rfl) (by kernel_rfl) (by kernel_rfl) (by kernel_rfl) (fun _ _ _ h => h) (Or.inl ⟨by rfl, ?_⟩) hS ?_
  rotate_left
  · intro w' hSw; have q0 := (hSw.cell (p := ⟨w.heap.size, 0, none⟩) (by simp <;> omega)).trans x0; have q2 := (hSw.cell (p := ⟨w.heap.size, 2, none⟩) (by simp <;> omega)).trans x2; have q3 := (hSw.cell (p := ⟨w.heap.size, 3, none⟩) (by simp <;> omega)).trans x3; have q4 := (hSw.cell (p := ⟨w.heap.size, 4, none⟩) (by simp <;> omega)).trans x4; go_simp; try with_reducible rfl
  try simp only [Act.put, List.setIfInBounds_toArray, List.set_cons_zero, List.set_cons_succ]
  refine wpAnyF_take (i := 2) (oi := { dst := some 8, op := Go.Op.load 3 (Go.Operand.tmp 7), type := 3, pos := "law.go:98", after := #[{ on := 1, ground := Go.Ground.data }], guard := none }) (v := ?_) rfl (by kernel_rfl) (by kernel_rfl) (by kernel_rfl) (by kernel_rfl) (fun _ _ _ h => h) (Or.inl ⟨by rfl, ?_⟩) hS ?_
  rotate_left
  · intro w' hSw; have q0 := (hSw.cell (p := ⟨w.heap.size, 0, none⟩) (by simp <;> omega)).trans x0; have q2 := (hSw.cell (p := ⟨w.heap.size, 2, none⟩) (by simp <;> omega)).trans x2; have q3 := (hSw.cell (p := ⟨w.heap.size, 3, none⟩) (by simp <;> omega)).trans x3; have q4 := (hSw.cell (p := ⟨w.heap.size, 4, none⟩) (by simp <;> omega)).trans x4; go_simp; try with_reducible rfl
  try simp only [Act.put, List.setIfInBounds_toArray, List.set_cons_zero, List.set_cons_succ]
  refine wpAnyF_take (i := 3) (oi := { dst := some 9, op := Go.Op.build 24 #[(0, Go.Operand.tmp 8)], type := 24, pos := "law.go:98", after := #[{ on := 2, ground := Go.Ground.data }], guard := none }) (v := ?_) rfl (by kernel_rfl) (by kernel_rfl) (by kernel_rfl) (by kernel_rfl) (fun _ _ _ h => h) (Or.inl ⟨by rfl, ?_⟩) hS ?_
  rotate_left
  · intro w' hSw; have q0 := (hSw.cell (p := ⟨w.heap.size, 0, none⟩) (by simp <;> omega)).trans x0; have q2 := (hSw.cell (p := ⟨w.heap.size, 2, none⟩) (by simp <;> omega)).trans x2; have q3 := (hSw.cell (p := ⟨w.heap.size, 3, none⟩) (by simp <;> omega)).trans x3; have q4 := (hSw.cell (p := ⟨w.heap.size, 4, none⟩) (by simp <;> omega)).trans x4; go_simp; try with_reducible rfl
  try simp only [Act.put, List.setIfInBounds_toArray, List.set_cons_zero, List.set_cons_succ]
  refine wpAnyF_take (i := 4) (oi := { dst := some 10, op := Go.Op.fieldAddr 28 (Go.Operand.tmp 1) 1, type := 0, pos := "law.go:98", after := #[], guard := none }) (v := ?_) rfl (by kernel_rfl) (by kernel_rfl) (by kernel_rfl) (by kernel_rfl) (fun _ _ _ h => h) (Or.inl ⟨by rfl, ?_⟩) hS ?_
  rotate_left
  · intro w' hSw; have q0 := (hSw.cell (p := ⟨w.heap.size, 0, none⟩) (by simp <;> omega)).trans x0; have q2 := (hSw.cell (p := ⟨w.heap.size, 2, none⟩) (by simp <;> omega)).trans x2; have q3 := (hSw.cell (p := ⟨w.heap.size, 3, none⟩) (by simp <;> omega)).trans x3; have q4 := (hSw.cell (p := ⟨w.heap.size, 4, none⟩) (by simp <;> omega)).trans x4; go_simp; try with_reducible rfl
  try simp only [Act.put, List.setIfInBounds_toArray, List.set_cons_zero, List.set_cons_succ]
  refine wpAnyF_take (i := 5) (oi := { dst := some 11, op := Go.Op.load 3 (Go.Operand.tmp 10), type := 3, pos := "law.go:98", after := #[{ on := 4, ground := Go.Ground.data }], guard := none }) (v := ?_) rfl (by kernel_rfl) (by kernel_rfl) (by kernel_rfl) (by kernel_rfl) (fun _ _ _ h => h) (Or.inl ⟨by rfl, ?_⟩) hS ?_
  rotate_left
  · intro w' hSw; have q0 := (hSw.cell (p := ⟨w.heap.size, 0, none⟩) (by simp <;> omega)).trans x0; have q2 := (hSw.cell (p := ⟨w.heap.size, 2, none⟩) (by simp <;> omega)).trans x2; have q3 := (hSw.cell (p := ⟨w.heap.size, 3, none⟩) (by simp <;> omega)).trans x3; have q4 := (hSw.cell (p := ⟨w.heap.size, 4, none⟩) (by simp <;> omega)).trans x4; go_simp; try with_reducible rfl
  try simp only [Act.put, List.setIfInBounds_toArray, List.set_cons_zero, List.set_cons_succ]
  refine wpAnyF_take (i := 6) (oi := { dst := some 12, op := Go.Op.fieldAddr 28 (Go.Operand.tmp 1) 2, type := 0, pos := "law.go:98", after := #[], guard := none }) (v := ?_) rfl (by kernel_rfl) (by kernel_rfl) (by kernel_rfl) (by kernel_rfl) (fun _ _ _ h => h) (Or.inl ⟨by rfl, ?_⟩) hS ?_
  rotate_left
  · intro w' hSw; have q0 := (hSw.cell (p := ⟨w.heap.size, 0, none⟩) (by simp <;> omega)).trans x0; have q2 := (hSw.cell (p := ⟨w.heap.size, 2, none⟩) (by simp <;> omega)).trans x2; have q3 := (hSw.cell (p := ⟨w.heap.size, 3, none⟩) (by simp <;> omega)).trans x3; have q4 := (hSw.cell (p := ⟨w.heap.size, 4, none⟩) (by simp <;> omega)).trans x4; go_simp; try with_reducible rfl
  try simp only [Act.put, List.setIfInBounds_toArray, List.set_cons_zero, List.set_cons_succ]
  refine wpAnyF_take (i := 7) (oi := { dst := some 13, op := Go.Op.load 25 (Go.Operand.tmp 12), type := 25, pos := "law.go:98", after := #[{ on := 6, ground := Go.Ground.data }], guard := none }) (v := ?_) rfl (by kernel_rfl) (by kernel_rfl) (by kernel_rfl) (by kernel_rfl) (fun _ _ _ h => h) (Or.inl ⟨by rfl, ?_⟩) hS ?_
  rotate_left
  · intro w' hSw; have q0 := (hSw.cell (p := ⟨w.heap.size, 0, none⟩) (by simp <;> omega)).trans x0; have q2 := (hSw.cell (p := ⟨w.heap.size, 2, none⟩) (by simp <;> omega)).trans x2; have q3 := (hSw.cell (p := ⟨w.heap.size, 3, none⟩) (by simp <;> omega)).trans x3; have q4 := (hSw.cell (p := ⟨w.heap.size, 4, none⟩) (by simp <;> omega)).trans x4; go_simp; try with_reducible rfl
  try simp only [Act.put, List.setIfInBounds_toArray, List.set_cons_zero, List.set_cons_succ]
  refine wpAnyF_take (i := 8) (oi := { dst := some 14, op := Go.Op.fieldAddr 28 (Go.Operand.tmp 1) 3, type := 0, pos := "law.go:98", after := #[], guard := none }) (v := ?_) rfl (by kernel_rfl) (by kernel_rfl) (by kernel_rfl) (by kernel_rfl) (fun _ _ _ h => h) (Or.inl ⟨by rfl, ?_⟩) hS ?_
  rotate_left
  · intro w' hSw; have q0 := (hSw.cell (p := ⟨w.heap.size, 0, none⟩) (by simp <;> omega)).trans x0; have q2 := (hSw.cell (p := ⟨w.heap.size, 2, none⟩) (by simp <;> omega)).trans x2; have q3 := (hSw.cell (p := ⟨w.heap.size, 3, none⟩) (by simp <;> omega)).trans x3; have q4 := (hSw.cell (p := ⟨w.heap.size, 4, none⟩) (by simp <;> omega)).trans x4; go_simp; try with_reducible rfl
  try simp only [Act.put, List.setIfInBounds_toArray, List.set_cons_zero, List.set_cons_succ]
  refine wpAnyF_take (i := 9) (oi := { dst := some 15, op := Go.Op.load 26 (Go.Operand.tmp 14), type := 26, pos := "law.go:98", after := #[{ on := 8, ground := Go.Ground.data }], guard := none }) (v := ?_) rfl (by kernel_rfl) (by kernel_rfl) (by kernel_rfl) (by kernel_rfl) (fun _ _ _ h => h) (Or.inl ⟨by rfl, ?_⟩) hS ?_
  rotate_left
  · intro w' hSw; have q0 := (hSw.cell (p := ⟨w.heap.size, 0, none⟩) (by simp <;> omega)).trans x0; have q2 := (hSw.cell (p := ⟨w.heap.size, 2, none⟩) (by simp <;> omega)).trans x2; have q3 := (hSw.cell (p := ⟨w.heap.size, 3, none⟩) (by simp <;> omega)).trans x3; have q4 := (hSw.cell (p := ⟨w.heap.size, 4, none⟩) (by simp <;> omega)).trans x4; go_simp; try with_reducible rfl
  try simp only [Act.put, List.setIfInBounds_toArray, List.set_cons_zero, List.set_cons_succ]
  refine wpAnyF_ready (rs := [10, 12]) (by kernel_rfl) (by simp) ?_
  refine AllReadyF.cons (o := { dst := some 16, op := Go.Op.call { callee := Go.Callee.value (Go.Operand.func 18), args := #[Go.Operand.tmp 15], argTypes := #[26] }, type := 26, pos := "law.go:98", after := #[{ on := 9, ground := Go.Ground.data }], guard := none }) rfl (by rfl) (fun K hK => ?_) ?_
  · go_simp
    refine (offers29_any tr _ Rt V0 (HT.out.grow (HBW.out.trans (HPA.out.mono (by omega)))) (by omega)).mono ?_
    rintro e V1 ⟨g, c, rfl, hm, hb5⟩
    refine hK.out _ _ ?_ (fun hS => ?_)
    · exact HPA.out.trans (hb5.mono (by have := HPA.out.size; omega))
    clear hK K
    try simp only [Act.put, List.setIfInBounds_toArray, List.set_cons_zero, List.set_cons_succ]
    have hb6 := HPA.out.trans (hb5.mono (show w.heap.size + 2 ≤ V0.heap.size by have := HPA.out.size; omega))
    obtain ⟨hml, hmc, _, _, hgl, _⟩ := hm.mark
    have hc41 : ((tr.length : Nat) : Int) ≤ (c : Int) := by omega
    have hc40 : (0 : Int) ≤ ((tr.length : Nat) : Int) := by omega
    have HM1 := Lib.hid (hm.mono (show w.heap.size + 2 ≤ V0.heap.size by have := HPA.out.size; omega))
    replace HPA := Lib.hid hb6
    clear hb5 hb6 hm
    refine wpAnyF_take (i := 11) (oi := { dst := some 17, op := Go.Op.build 28 #[(0, Go.Operand.tmp 9), (1, Go.Operand.tmp 11), (2, Go.Operand.tmp 13), (3, Go.Operand.tmp 16)], type := 28, pos := "law.go:98", after := #[{ on := 3, ground := Go.Ground.data }, { on := 5, ground := Go.Ground.data }, { on := 7, ground := Go.Ground.data }, { on := 10, ground := Go.Ground.data }], guard := none }) (v := ?_) rfl (by kernel_rfl) (by kernel_rfl) (by kernel_rfl) (by kernel_rfl) (fun _ _ _ h => h) (Or.inl ⟨by rfl, ?_⟩) hS ?_
    rotate_left
    · intro w' hSw; have q0 := (hSw.cell (p := ⟨w.heap.size, 0, none⟩) (by simp <;> omega)).trans x0; have q2 := (hSw.cell (p := ⟨w.heap.size, 2, none⟩) (by simp <;> omega)).trans x2; have q3 := (hSw.cell (p := ⟨w.heap.size, 3, none⟩) (by simp <;> omega)).trans x3; have q4 := (hSw.cell (p := ⟨w.heap.size, 4, none⟩) (by simp <;> omega)).trans x4; go_simp; try with_reducible rfl
    try simp only [Act.put, List.setIfInBounds_toArray, List.set_cons_zero, List.set_cons_succ]
    refine wpAnyF_ready (rs := [12]) (by kernel_rfl) (by simp) ?_
    refine AllReadyF.cons (o := { dst := some 3, op := Go.Op.alloc 28, type := 0, pos := "law.go:98", after := #[], guard := none }) rfl (by rfl) (fun K hK => ?_) ?_
    · go_simp
      refine hK.out _ _ ?_ (fun hS => ?_)
      · exact HPA.out.alloc (by have := HPA.out.size; omega) _
      clear hK K
      try simp only [Act.put, List.setIfInBounds_toArray, List.set_cons_zero, List.set_cons_succ]
      obtain ⟨yb, hyb⟩ : ∃ z, z = V1.heap.size := ⟨_, rfl⟩
      have hyb2 : w.heap.size + 2 ≤ yb := by have := HPA.out.size; omega
      have hB := HPA.out.alloc (by have := HPA.out.size; omega) (.cells #[.int .i64 0, .slice none 0 0, .int .i64 0, .int .i64 0, .slice none 0 0, .slice none 0 0] 28)
      have hY := Blk.new V1 28 #[.int .i64 0, .slice none 0 0, .int .i64 0, .int .i64 0, .slice none 0 0, .slice none 0 0]
      have hM := HM1.out.grow ((Below.refl V1.heap.size V1).alloc (Nat.le_refl _) (.cells #[.int .i64 0, .slice none 0 0, .int .i64 0, .int .i64 0, .slice none 0 0, .slice none 0 0] 28))
      obtain ⟨V2, hV⟩ : ∃ V, V = V1.alloc (.cells #[.int .i64 0, .slice none 0 0, .int .i64 0, .int .i64 0, .slice none 0 0, .slice none 0 0] 28) := ⟨_, rfl⟩
      rw [← hV] at hB hY hS ⊢
      rw [← hyb] at hY ⊢
      rw [← hV] at hM
      have HM2 := Lib.hid hM
      have HY2 := Lib.hid hY
      have HW2 := Lib.hid hB
      clear hM
      replace HPA := Lib.hid hB
      clear hV hB hY hyb
      have z0 : V2.cell? ⟨yb, 0, none⟩ = some (.int .i64 0) := HY2.out.cell 0
      have z1 : V2.cell? ⟨yb, 1, none⟩ = some (.slice none 0 0) := HY2.out.cell 1
      have z2 : V2.cell? ⟨yb, 2, none⟩ = some (.int .i64 0) := HY2.out.cell 2
      have z3 : V2.cell? ⟨yb, 3, none⟩ = some (.int .i64 0) := HY2.out.cell 3
      have z4 : V2.cell? ⟨yb, 4, none⟩ = some (.slice none 0 0) := HY2.out.cell 4
      have z5 : V2.cell? ⟨yb, 5, none⟩ = some (.slice none 0 0) := HY2.out.cell 5
      have zf := HY2.out.frozen
      refine wpAnyF_ready (rs := [13]) (by kernel_rfl) (by simp) ?_
      refine AllReadyF.fin (o := { dst := none, op := Go.Op.store 28 (Go.Operand.tmp 3) (Go.Operand.tmp 17), type := 0, pos := "law.go:98", after := #[{ on := 12, ground := Go.Ground.data }, { on := 11, ground := Go.Ground.data }, { on := 10, ground := Go.Ground.chain }, { on := 0, ground := Go.Ground.phase }, { on := 1, ground := Go.Ground.phase }, { on := 2, ground := Go.Ground.phase }, { on := 3, ground := Go.Ground.phase }, { on := 4, ground := Go.Ground.phase }, { on := 5, ground := Go.Ground.phase }, { on := 6, ground := Go.Ground.phase }, { on := 7, ground := Go.Ground.phase }, { on := 8, ground := Go.Ground.phase }, { on := 9, ground := Go.Ground.phase }, { on := 10, ground := Go.Ground.phase }, { on := 11, ground := Go.Ground.phase }, { on := 12, ground := Go.Ground.phase }], guard := none }) rfl (by rfl) (fun K hK => ?_) ?_
      · go_simp
        refine hK.out _ _ ?_
        clear hK K
        try simp only [Act.put, List.setIfInBounds_toArray, List.set_cons_zero, List.set_cons_succ]
        refine wpAnyF_done (by kernel_rfl) ?_ _
        clear hS HS0
        have HG0 := Lib.hid (GvI.start (n := n) (buyer := buyer) (r := r) HY2.out HM2.out)
        have HG1 := Lib.hid (put6_below HW2.out (show w.heap.size + 2 ≤ yb by omega) (.int .i64 n) (.slice none 0 0) (.int .i64 buyer) (.int .i64 r) (.slice (some ⟨g, 0, none⟩) tr.length c) (.slice none 0 0))
        obtain ⟨W3, hW3⟩ : ∃ V, V = put6 V2 yb (.int .i64 n) (.slice none 0 0) (.int .i64 buyer) (.int .i64 r) (.slice (some ⟨g, 0, none⟩) tr.length c) (.slice none 0 0) := ⟨_, rfl⟩
        rw [← hW3] at HG0 HG1
        unfold put6 at hW3
        rw [← hW3]
        clear hW3 HY2 HM2 HW2 HPA
        go_wp2_with fail
        go_loopw [4] (fun i wr => ∃ (k : Nat) (A' : Option Addr) (cap' : Nat), k ≤ bs.length ∧ i = .int .i64 k ∧ GvI (w.heap.size + 2) yb n buyer r g c tr (.slice A' k cap') (.slice none 0 0) (bs.take k) [] wr ∧ Below (w.heap.size + 2) WA wr) (fun i _ => bs.length - (intOf i).toNat)
        case atStart => exact ⟨0, none, 0, Nat.zero_le _, rfl, HG0.out, HG1.out⟩
        case round =>
          obtain ⟨k, A', cap', hk, rfl, hgi, hb⟩ := hrel
          have y1 : wr.cell? ⟨yb, 1, none⟩ = some (.slice A' k cap') := hgi.y.cell 1
          have hyl : yb < wr.heap.size := hgi.y.lt
          have hx := HX.out.below hb (by omega)
          have xr1 : wr.cell? ⟨w.heap.size, 1, none⟩ = _ := hx.cell 1
          have HGI := Lib.hid hgi
          have HB2 := Lib.hid hb
          have hsz := hb.size
          by_cases hlt : k < bs.length
          · obtain ⟨l, ho⟩ : ∃ l, bs[k]? = some l := ⟨_, List.getElem?_eq_getElem hlt⟩
            obtain ⟨bq, off, u, hAe, hbq, hcu, hol⟩ := HBS.out.at_ ho
            obtain ⟨⟨_, A1, cap1, rfl, _⟩, _⟩ := id hol
            have hll := HSM.out l (List.mem_of_getElem? ho)
            have c0 : WA.cell? ⟨bq, off + k, none⟩ = some (.slice A1 l.length cap1) := (HBW.out.cell (p := ⟨bq, off + k, none⟩) hbq).trans hcu
            have cr0 : wr.cell? ⟨bq, off + k, none⟩ = some (.slice A1 l.length cap1) := (hb.cell (p := ⟨bq, off + k, none⟩) (by simp; omega)).trans c0
            have HOL := Lib.hid (hol.grow (HBW.out.trans (hb.mono (by omega))))
            subst hAe
            obtain ⟨vs', hs', ho'⟩ := hgi.ob
            have hlk : (bs.take k).length = k := by simp; omega
            rw [hlk] at hs'
            have HS := Lib.hid hs'
            have HO' := Lib.hid ho'
            have HLK := Lib.hid hlk
            have HO := Lib.hid ho
            have e1 : (0 : Int) ≤ (k : Int) := by omega
            have e2 : (k : Int) < (bs.length : Int) := by omega
            clear hgi hb ho hol hcu hs' ho' hlk hx
            go_wp2_with fail
            refine wp_region_F (fun W : World => Below (w.heap.size + 2) WA W ∧ W.cell? ⟨yb, 1, none⟩ = some (.slice A' k cap')) [14] (by kernel_rfl) (show Below (w.heap.size + 2) WA wr.drew ∧ wr.drew.cell? ⟨yb, 1, none⟩ = some (.slice A' k cap') from ⟨HB2.out.drew, y1⟩) (fun hS => ?_)
            obtain ⟨V0, hV⟩ : ∃ V, V = wr.drew := ⟨_, rfl⟩
            have HP0 : Below wr.heap.size wr V0 := by rw [hV]; exact (Below.refl _ _).drew
            rw [← hV] at hS ⊢
            replace HP0 := Lib.hid HP0
            clear hV
            refine wpAnyF_take (i := 0) (oi := { dst := some 26, op := Go.Op.fieldAddr 28 (Go.Operand.tmp 3) 0, type := 0, pos := "law.go:100", after := #[], guard := none }) (v := ?_) rfl (by kernel_rfl) (by kernel_rfl) (by kernel_rfl) (by kernel_rfl) (fun _ _ _ h => h) (Or.inl ⟨by rfl, ?_⟩) hS ?_
            rotate_left
            · intro w' hSw; have q1 := (hSw.1.cell (p := ⟨w.heap.size, 1, none⟩) (by simp <;> omega)).trans x1; have q2 := (hSw.1.cell (p := ⟨bq, off + k, none⟩) (by simp <;> omega)).trans c0; have q3 := hSw.2; go_simp; try with_reducible rfl
            try simp only [Act.put, List.setIfInBounds_toArray, List.set_cons_zero, List.set_cons_succ]
            refine wpAnyF_take (i := 1) (oi := { dst := some 27, op := Go.Op.fieldAddr 24 (Go.Operand.tmp 26) 1, type := 0, pos := "law.go:100", after := #[{ on := 0, ground := Go.Ground.data }], guard := none }) (v := ?_) rfl (by kernel_rfl) (by kernel_rfl) (by kernel_rfl) (by kernel_rfl) (fun _ _ _ h => h) (Or.inl ⟨by rfl, ?_⟩) hS ?_
            rotate_left
            · intro w' hSw; have q1 := (hSw.1.cell (p := ⟨w.heap.size, 1, none⟩) (by simp <;> omega)).trans x1; have q2 := (hSw.1.cell (p := ⟨bq, off + k, none⟩) (by simp <;> omega)).trans c0; have q3 := hSw.2; go_simp; try with_reducible rfl
            try simp only [Act.put, List.setIfInBounds_toArray, List.set_cons_zero, List.set_cons_succ]
            refine wpAnyF_take (i := 2) (oi := { dst := some 28, op := Go.Op.load 22 (Go.Operand.tmp 27), type := 22, pos := "law.go:100", after := #[{ on := 1, ground := Go.Ground.data }], guard := none }) (v := ?_) rfl (by kernel_rfl) (by kernel_rfl) (by kernel_rfl) (by kernel_rfl) (fun _ _ _ h => h) (Or.inl ⟨by rfl, ?_⟩) hS ?_
            rotate_left
            · intro w' hSw; have q1 := (hSw.1.cell (p := ⟨w.heap.size, 1, none⟩) (by simp <;> omega)).trans x1; have q2 := (hSw.1.cell (p := ⟨bq, off + k, none⟩) (by simp <;> omega)).trans c0; have q3 := hSw.2; go_simp; try with_reducible rfl
            try simp only [Act.put, List.setIfInBounds_toArray, List.set_cons_zero, List.set_cons_succ]
            refine wpAnyF_take (i := 3) (oi := { dst := some 29, op := Go.Op.fieldAddr 28 (Go.Operand.tmp 1) 0, type := 0, pos := "law.go:100", after := #[], guard := none }) (v := ?_) rfl (by kernel_rfl) (by kernel_rfl) (by kernel_rfl) (by kernel_rfl) (fun _ _ _ h => h) (Or.inl ⟨by rfl, ?_⟩) hS ?_
            rotate_left
            · intro w' hSw; have q1 := (hSw.1.cell (p := ⟨w.heap.size, 1, none⟩) (by simp <;> omega)).trans x1; have q2 := (hSw.1.cell (p := ⟨bq, off + k, none⟩) (by simp <;> omega)).trans c0; have q3 := hSw.2; go_simp; try with_reducible rfl
            try simp only [Act.put, List.setIfInBounds_toArray, List.set_cons_zero, List.set_cons_succ]
            refine wpAnyF_take (i := 4) (oi := { dst := some 30, op := Go.Op.fieldAddr 24 (Go.Operand.tmp 29) 1, type := 0, pos := "law.go:100", after := #[{ on := 3, ground := Go.Ground.data }], guard := none }) (v := ?_) rfl (by kernel_rfl) (by kernel_rfl) (by kernel_rfl) (by kernel_rfl) (fun _ _ _ h => h) (Or.inl ⟨by rfl, ?_⟩) hS ?_
            rotate_left
            · intro w' hSw; have q1 := (hSw.1.cell (p := ⟨w.heap.size, 1, none⟩) (by simp <;> omega)).trans x1; have q2 := (hSw.1.cell (p := ⟨bq, off + k, none⟩) (by simp <;> omega)).trans c0; have q3 := hSw.2; go_simp; try with_reducible rfl
            try simp only [Act.put, List.setIfInBounds_toArray, List.set_cons_zero, List.set_cons_succ]
            refine wpAnyF_take (i := 5) (oi := { dst := some 31, op := Go.Op.load 22 (Go.Operand.tmp 30), type := 22, pos := "law.go:100", after := #[{ on := 4, ground := Go.Ground.data }], guard := none }) (v := ?_) rfl (by kernel_rfl) (by kernel_rfl) (by kernel_rfl) (by kernel_rfl) (fun _ _ _ h => h) (Or.inl ⟨by rfl, ?_⟩) hS ?_
            rotate_left
            · intro w' hSw; have q1 := (hSw.1.cell (p := ⟨w.heap.size, 1, none⟩) (by simp <;> omega)).trans x1; have q2 := (hSw.1.cell (p := ⟨bq, off + k, none⟩) (by simp <;> omega)).trans c0; have q3 := hSw.2; go_simp; try with_reducible rfl
            try simp only [Act.put, List.setIfInBounds_toArray, List.set_cons_zero, List.set_cons_succ]
            refine wpAnyF_take (i := 6) (oi := { dst := some 32, op := Go.Op.move (Go.Operand.tmp 4), type := 3, pos := "law.go:100", after := #[], guard := none }) (v := ?_) rfl (by kernel_rfl) (by kernel_rfl) (by kernel_rfl) (by kernel_rfl) (fun _ _ _ h => h) (Or.inl ⟨by rfl, ?_⟩) hS ?_
            rotate_left
            · intro w' hSw; have q1 := (hSw.1.cell (p := ⟨w.heap.size, 1, none⟩) (by simp <;> omega)).trans x1; have q2 := (hSw.1.cell (p := ⟨bq, off + k, none⟩) (by simp <;> omega)).trans c0; have q3 := hSw.2; go_simp; try with_reducible rfl
            try simp only [Act.put, List.setIfInBounds_toArray, List.set_cons_zero, List.set_cons_succ]
            refine wpAnyF_take (i := 7) (oi := { dst := some 33, op := Go.Op.indexAddr 22 (Go.Operand.tmp 31) (Go.Operand.tmp 32), type := 0, pos := "law.go:100", after := #[{ on := 5, ground := Go.Ground.data }, { on := 6, ground := Go.Ground.data }], guard := none }) (v := ?_) rfl (by kernel_rfl) (by kernel_rfl) (by kernel_rfl) (by kernel_rfl) (fun _ _ _ h => h) (Or.inl ⟨by rfl, ?_⟩) hS ?_
            rotate_left
            · intro w' hSw; have q1 := (hSw.1.cell (p := ⟨w.heap.size, 1, none⟩) (by simp <;> omega)).trans x1; have q2 := (hSw.1.cell (p := ⟨bq, off + k, none⟩) (by simp <;> omega)).trans c0; have q3 := hSw.2; go_simp; try with_reducible rfl
            try simp only [Act.put, List.setIfInBounds_toArray, List.set_cons_zero, List.set_cons_succ]
            refine wpAnyF_take (i := 8) (oi := { dst := some 34, op := Go.Op.load 26 (Go.Operand.tmp 33), type := 26, pos := "law.go:100", after := #[{ on := 7, ground := Go.Ground.data }], guard := none }) (v := ?_) rfl (by kernel_rfl) (by kernel_rfl) (by kernel_rfl) (by kernel_rfl) (fun _ _ _ h => h) (Or.inl ⟨by rfl, ?_⟩) hS ?_
            rotate_left
            · intro w' hSw; have q1 := (hSw.1.cell (p := ⟨w.heap.size, 1, none⟩) (by simp <;> omega)).trans x1; have q2 := (hSw.1.cell (p := ⟨bq, off + k, none⟩) (by simp <;> omega)).trans c0; have q3 := hSw.2; go_simp; try with_reducible rfl
            try simp only [Act.put, List.setIfInBounds_toArray, List.set_cons_zero, List.set_cons_succ]
            refine wpAnyF_ready (rs := [9]) (by kernel_rfl) (by simp) ?_
            refine AllReadyF.cons (o := { dst := some 35, op := Go.Op.call { callee := Go.Callee.value (Go.Operand.func 18), args := #[Go.Operand.tmp 34], argTypes := #[26] }, type := 26, pos := "law.go:100", after := #[{ on := 8, ground := Go.Ground.data }], guard := none }) rfl (by rfl) (fun K hK => ?_) ?_
            · go_simp
              refine (offers29_any l _ R V0 (HOL.out.grow HP0.out) (by omega)).mono ?_
              rintro e V1 ⟨g2, cl, rfl, hm, hb5⟩
              refine hK.out _ _ ?_ (fun hS => ?_)
              · exact ⟨HB2.out.trans ((HP0.out.trans (hb5.mono HP0.out.size)).mono (by omega)), ((HP0.out.trans (hb5.mono HP0.out.size)).cell (p := ⟨yb, 1, none⟩) hyl).trans y1⟩
              clear hK K
              try simp only [Act.put, List.setIfInBounds_toArray, List.set_cons_zero, List.set_cons_succ]
              have hb6 := HP0.out.trans (hb5.mono HP0.out.size)
              obtain ⟨hml, hmc, _⟩ := hm.mark
              have hc31 : ((l.length : Nat) : Int) ≤ (cl : Int) := by omega
              have hc30 : (0 : Int) ≤ ((l.length : Nat) : Int) := by omega
              have HP1 := Lib.hid hb6
              have HM1 := Lib.hid (hm.mono (show w.heap.size + 2 ≤ V0.heap.size by have := HP0.out.size; omega))
              clear hb5 hb6 hm
              refine wpAnyF_ready (rs := [10]) (by kernel_rfl) (by simp) ?_
              refine AllReadyF.cons (o := { dst := some 36, op := Go.Op.buildSlice 22 1 #[(0, Go.Operand.tmp 35)], type := 22, pos := "law.go:100", after := #[{ on := 9, ground := Go.Ground.data }], guard := none }) rfl (by rfl) (fun K hK => ?_) ?_
              · go_simp
                refine hK.out _ _ ?_ (fun hS => ?_)
                · exact ⟨(HB2.out.trans (HP1.out.mono (by omega))).alloc (by have := HP1.out.size; omega) _, ((HP1.out.alloc HP1.out.size _).cell (p := ⟨yb, 1, none⟩) hyl).trans y1⟩
                clear hK K
                try simp only [Act.put, List.setIfInBounds_toArray, List.set_cons_zero, List.set_cons_succ]
                have hB := HP1.out.alloc HP1.out.size (.cells #[.slice (some ⟨g2, 0, none⟩) l.length cl] 26)
                have hM := HM1.out.grow ((Below.refl V1.heap.size V1).alloc (Nat.le_refl _) (.cells #[.slice (some ⟨g2, 0, none⟩) l.length cl] 26))
                have hN := Blk.new V1 26 #[.slice (some ⟨g2, 0, none⟩) l.length cl]
                obtain ⟨V2, hV⟩ : ∃ V, V = V1.alloc (.cells #[.slice (some ⟨g2, 0, none⟩) l.length cl] 26) := ⟨_, rfl⟩
                rw [← hV] at hB hM hN hS ⊢
                have HP2 := Lib.hid hB
                have HM4 := Lib.hid hM
                have HN := Lib.hid hN
                have HS4 := Lib.hid (own_grow HS.out hB)
                have HGI4 := Lib.hid (HGI.out.grow hB)
                clear hV hB hM hN
                refine wpAnyF_ready (rs := [11]) (by kernel_rfl) (by simp) ?_
                refine AllReadyF.cons (o := { dst := some 37, op := Go.Op.call { callee := Go.Callee.builtin Go.Builtin.append, args := #[Go.Operand.tmp 28, Go.Operand.tmp 36], argTypes := #[22, 22] }, type := 22, pos := "law.go:100", after := #[{ on := 2, ground := Go.Ground.data }, { on := 10, ground := Go.Ground.data }, { on := 9, ground := Go.Ground.chain }], guard := none }) rfl (by rfl) (fun K hK => ?_) ?_
                · refine step_app V2 rfl (.tmp 28) (.tmp 36) et_offs rfl (w.heap.size + 2) (.slice A' k cap') k vs' rfl HS4.out _ (.slice (some ⟨V1.heap.size, 0, none⟩) 1 1) 1 [.slice (some ⟨g2, 0, none⟩) l.length cl] rfl (Sl.blk (sz := 1) HN.out (Nat.le_refl 1) (by unfold maxLen; omega) rfl) (by simp [Value.oneCell']) (by omega) (by unfold maxLen; omega) (by have := HP2.out.size; omega) ?_
                  intro A4 c4 V3 hown hg hloc
                  refine hK.out _ _ ?_ (fun hS => ?_)
                  · exact ⟨(HB2.out.trans (HP2.out.mono (by omega))).grown hg (by have := HP2.out.size; omega) (fun g e => by have := (HS4.out.lt g e).1; omega), (HGI4.out.y.grown hg (fun e => own_ne_blk HS4.out HGI4.out.y (by decide) e.symm)).cell 1⟩
                  clear hK K
                  try simp only [Act.put, List.setIfInBounds_toArray, List.set_cons_zero, List.set_cons_succ]
                  have hyV := HGI4.out.y.grown hg (fun e => own_ne_blk HS4.out HGI4.out.y (by decide) e.symm)
                  have yc : V3.cell? ⟨yb, 1, none⟩ = some (.slice A' k cap') := hyV.cell 1
                  have yf : V3.frozen? ⟨yb, 1, none⟩ = false := hyV.frozen 1
                  have HGV := Lib.hid hg
                  have HOV := Lib.hid hown
                  have HLV := Lib.hid hloc
                  clear hyV hown hg hloc
                  refine wpAnyF_ready (rs := [12]) (by kernel_rfl) (by simp) ?_
                  refine AllReadyF.cons (o := { dst := some 38, op := Go.Op.fieldAddr 28 (Go.Operand.tmp 3) 0, type := 0, pos := "law.go:100", after := #[{ on := 0, ground := Go.Ground.phase }, { on := 1, ground := Go.Ground.phase }, { on := 2, ground := Go.Ground.phase }, { on := 3, ground := Go.Ground.phase }, { on := 4, ground := Go.Ground.phase }, { on := 5, ground := Go.Ground.phase }, { on := 6, ground := Go.Ground.phase }, { on := 7, ground := Go.Ground.phase }, { on := 8, ground := Go.Ground.phase }, { on := 9, ground := Go.Ground.phase }, { on := 10, ground := Go.Ground.phase }, { on := 11, ground := Go.Ground.phase }], guard := none }) rfl (by rfl) (fun K hK => ?_) ?_
                  · go_simp
                    refine hK.out _ _ ?_ (fun hS => ?_)
                    · exact hS
                    clear hK K
                    try simp only [Act.put, List.setIfInBounds_toArray, List.set_cons_zero, List.set_cons_succ]
                    refine wpAnyF_take (i := 13) (oi := { dst := some 39, op := Go.Op.fieldAddr 24 (Go.Operand.tmp 38) 1, type := 0, pos := "law.go:100", after := #[{ on := 12, ground := Go.Ground.data }, { on := 0, ground := Go.Ground.phase }, { on := 1, ground := Go.Ground.phase }, { on := 2, ground := Go.Ground.phase }, { on := 3, ground := Go.Ground.phase }, { on := 4, ground := Go.Ground.phase }, { on := 5, ground := Go.Ground.phase }, { on := 6, ground := Go.Ground.phase }, { on := 7, ground := Go.Ground.phase }, { on := 8, ground := Go.Ground.phase }, { on := 9, ground := Go.Ground.phase }, { on := 10, ground := Go.Ground.phase }, { on := 11, ground := Go.Ground.phase }], guard := none }) (v := ?_) rfl (by kernel_rfl) (by kernel_rfl) (by kernel_rfl) (by kernel_rfl) (fun _ _ _ h => h) (Or.inl ⟨by rfl, ?_⟩) hS ?_
                    rotate_left
                    · intro w' hSw; have q1 := (hSw.1.cell (p := ⟨w.heap.size, 1, none⟩) (by simp <;> omega)).trans x1; have q2 := (hSw.1.cell (p := ⟨bq, off + k, none⟩) (by simp <;> omega)).trans c0; have q3 := hSw.2; go_simp; try with_reducible rfl
                    try simp only [Act.put, List.setIfInBounds_toArray, List.set_cons_zero, List.set_cons_succ]
                    refine wpAnyF_ready (rs := [14]) (by kernel_rfl) (by simp) ?_
                    refine AllReadyF.fin (o := { dst := none, op := Go.Op.store 22 (Go.Operand.tmp 39) (Go.Operand.tmp 37), type := 0, pos := "law.go:100", after := #[{ on := 13, ground := Go.Ground.data }, { on := 11, ground := Go.Ground.data }, { on := 11, ground := Go.Ground.chain }, { on := 0, ground := Go.Ground.phase }, { on := 1, ground := Go.Ground.phase }, { on := 2, ground := Go.Ground.phase }, { on := 3, ground := Go.Ground.phase }, { on := 4, ground := Go.Ground.phase }, { on := 5, ground := Go.Ground.phase }, { on := 6, ground := Go.Ground.phase }, { on := 7, ground := Go.Ground.phase }, { on := 8, ground := Go.Ground.phase }, { on := 9, ground := Go.Ground.phase }, { on := 10, ground := Go.Ground.phase }, { on := 11, ground := Go.Ground.phase }], guard := none }) rfl (by rfl) (fun K hK => ?_) ?_
                    · go_simp
                      refine hK.out _ _ ?_
                      clear hK K
                      try simp only [Act.put, List.setIfInBounds_toArray, List.set_cons_zero, List.set_cons_succ]
                      refine wpAnyF_done (by kernel_rfl) ?_ _
                      go_wp2_with fail
                      go_roundw
                      case rel =>
                        have hsn := GvI.addB HGI4.out HLK.out HS4.out (fun j l' hj => let ⟨b, c, h1, h2⟩ := HO'.out j l' hj; ⟨b, c, h1, h2.grow HP2.out⟩) (HM4.out.mono (by omega)) HOV.out HGV.out
                        have htk : bs.take (k + 1) = bs.take k ++ [l] := by rw [List.take_add_one, HO.out]; rfl
                        refine ⟨k + 1, A4, c4, by omega, by go_num, ?_, ?_⟩
                        · rw [htk]
                          exact hsn
                        · exact ((HB2.out.trans (HP2.out.mono (by omega))).grown HGV.out (by have := HP2.out.size; omega) (fun g e => by have := (HS4.out.lt g e).1; omega)).setCell (p := ⟨yb, 1, none⟩) (by simp; omega) _
                      case measure => simp [intOf]; omega
                    exact AllReadyF.nil
                  exact AllReadyF.nil
                exact AllReadyF.nil
              exact AllReadyF.nil
            exact AllReadyF.nil
          · obtain rfl : k = bs.length := by omega
            rw [List.take_length] at hgi HGI
            have HG0 := Lib.hid hgi
            have HG1 := Lib.hid hb
            clear hgi hb hx HGI HB2
            go_wp2_with fail
            obtain ⟨Ab, hAb⟩ : ∃ z, z = A' := ⟨_, rfl⟩
            obtain ⟨cb2, hcb2⟩ : ∃ z, z = cap' := ⟨_, rfl⟩
            rw [← hAb, ← hcb2] at HG0
            obtain ⟨wq, hwq⟩ : ∃ z, z = wr := ⟨_, rfl⟩
            rw [← hwq] at HG0 HG1 ⊢
            clear hAb hcb2 hk y1 hyl xr1 hsz
            go_loopw [5] (fun i wr => ∃ (k : Nat) (A' : Option Addr) (cap' : Nat), k ≤ ts.length ∧ i = .int .i64 k ∧ GvI (w.heap.size + 2) yb n buyer r g c tr (.slice Ab bs.length cb2) (.slice A' k cap') bs (ts.take k) wr ∧ Below (w.heap.size + 2) WA wr) (fun i _ => ts.length - (intOf i).toNat)
            case atStart => exact ⟨0, none, 0, Nat.zero_le _, rfl, HG0.out, HG1.out⟩
            case round =>
              obtain ⟨k, A', cap', hk, rfl, hgi, hb⟩ := hrel
              have y5 : wr.cell? ⟨yb, 5, none⟩ = some (.slice A' k cap') := hgi.y.cell 5
              have hyl : yb < wr.heap.size := hgi.y.lt
              have hx := HX.out.below hb (by omega)
              have xr5 : wr.cell? ⟨w.heap.size, 5, none⟩ = _ := hx.cell 5
              have HGI := Lib.hid hgi
              have HB2 := Lib.hid hb
              have hsz := hb.size
              by_cases hlt : k < ts.length
              · obtain ⟨l, ho⟩ : ∃ l, ts[k]? = some l := ⟨_, List.getElem?_eq_getElem hlt⟩
                obtain ⟨bq, off, u, hAe, hbq, hcu, hol⟩ := HTS.out.at_ ho
                obtain ⟨⟨_, A1, cap1, rfl, _⟩, _⟩ := id hol
                have hll := HSMs.out l (List.mem_of_getElem? ho)
                have c0 : WA.cell? ⟨bq, off + k, none⟩ = some (.slice A1 l.length cap1) := (HBW.out.cell (p := ⟨bq, off + k, none⟩) hbq).trans hcu
                have cr0 : wr.cell? ⟨bq, off + k, none⟩ = some (.slice A1 l.length cap1) := (hb.cell (p := ⟨bq, off + k, none⟩) (by simp; omega)).trans c0
                have HOL := Lib.hid (hol.grow (HBW.out.trans (hb.mono (by omega))))
                subst hAe
                obtain ⟨vs', hs', ho'⟩ := hgi.ot
                have hlk : (ts.take k).length = k := by simp; omega
                rw [hlk] at hs'
                have HS := Lib.hid hs'
                have HO' := Lib.hid ho'
                have HLK := Lib.hid hlk
                have HO := Lib.hid ho
                have e1 : (0 : Int) ≤ (k : Int) := by omega
                have e2 : (k : Int) < (ts.length : Int) := by omega
                clear hgi hb ho hol hcu hs' ho' hlk hx
                go_wp2_with fail
                refine wp_region_F (fun W : World => Below (w.heap.size + 2) WA W ∧ W.cell? ⟨yb, 5, none⟩ = some (.slice A' k cap')) [11] (by kernel_rfl) (show Below (w.heap.size + 2) WA wr.drew ∧ wr.drew.cell? ⟨yb, 5, none⟩ = some (.slice A' k cap') from ⟨HB2.out.drew, y5⟩) (fun hS => ?_)
                obtain ⟨V0, hV⟩ : ∃ V, V = wr.drew := ⟨_, rfl⟩
                have HP0 : Below wr.heap.size wr V0 := by rw [hV]; exact (Below.refl _ _).drew
                rw [← hV] at hS ⊢
                replace HP0 := Lib.hid HP0
                clear hV
                refine wpAnyF_take (i := 0) (oi := { dst := some 47, op := Go.Op.fieldAddr 28 (Go.Operand.tmp 3) 4, type := 0, pos := "law.go:103", after := #[], guard := none }) (v := ?_) rfl (by kernel_rfl) (by kernel_rfl) (by kernel_rfl) (by kernel_rfl) (fun _ _ _ h => h) (Or.inl ⟨by rfl, ?_⟩) hS ?_
                rotate_left
                · intro w' hSw; have q1 := (hSw.1.cell (p := ⟨w.heap.size, 5, none⟩) (by simp <;> omega)).trans x5; have q2 := (hSw.1.cell (p := ⟨bq, off + k, none⟩) (by simp <;> omega)).trans c0; have q3 := hSw.2; go_simp; try with_reducible rfl
                try simp only [Act.put, List.setIfInBounds_toArray, List.set_cons_zero, List.set_cons_succ]
                refine wpAnyF_take (i := 1) (oi := { dst := some 48, op := Go.Op.load 22 (Go.Operand.tmp 47), type := 22, pos := "law.go:103", after := #[{ on := 0, ground := Go.Ground.data }], guard := none }) (v := ?_) rfl (by kernel_rfl) (by kernel_rfl) (by kernel_rfl) (by kernel_rfl) (fun _ _ _ h => h) (Or.inl ⟨by rfl, ?_⟩) hS ?_
                rotate_left
                · intro w' hSw; have q1 := (hSw.1.cell (p := ⟨w.heap.size, 5, none⟩) (by simp <;> omega)).trans x5; have q2 := (hSw.1.cell (p := ⟨bq, off + k, none⟩) (by simp <;> omega)).trans c0; have q3 := hSw.2; go_simp; try with_reducible rfl
                try simp only [Act.put, List.setIfInBounds_toArray, List.set_cons_zero, List.set_cons_succ]
                refine wpAnyF_take (i := 2) (oi := { dst := some 49, op := Go.Op.fieldAddr 28 (Go.Operand.tmp 1) 4, type := 0, pos := "law.go:103", after := #[], guard := none }) (v := ?_) rfl (by kernel_rfl) (by kernel_rfl) (by kernel_rfl) (by kernel_rfl) (fun _ _ _ h => h) (Or.inl ⟨by rfl, ?_⟩) hS ?_
                rotate_left
                · intro w' hSw; have q1 := (hSw.1.cell (p := ⟨w.heap.size, 5, none⟩) (by simp <;> omega)).trans x5; have q2 := (hSw.1.cell (p := ⟨bq, off + k, none⟩) (by simp <;> omega)).trans c0; have q3 := hSw.2; go_simp; try with_reducible rfl
                try simp only [Act.put, List.setIfInBounds_toArray, List.set_cons_zero, List.set_cons_succ]
                refine wpAnyF_take (i := 3) (oi := { dst := some 50, op := Go.Op.load 22 (Go.Operand.tmp 49), type := 22, pos := "law.go:103", after := #[{ on := 2, ground := Go.Ground.data }], guard := none }) (v := ?_) rfl (by kernel_rfl) (by kernel_rfl) (by kernel_rfl) (by kernel_rfl) (fun _ _ _ h => h) (Or.inl ⟨by rfl, ?_⟩) hS ?_
                rotate_left
                · intro w' hSw; have q1 := (hSw.1.cell (p := ⟨w.heap.size, 5, none⟩) (by simp <;> omega)).trans x5; have q2 := (hSw.1.cell (p := ⟨bq, off + k, none⟩) (by simp <;> omega)).trans c0; have q3 := hSw.2; go_simp; try with_reducible rfl
                try simp only [Act.put, List.setIfInBounds_toArray, List.set_cons_zero, List.set_cons_succ]
                refine wpAnyF_take (i := 4) (oi := { dst := some 51, op := Go.Op.move (Go.Operand.tmp 5), type := 3, pos := "law.go:103", after := #[], guard := none }) (v := ?_) rfl (by kernel_rfl) (by kernel_rfl) (by kernel_rfl) (by kernel_rfl) (fun _ _ _ h => h) (Or.inl ⟨by rfl, ?_⟩) hS ?_
                rotate_left
                · intro w' hSw; have q1 := (hSw.1.cell (p := ⟨w.heap.size, 5, none⟩) (by simp <;> omega)).trans x5; have q2 := (hSw.1.cell (p := ⟨bq, off + k, none⟩) (by simp <;> omega)).trans c0; have q3 := hSw.2; go_simp; try with_reducible rfl
                try simp only [Act.put, List.setIfInBounds_toArray, List.set_cons_zero, List.set_cons_succ]
                refine wpAnyF_take (i := 5) (oi := { dst := some 52, op := Go.Op.indexAddr 22 (Go.Operand.tmp 50) (Go.Operand.tmp 51), type := 0, pos := "law.go:103", after := #[{ on := 3, ground := Go.Ground.data }, { on := 4, ground := Go.Ground.data }], guard := none }) (v := ?_) rfl (by kernel_rfl) (by kernel_rfl) (by kernel_rfl) (by kernel_rfl) (fun _ _ _ h => h) (Or.inl ⟨by rfl, ?_⟩) hS ?_
                rotate_left
                · intro w' hSw; have q1 := (hSw.1.cell (p := ⟨w.heap.size, 5, none⟩) (by simp <;> omega)).trans x5; have q2 := (hSw.1.cell (p := ⟨bq, off + k, none⟩) (by simp <;> omega)).trans c0; have q3 := hSw.2; go_simp; try with_reducible rfl
                try simp only [Act.put, List.setIfInBounds_toArray, List.set_cons_zero, List.set_cons_succ]
                refine wpAnyF_take (i := 6) (oi := { dst := some 53, op := Go.Op.load 26 (Go.Operand.tmp 52), type := 26, pos := "law.go:103", after := #[{ on := 5, ground := Go.Ground.data }], guard := none }) (v := ?_) rfl (by kernel_rfl) (by kernel_rfl) (by kernel_rfl) (by kernel_rfl) (fun _ _ _ h => h) (Or.inl ⟨by rfl, ?_⟩) hS ?_
                rotate_left
                · intro w' hSw; have q1 := (hSw.1.cell (p := ⟨w.heap.size, 5, none⟩) (by simp <;> omega)).trans x5; have q2 := (hSw.1.cell (p := ⟨bq, off + k, none⟩) (by simp <;> omega)).trans c0; have q3 := hSw.2; go_simp; try with_reducible rfl
                try simp only [Act.put, List.setIfInBounds_toArray, List.set_cons_zero, List.set_cons_succ]
                refine wpAnyF_ready (rs := [7]) (by kernel_rfl) (by simp) ?_
                refine AllReadyF.cons (o := { dst := some 54, op := Go.Op.call { callee := Go.Callee.value (Go.Operand.func 18), args := #[Go.Operand.tmp 53], argTypes := #[26] }, type := 26, pos := "law.go:103", after := #[{ on := 6, ground := Go.Ground.data }], guard := none }) rfl (by rfl) (fun K hK => ?_) ?_
                · go_simp
                  refine (offers29_any l _ Rs V0 (HOL.out.grow HP0.out) (by omega)).mono ?_
                  rintro e V1 ⟨g2, cl, rfl, hm, hb5⟩
                  refine hK.out _ _ ?_ (fun hS => ?_)
                  · exact ⟨HB2.out.trans ((HP0.out.trans (hb5.mono HP0.out.size)).mono (by omega)), ((HP0.out.trans (hb5.mono HP0.out.size)).cell (p := ⟨yb, 5, none⟩) hyl).trans y5⟩
                  clear hK K
                  try simp only [Act.put, List.setIfInBounds_toArray, List.set_cons_zero, List.set_cons_succ]
                  have hb6 := HP0.out.trans (hb5.mono HP0.out.size)
                  obtain ⟨hml, hmc, _⟩ := hm.mark
                  have hc31 : ((l.length : Nat) : Int) ≤ (cl : Int) := by omega
                  have hc30 : (0 : Int) ≤ ((l.length : Nat) : Int) := by omega
                  have HP1 := Lib.hid hb6
                  have HM1 := Lib.hid (hm.mono (show w.heap.size + 2 ≤ V0.heap.size by have := HP0.out.size; omega))
                  clear hb5 hb6 hm
                  refine wpAnyF_ready (rs := [8]) (by kernel_rfl) (by simp) ?_
                  refine AllReadyF.cons (o := { dst := some 55, op := Go.Op.buildSlice 22 1 #[(0, Go.Operand.tmp 54)], type := 22, pos := "law.go:103", after := #[{ on := 7, ground := Go.Ground.data }], guard := none }) rfl (by rfl) (fun K hK => ?_) ?_
                  · go_simp
                    refine hK.out _ _ ?_ (fun hS => ?_)
                    · exact ⟨(HB2.out.trans (HP1.out.mono (by omega))).alloc (by have := HP1.out.size; omega) _, ((HP1.out.alloc HP1.out.size _).cell (p := ⟨yb, 5, none⟩) hyl).trans y5⟩
                    clear hK K
                    try simp only [Act.put, List.setIfInBounds_toArray, List.set_cons_zero, List.set_cons_succ]
                    have hB := HP1.out.alloc HP1.out.size (.cells #[.slice (some ⟨g2, 0, none⟩) l.length cl] 26)
                    have hM := HM1.out.grow ((Below.refl V1.heap.size V1).alloc (Nat.le_refl _) (.cells #[.slice (some ⟨g2, 0, none⟩) l.length cl] 26))
                    have hN := Blk.new V1 26 #[.slice (some ⟨g2, 0, none⟩) l.length cl]
                    obtain ⟨V2, hV⟩ : ∃ V, V = V1.alloc (.cells #[.slice (some ⟨g2, 0, none⟩) l.length cl] 26) := ⟨_, rfl⟩
                    rw [← hV] at hB hM hN hS ⊢
                    have HP2 := Lib.hid hB
                    have HM4 := Lib.hid hM
                    have HN := Lib.hid hN
                    have HS4 := Lib.hid (own_grow HS.out hB)
                    have HGI4 := Lib.hid (HGI.out.grow hB)
                    clear hV hB hM hN
                    refine wpAnyF_ready (rs := [9]) (by kernel_rfl) (by simp) ?_
                    refine AllReadyF.cons (o := { dst := some 56, op := Go.Op.call { callee := Go.Callee.builtin Go.Builtin.append, args := #[Go.Operand.tmp 48, Go.Operand.tmp 55], argTypes := #[22, 22] }, type := 22, pos := "law.go:103", after := #[{ on := 1, ground := Go.Ground.data }, { on := 8, ground := Go.Ground.data }, { on := 7, ground := Go.Ground.chain }], guard := none }) rfl (by rfl) (fun K hK => ?_) ?_
                    · refine step_app V2 rfl (.tmp 48) (.tmp 55) et_offs rfl (w.heap.size + 2) (.slice A' k cap') k vs' rfl HS4.out _ (.slice (some ⟨V1.heap.size, 0, none⟩) 1 1) 1 [.slice (some ⟨g2, 0, none⟩) l.length cl] rfl (Sl.blk (sz := 1) HN.out (Nat.le_refl 1) (by unfold maxLen; omega) rfl) (by simp [Value.oneCell']) (by omega) (by unfold maxLen; omega) (by have := HP2.out.size; omega) ?_
                      intro A4 c4 V3 hown hg hloc
                      refine hK.out _ _ ?_ (fun hS => ?_)
                      · exact ⟨(HB2.out.trans (HP2.out.mono (by omega))).grown hg (by have := HP2.out.size; omega) (fun g e => by have := (HS4.out.lt g e).1; omega), (HGI4.out.y.grown hg (fun e => own_ne_blk HS4.out HGI4.out.y (by decide) e.symm)).cell 5⟩
                      clear hK K
                      try simp only [Act.put, List.setIfInBounds_toArray, List.set_cons_zero, List.set_cons_succ]
                      have hyV := HGI4.out.y.grown hg (fun e => own_ne_blk HS4.out HGI4.out.y (by decide) e.symm)
                      have yc : V3.cell? ⟨yb, 5, none⟩ = some (.slice A' k cap') := hyV.cell 5
                      have yf : V3.frozen? ⟨yb, 5, none⟩ = false := hyV.frozen 5
                      have HGV := Lib.hid hg
                      have HOV := Lib.hid hown
                      have HLV := Lib.hid hloc
                      clear hyV hown hg hloc
                      refine wpAnyF_take (i := 10) (oi := { dst := some 57, op := Go.Op.fieldAddr 28 (Go.Operand.tmp 3) 4, type := 0, pos := "law.go:103", after := #[{ on := 0, ground := Go.Ground.phase }, { on := 1, ground := Go.Ground.phase }, { on := 2, ground := Go.Ground.phase }, { on := 3, ground := Go.Ground.phase }, { on := 4, ground := Go.Ground.phase }, { on := 5, ground := Go.Ground.phase }, { on := 6, ground := Go.Ground.phase }, { on := 7, ground := Go.Ground.phase }, { on := 8, ground := Go.Ground.phase }, { on := 9, ground := Go.Ground.phase }], guard := none }) (v := ?_) rfl (by kernel_rfl) (by kernel_rfl) (by kernel_rfl) (by kernel_rfl) (fun _ _ _ h => h) (Or.inl ⟨by rfl, ?_⟩) hS ?_
                      rotate_left
                      · intro w' hSw; have q1 := (hSw.1.cell (p := ⟨w.heap.size, 5, none⟩) (by simp <;> omega)).trans x5; have q2 := (hSw.1.cell (p := ⟨bq, off + k, none⟩) (by simp <;> omega)).trans c0; have q3 := hSw.2; go_simp; try with_reducible rfl
                      try simp only [Act.put, List.setIfInBounds_toArray, List.set_cons_zero, List.set_cons_succ]
                      refine wpAnyF_ready (rs := [11]) (by kernel_rfl) (by simp) ?_
                      refine AllReadyF.fin (o := { dst := none, op := Go.Op.store 22 (Go.Operand.tmp 57) (Go.Operand.tmp 56), type := 0, pos := "law.go:103", after := #[{ on := 10, ground := Go.Ground.data }, { on := 9, ground := Go.Ground.data }, { on := 9, ground := Go.Ground.chain }, { on := 0, ground := Go.Ground.phase }, { on := 1, ground := Go.Ground.phase }, { on := 2, ground := Go.Ground.phase }, { on := 3, ground := Go.Ground.phase }, { on := 4, ground := Go.Ground.phase }, { on := 5, ground := Go.Ground.phase }, { on := 6, ground := Go.Ground.phase }, { on := 7, ground := Go.Ground.phase }, { on := 8, ground := Go.Ground.phase }, { on := 9, ground := Go.Ground.phase }], guard := none }) rfl (by rfl) (fun K hK => ?_) ?_
                      · go_simp
                        refine hK.out _ _ ?_
                        clear hK K
                        try simp only [Act.put, List.setIfInBounds_toArray, List.set_cons_zero, List.set_cons_succ]
                        refine wpAnyF_done (by kernel_rfl) ?_ _
                        go_wp2_with fail
                        go_roundw
                        case rel =>
                          have hsn := GvI.addT HGI4.out HLK.out HS4.out (fun j l' hj => let ⟨b, c, h1, h2⟩ := HO'.out j l' hj; ⟨b, c, h1, h2.grow HP2.out⟩) (HM4.out.mono (by omega)) HOV.out HGV.out HLV.out
                          have htk : ts.take (k + 1) = ts.take k ++ [l] := by rw [List.take_add_one, HO.out]; rfl
                          refine ⟨k + 1, A4, c4, by omega, by go_num, ?_, ?_⟩
                          · rw [htk]
                            exact hsn
                          · exact ((HB2.out.trans (HP2.out.mono (by omega))).grown HGV.out (by have := HP2.out.size; omega) (fun g e => by have := (HS4.out.lt g e).1; omega)).setCell (p := ⟨yb, 5, none⟩) (by simp; omega) _
                        case measure => simp [intOf]; omega
                      exact AllReadyF.nil
                    exact AllReadyF.nil
                  exact AllReadyF.nil
                exact AllReadyF.nil
              · obtain rfl : k = ts.length := by omega
                rw [List.take_length] at hgi HGI
                have hy := hgi.y
                have hr := HR.out.below hb (by omega)
                have y0 : wr.cell? ⟨yb, 0, none⟩ = some (.int .i64 n) := hy.cell 0
                have y1 : wr.cell? ⟨yb, 1, none⟩ = some (.slice Ab bs.length cb2) := hy.cell 1
                have y2 : wr.cell? ⟨yb, 2, none⟩ = some (.int .i64 buyer) := hy.cell 2
                have y3 : wr.cell? ⟨yb, 3, none⟩ = some (.int .i64 r) := hy.cell 3
                have y4 : wr.cell? ⟨yb, 4, none⟩ = some (.slice (some ⟨g, 0, none⟩) tr.length c) := hy.cell 4
                have r0 : wr.cell? ⟨w.heap.size + 1, 0, none⟩ = some (.int .i64 0) := hr.cell 0
                have r1 : wr.cell? ⟨w.heap.size + 1, 1, none⟩ = some (.slice none 0 0) := hr.cell 1
                have r2 : wr.cell? ⟨w.heap.size + 1, 2, none⟩ = some (.int .i64 0) := hr.cell 2
                have r3 : wr.cell? ⟨w.heap.size + 1, 3, none⟩ = some (.int .i64 0) := hr.cell 3
                have r4 : wr.cell? ⟨w.heap.size + 1, 4, none⟩ = some (.slice none 0 0) := hr.cell 4
                have r5 : wr.cell? ⟨w.heap.size + 1, 5, none⟩ = some (.slice none 0 0) := hr.cell 5
                have rf := hr.frozen
                have hfin := put6_blk hr (.int .i64 n) (.slice Ab bs.length cb2) (.int .i64 buyer) (.int .i64 r) (.slice (some ⟨g, 0, none⟩) tr.length c) (.slice A' ts.length cap')
                have q0 := hfin.cell 0
                have q1 := hfin.cell 1
                have q2 := hfin.cell 2
                have q3 := hfin.cell 3
                have q4 := hfin.cell 4
                have q5 := hfin.cell 5
                unfold put6 at q0 q1 q2 q3 q4 q5
                simp at q0 q1 q2 q3 q4 q5
                clear hgi hy hr hb hx hfin
                go_wp2_with fail
                refine bodyPost_ret (v := .agg #[.int .i64 n, .slice Ab bs.length cb2, .int .i64 buyer, .int .i64 r, .slice (some ⟨g, 0, none⟩) tr.length c, .slice A' ts.length cap']) (by simp [results, Tryz.results6, go_sem, q0, q1, q2, q3, q4, q5]) rfl ⟨g, c, Ab, cb2, A', cap', rfl, ?_, ?_, ?_, ?_⟩
                · exact (HGI.out.tt.put6 (show g ≠ w.heap.size + 1 by have := HGI.out.tt.mark.2.2.2.2.1; omega) _ _ _ _ _ _).mono (by omega)
                · exact (HGI.out.ob.low6 (show w.heap.size + 1 < w.heap.size + 2 by omega) _ _ _ _ _ _).mono (by omega)
                · exact (HGI.out.ot.low6 (show w.heap.size + 1 < w.heap.size + 2 by omega) _ _ _ _ _ _).mono (by omega)
                · exact put6_below (HBW.out.trans (HB2.out.mono (by omega))) (by omega) _ _ _ _ _ _
      exact AllReadyF.nil
    exact AllReadyF.nil
  refine AllReadyF.cons (o := { dst := some 3, op := Go.Op.alloc 28, type := 0, pos := "law.go:98", after := #[], guard := none }) rfl (by rfl) (fun K hK => ?_) ?_
  · go_simp
    refine hK.out _ _ ?_ (fun hS => ?_)
    · exact HPA.out.alloc (by have := HPA.out.size; omega) _
    clear hK K
    try simp only [Act.put, List.setIfInBounds_toArray, List.set_cons_zero, List.set_cons_succ]
    obtain ⟨yb, hyb⟩ : ∃ z, z = V0.heap.size := ⟨_, rfl⟩
    have hyb2 : w.heap.size + 2 ≤ yb := by have := HPA.out.size; omega
    have hB := HPA.out.alloc (by have := HPA.out.size; omega) (.cells #[.int .i64 0, .slice none 0 0, .int .i64 0, .int .i64 0, .slice none 0 0, .slice none 0 0] 28)
    have hY := Blk.new V0 28 #[.int .i64 0, .slice none 0 0, .int .i64 0, .int .i64 0, .slice none 0 0, .slice none 0 0]
    obtain ⟨V1, hV⟩ : ∃ V, V = V0.alloc (.cells #[.int .i64 0, .slice none 0 0, .int .i64 0, .int .i64 0, .slice none 0 0, .slice none 0 0] 28) := ⟨_, rfl⟩
    rw [← hV] at hB hY hS ⊢
    rw [← hyb] at hY ⊢
    have HY1 := Lib.hid hY
    replace HPA := Lib.hid hB
    clear hV hB hY hyb
    refine wpAnyF_ready (rs := [10]) (by kernel_rfl) (by simp) ?_
    refine AllReadyF.cons (o := { dst := some 16, op := Go.Op.call { callee := Go.Callee.value (Go.Operand.func 18), args := #[Go.Operand.tmp 15], argTypes := #[26] }, type := 26, pos := "law.go:98", after := #[{ on := 9, ground := Go.Ground.data }], guard := none }) rfl (by rfl) (fun K hK => ?_) ?_
    · go_simp
      refine (offers29_any tr _ Rt V1 (HT.out.grow (HBW.out.trans (HPA.out.mono (by omega)))) (by omega)).mono ?_
      rintro e V2 ⟨g, c, rfl, hm, hb5⟩
      refine hK.out _ _ ?_ (fun hS => ?_)
      · exact HPA.out.trans (hb5.mono (by have := HPA.out.size; omega))
      clear hK K
      try simp only [Act.put, List.setIfInBounds_toArray, List.set_cons_zero, List.set_cons_succ]
      have hb6 := HPA.out.trans (hb5.mono (show w.heap.size + 2 ≤ V1.heap.size by have := HPA.out.size; omega))
      obtain ⟨hml, hmc, _, _, hgl, _⟩ := hm.mark
      have hc41 : ((tr.length : Nat) : Int) ≤ (c : Int) := by omega
      have hc40 : (0 : Int) ≤ ((tr.length : Nat) : Int) := by omega
      have HM1 := Lib.hid (hm.mono (show w.heap.size + 2 ≤ V1.heap.size by have := HPA.out.size; omega))
      have HY2 := Lib.hid (HY1.out.grow hb5)
      have HM2 := HM1
      have HW2 := Lib.hid hb6
      replace HPA := Lib.hid hb6
      clear hb5 hb6 hm
      have z0 : V2.cell? ⟨yb, 0, none⟩ = some (.int .i64 0) := HY2.out.cell 0
      have z1 : V2.cell? ⟨yb, 1, none⟩ = some (.slice none 0 0) := HY2.out.cell 1
      have z2 : V2.cell? ⟨yb, 2, none⟩ = some (.int .i64 0) := HY2.out.cell 2
      have z3 : V2.cell? ⟨yb, 3, none⟩ = some (.int .i64 0) := HY2.out.cell 3
      have z4 : V2.cell? ⟨yb, 4, none⟩ = some (.slice none 0 0) := HY2.out.cell 4
      have z5 : V2.cell? ⟨yb, 5, none⟩ = some (.slice none 0 0) := HY2.out.cell 5
      have zf := HY2.out.frozen
      refine wpAnyF_take (i := 11) (oi := { dst := some 17, op := Go.Op.build 28 #[(0, Go.Operand.tmp 9), (1, Go.Operand.tmp 11), (2, Go.Operand.tmp 13), (3, Go.Operand.tmp 16)], type := 28, pos := "law.go:98", after := #[{ on := 3, ground := Go.Ground.data }, { on := 5, ground := Go.Ground.data }, { on := 7, ground := Go.Ground.data }, { on := 10, ground := Go.Ground.data }], guard := none }) (v := ?_) rfl (by kernel_rfl) (by kernel_rfl) (by kernel_rfl) (by kernel_rfl) (fun _ _ _ h => h) (Or.inl ⟨by rfl, ?_⟩) hS ?_
      rotate_left
      · intro w' hSw; have q0 := (hSw.cell (p := ⟨w.heap.size, 0, none⟩) (by simp <;> omega)).trans x0; have q2 := (hSw.cell (p := ⟨w.heap.size, 2, none⟩) (by simp <;> omega)).trans x2; have q3 := (hSw.cell (p := ⟨w.heap.size, 3, none⟩) (by simp <;> omega)).trans x3; have q4 := (hSw.cell (p := ⟨w.heap.size, 4, none⟩) (by simp <;> omega)).trans x4; go_simp; try with_reducible rfl
      try simp only [Act.put, List.setIfInBounds_toArray, List.set_cons_zero, List.set_cons_succ]
      refine wpAnyF_ready (rs := [13]) (by kernel_rfl) (by simp) ?_
      refine AllReadyF.fin (o := { dst := none, op := Go.Op.store 28 (Go.Operand.tmp 3) (Go.Operand.tmp 17), type := 0, pos := "law.go:98", after := #[{ on := 12, ground := Go.Ground.data }, { on := 11, ground := Go.Ground.data }, { on := 10, ground := Go.Ground.chain }, { on := 0, ground := Go.Ground.phase }, { on := 1, ground := Go.Ground.phase }, { on := 2, ground := Go.Ground.phase }, { on := 3, ground := Go.Ground.phase }, { on := 4, ground := Go.Ground.phase }, { on := 5, ground := Go.Ground.phase }, { on := 6, ground := Go.Ground.phase }, { on := 7, ground := Go.Ground.phase }, { on := 8, ground := Go.Ground.phase }, { on := 9, ground := Go.Ground.phase }, { on := 10, ground := Go.Ground.phase }, { on := 11, ground := Go.Ground.phase }, { on := 12, ground := Go.Ground.phase }], guard := none }) rfl (by rfl) (fun K hK => ?_) ?_
      · go_simp
        refine hK.out _ _ ?_
        clear hK K
        try simp only [Act.put, List.setIfInBounds_toArray, List.set_cons_zero, List.set_cons_succ]
        refine wpAnyF_done (by kernel_rfl) ?_ _
        clear hS HS0
        have HG0 := Lib.hid (GvI.start (n := n) (buyer := buyer) (r := r) HY2.out HM2.out)
        have HG1 := Lib.hid (put6_below HW2.out (show w.heap.size + 2 ≤ yb by omega) (.int .i64 n) (.slice none 0 0) (.int .i64 buyer) (.int .i64 r) (.slice (some ⟨g, 0, none⟩) tr.length c) (.slice none 0 0))
        obtain ⟨W3, hW3⟩ : ∃ V, V = put6 V2 yb (.int .i64 n) (.slice none 0 0) (.int .i64 buyer) (.int .i64 r) (.slice (some ⟨g, 0, none⟩) tr.length c) (.slice none 0 0) := ⟨_, rfl⟩
        rw [← hW3] at HG0 HG1
        unfold put6 at hW3
        rw [← hW3]
        clear hW3 HY2 HM2 HW2 HPA
        go_wp2_with fail
        go_loopw [4] (fun i wr => ∃ (k : Nat) (A' : Option Addr) (cap' : Nat), k ≤ bs.length ∧ i = .int .i64 k ∧ GvI (w.heap.size + 2) yb n buyer r g c tr (.slice A' k cap') (.slice none 0 0) (bs.take k) [] wr ∧ Below (w.heap.size + 2) WA wr) (fun i _ => bs.length - (intOf i).toNat)
        case atStart => exact ⟨0, none, 0, Nat.zero_le _, rfl, HG0.out, HG1.out⟩
        case round =>
          obtain ⟨k, A', cap', hk, rfl, hgi, hb⟩ := hrel
          have y1 : wr.cell? ⟨yb, 1, none⟩ = some (.slice A' k cap') := hgi.y.cell 1
          have hyl : yb < wr.heap.size := hgi.y.lt
          have hx := HX.out.below hb (by omega)
          have xr1 : wr.cell? ⟨w.heap.size, 1, none⟩ = _ := hx.cell 1
          have HGI := Lib.hid hgi
          have HB2 := Lib.hid hb
          have hsz := hb.size
          by_cases hlt : k < bs.length
          · obtain ⟨l, ho⟩ : ∃ l, bs[k]? = some l := ⟨_, List.getElem?_eq_getElem hlt⟩
            obtain ⟨bq, off, u, hAe, hbq, hcu, hol⟩ := HBS.out.at_ ho
            obtain ⟨⟨_, A1, cap1, rfl, _⟩, _⟩ := id hol
            have hll := HSM.out l (List.mem_of_getElem? ho)
            have c0 : WA.cell? ⟨bq, off + k, none⟩ = some (.slice A1 l.length cap1) := (HBW.out.cell (p := ⟨bq, off + k, none⟩) hbq).trans hcu
            have cr0 : wr.cell? ⟨bq, off + k, none⟩ = some (.slice A1 l.length cap1) := (hb.cell (p := ⟨bq, off + k, none⟩) (by simp; omega)).trans c0
            have HOL := Lib.hid (hol.grow (HBW.out.trans (hb.mono (by omega))))
            subst hAe
            obtain ⟨vs', hs', ho'⟩ := hgi.ob
            have hlk : (bs.take k).length = k := by simp; omega
            rw [hlk] at hs'
            have HS := Lib.hid hs'
            have HO' := Lib.hid ho'
            have HLK := Lib.hid hlk
            have HO := Lib.hid ho
            have e1 : (0 : Int) ≤ (k : Int) := by omega
            have e2 : (k : Int) < (bs.length : Int) := by omega
            clear hgi hb ho hol hcu hs' ho' hlk hx
            go_wp2_with fail
            refine wp_region_F (fun W : World => Below (w.heap.size + 2) WA W ∧ W.cell? ⟨yb, 1, none⟩ = some (.slice A' k cap')) [14] (by kernel_rfl) (show Below (w.heap.size + 2) WA wr.drew ∧ wr.drew.cell? ⟨yb, 1, none⟩ = some (.slice A' k cap') from ⟨HB2.out.drew, y1⟩) (fun hS => ?_)
            obtain ⟨V0, hV⟩ : ∃ V, V = wr.drew := ⟨_, rfl⟩
            have HP0 : Below wr.heap.size wr V0 := by rw [hV]; exact (Below.refl _ _).drew
            rw [← hV] at hS ⊢
            replace HP0 := Lib.hid HP0
            clear hV
            refine wpAnyF_take (i := 0) (oi := { dst := some 26, op := Go.Op.fieldAddr 28 (Go.Operand.tmp 3) 0, type := 0, pos := "law.go:100", after := #[], guard := none }) (v := ?_) rfl (by kernel_rfl) (by kernel_rfl) (by kernel_rfl) (by kernel_rfl) (fun _ _ _ h => h) (Or.inl ⟨by rfl, ?_⟩) hS ?_
            rotate_left
            · intro w' hSw; have q1 := (hSw.1.cell (p := ⟨w.heap.size, 1, none⟩) (by simp <;> omega)).trans x1; have q2 := (hSw.1.cell (p := ⟨bq, off + k, none⟩) (by simp <;> omega)).trans c0; have q3 := hSw.2; go_simp; try with_reducible rfl
            try simp only [Act.put, List.setIfInBounds_toArray, List.set_cons_zero, List.set_cons_succ]
            refine wpAnyF_take (i := 1) (oi := { dst := some 27, op := Go.Op.fieldAddr 24 (Go.Operand.tmp 26) 1, type := 0, pos := "law.go:100", after := #[{ on := 0, ground := Go.Ground.data }], guard := none }) (v := ?_) rfl (by kernel_rfl) (by kernel_rfl) (by kernel_rfl) (by kernel_rfl) (fun _ _ _ h => h) (Or.inl ⟨by rfl, ?_⟩) hS ?_
            rotate_left
            · intro w' hSw; have q1 := (hSw.1.cell (p := ⟨w.heap.size, 1, none⟩) (by simp <;> omega)).trans x1; have q2 := (hSw.1.cell (p := ⟨bq, off + k, none⟩) (by simp <;> omega)).trans c0; have q3 := hSw.2; go_simp; try with_reducible rfl
            try simp only [Act.put, List.setIfInBounds_toArray, List.set_cons_zero, List.set_cons_succ]
            refine wpAnyF_take (i := 2) (oi := { dst := some 28, op := Go.Op.load 22 (Go.Operand.tmp 27), type := 22, pos := "law.go:100", after := #[{ on := 1, ground := Go.Ground.data }], guard := none }) (v := ?_) rfl (by kernel_rfl) (by kernel_rfl) (by kernel_rfl) (by kernel_rfl) (fun _ _ _ h => h) (Or.inl ⟨by rfl, ?_⟩) hS ?_
            rotate_left
            · intro w' hSw; have q1 := (hSw.1.cell (p := ⟨w.heap.size, 1, none⟩) (by simp <;> omega)).trans x1; have q2 := (hSw.1.cell (p := ⟨bq, off + k, none⟩) (by simp <;> omega)).trans c0; have q3 := hSw.2; go_simp; try with_reducible rfl
            try simp only [Act.put, List.setIfInBounds_toArray, List.set_cons_zero, List.set_cons_succ]
            refine wpAnyF_take (i := 3) (oi := { dst := some 29, op := Go.Op.fieldAddr 28 (Go.Operand.tmp 1) 0, type := 0, pos := "law.go:100", after := #[], guard := none }) (v := ?_) rfl (by kernel_rfl) (by kernel_rfl) (by kernel_rfl) (by kernel_rfl) (fun _ _ _ h => h) (Or.inl ⟨by rfl, ?_⟩) hS ?_
            rotate_left
            · intro w' hSw; have q1 := (hSw.1.cell (p := ⟨w.heap.size, 1, none⟩) (by simp <;> omega)).trans x1; have q2 := (hSw.1.cell (p := ⟨bq, off + k, none⟩) (by simp <;> omega)).trans c0; have q3 := hSw.2; go_simp; try with_reducible rfl
            try simp only [Act.put, List.setIfInBounds_toArray, List.set_cons_zero, List.set_cons_succ]
            refine wpAnyF_take (i := 4) (oi := { dst := some 30, op := Go.Op.fieldAddr 24 (Go.Operand.tmp 29) 1, type := 0, pos := "law.go:100", after := #[{ on := 3, ground := Go.Ground.data }], guard := none }) (v := ?_) rfl (by kernel_rfl) (by kernel_rfl) (by kernel_rfl) (by kernel_rfl) (fun _ _ _ h => h) (Or.inl ⟨by rfl, ?_⟩) hS ?_
            rotate_left
            · intro w' hSw; have q1 := (hSw.1.cell (p := ⟨w.heap.size, 1, none⟩) (by simp <;> omega)).trans x1; have q2 := (hSw.1.cell (p := ⟨bq, off + k, none⟩) (by simp <;> omega)).trans c0; have q3 := hSw.2; go_simp; try with_reducible rfl
            try simp only [Act.put, List.setIfInBounds_toArray, List.set_cons_zero, List.set_cons_succ]
            refine wpAnyF_take (i := 5) (oi := { dst := some 31, op := Go.Op.load 22 (Go.Operand.tmp 30), type := 22, pos := "law.go:100", after := #[{ on := 4, ground := Go.Ground.data }], guard := none }) (v := ?_) rfl (by kernel_rfl) (by kernel_rfl) (by kernel_rfl) (by kernel_rfl) (fun _ _ _ h => h) (Or.inl ⟨by rfl, ?_⟩) hS ?_
            rotate_left
            · intro w' hSw; have q1 := (hSw.1.cell (p := ⟨w.heap.size, 1, none⟩) (by simp <;> omega)).trans x1; have q2 := (hSw.1.cell (p := ⟨bq, off + k, none⟩) (by simp <;> omega)).trans c0; have q3 := hSw.2; go_simp; try with_reducible rfl
            try simp only [Act.put, List.setIfInBounds_toArray, List.set_cons_zero, List.set_cons_succ]
            refine wpAnyF_take (i := 6) (oi := { dst := some 32, op := Go.Op.move (Go.Operand.tmp 4), type := 3, pos := "law.go:100", after := #[], guard := none }) (v := ?_) rfl (by kernel_rfl) (by kernel_rfl) (by kernel_rfl) (by kernel_rfl) (fun _ _ _ h => h) (Or.inl ⟨by rfl, ?_⟩) hS ?_
            rotate_left
            · intro w' hSw; have q1 := (hSw.1.cell (p := ⟨w.heap.size, 1, none⟩) (by simp <;> omega)).trans x1; have q2 := (hSw.1.cell (p := ⟨bq, off + k, none⟩) (by simp <;> omega)).trans c0; have q3 := hSw.2; go_simp; try with_reducible rfl
            try simp only [Act.put, List.setIfInBounds_toArray, List.set_cons_zero, List.set_cons_succ]
            refine wpAnyF_take (i := 7) (oi := { dst := some 33, op := Go.Op.indexAddr 22 (Go.Operand.tmp 31) (Go.Operand.tmp 32), type := 0, pos := "law.go:100", after := #[{ on := 5, ground := Go.Ground.data }, { on := 6, ground := Go.Ground.data }], guard := none }) (v := ?_) rfl (by kernel_rfl) (by kernel_rfl) (by kernel_rfl) (by kernel_rfl) (fun _ _ _ h => h) (Or.inl ⟨by rfl, ?_⟩) hS ?_
            rotate_left
            · intro w' hSw; have q1 := (hSw.1.cell (p := ⟨w.heap.size, 1, none⟩) (by simp <;> omega)).trans x1; have q2 := (hSw.1.cell (p := ⟨bq, off + k, none⟩) (by simp <;> omega)).trans c0; have q3 := hSw.2; go_simp; try with_reducible rfl
            try simp only [Act.put, List.setIfInBounds_toArray, List.set_cons_zero, List.set_cons_succ]
            refine wpAnyF_take (i := 8) (oi := { dst := some 34, op := Go.Op.load 26 (Go.Operand.tmp 33), type := 26, pos := "law.go:100", after := #[{ on := 7, ground := Go.Ground.data }], guard := none }) (v := ?_) rfl (by kernel_rfl) (by kernel_rfl) (by kernel_rfl) (by kernel_rfl) (fun _ _ _ h => h) (Or.inl ⟨by rfl, ?_⟩) hS ?_
            rotate_left
            · intro w' hSw; have q1 := (hSw.1.cell (p := ⟨w.heap.size, 1, none⟩) (by simp <;> omega)).trans x1; have q2 := (hSw.1.cell (p := ⟨bq, off + k, none⟩) (by simp <;> omega)).trans c0; have q3 := hSw.2; go_simp; try with_reducible rfl
            try simp only [Act.put, List.setIfInBounds_toArray, List.set_cons_zero, List.set_cons_succ]
            refine wpAnyF_ready (rs := [9]) (by kernel_rfl) (by simp) ?_
            refine AllReadyF.cons (o := { dst := some 35, op := Go.Op.call { callee := Go.Callee.value (Go.Operand.func 18), args := #[Go.Operand.tmp 34], argTypes := #[26] }, type := 26, pos := "law.go:100", after := #[{ on := 8, ground := Go.Ground.data }], guard := none }) rfl (by rfl) (fun K hK => ?_) ?_
            · go_simp
              refine (offers29_any l _ R V0 (HOL.out.grow HP0.out) (by omega)).mono ?_
              rintro e V1 ⟨g2, cl, rfl, hm, hb5⟩
              refine hK.out _ _ ?_ (fun hS => ?_)
              · exact ⟨HB2.out.trans ((HP0.out.trans (hb5.mono HP0.out.size)).mono (by omega)), ((HP0.out.trans (hb5.mono HP0.out.size)).cell (p := ⟨yb, 1, none⟩) hyl).trans y1⟩
              clear hK K
              try simp only [Act.put, List.setIfInBounds_toArray, List.set_cons_zero, List.set_cons_succ]
              have hb6 := HP0.out.trans (hb5.mono HP0.out.size)
              obtain ⟨hml, hmc, _⟩ := hm.mark
              have hc31 : ((l.length : Nat) : Int) ≤ (cl : Int) := by omega
              have hc30 : (0 : Int) ≤ ((l.length : Nat) : Int) := by omega
              have HP1 := Lib.hid hb6
              have HM1 := Lib.hid (hm.mono (show w.heap.size + 2 ≤ V0.heap.size by have := HP0.out.size; omega))
              clear hb5 hb6 hm
              refine wpAnyF_ready (rs := [10]) (by kernel_rfl) (by simp) ?_
              refine AllReadyF.cons (o := { dst := some 36, op := Go.Op.buildSlice 22 1 #[(0, Go.Operand.tmp 35)], type := 22, pos := "law.go:100", after := #[{ on := 9, ground := Go.Ground.data }], guard := none }) rfl (by rfl) (fun K hK => ?_) ?_
              · go_simp
                refine hK.out _ _ ?_ (fun hS => ?_)
                · exact ⟨(HB2.out.trans (HP1.out.mono (by omega))).alloc (by have := HP1.out.size; omega) _, ((HP1.out.alloc HP1.out.size _).cell (p := ⟨yb, 1, none⟩) hyl).trans y1⟩
                clear hK K
                try simp only [Act.put, List.setIfInBounds_toArray, List.set_cons_zero, List.set_cons_succ]
                have hB := HP1.out.alloc HP1.out.size (.cells #[.slice (some ⟨g2, 0, none⟩) l.length cl] 26)
                have hM := HM1.out.grow ((Below.refl V1.heap.size V1).alloc (Nat.le_refl _) (.cells #[.slice (some ⟨g2, 0, none⟩) l.length cl] 26))
                have hN := Blk.new V1 26 #[.slice (some ⟨g2, 0, none⟩) l.length cl]
                obtain ⟨V2, hV⟩ : ∃ V, V = V1.alloc (.cells #[.slice (some ⟨g2, 0, none⟩) l.length cl] 26) := ⟨_, rfl⟩
                rw [← hV] at hB hM hN hS ⊢
                have HP2 := Lib.hid hB
                have HM4 := Lib.hid hM
                have HN := Lib.hid hN
                have HS4 := Lib.hid (own_grow HS.out hB)
                have HGI4 := Lib.hid (HGI.out.grow hB)
                clear hV hB hM hN
                refine wpAnyF_ready (rs := [11]) (by kernel_rfl) (by simp) ?_
                refine AllReadyF.cons (o := { dst := some 37, op := Go.Op.call { callee := Go.Callee.builtin Go.Builtin.append, args := #[Go.Operand.tmp 28, Go.Operand.tmp 36], argTypes := #[22, 22] }, type := 22, pos := "law.go:100", after := #[{ on := 2, ground := Go.Ground.data }, { on := 10, ground := Go.Ground.data }, { on := 9, ground := Go.Ground.chain }], guard := none }) rfl (by rfl) (fun K hK => ?_) ?_
                · refine step_app V2 rfl (.tmp 28) (.tmp 36) et_offs rfl (w.heap.size + 2) (.slice A' k cap') k vs' rfl HS4.out _ (.slice (some ⟨V1.heap.size, 0, none⟩) 1 1) 1 [.slice (some ⟨g2, 0, none⟩) l.length cl] rfl (Sl.blk (sz := 1) HN.out (Nat.le_refl 1) (by unfold maxLen; omega) rfl) (by simp [Value.oneCell']) (by omega) (by unfold maxLen; omega) (by have := HP2.out.size; omega) ?_
                  intro A4 c4 V3 hown hg hloc
                  refine hK.out _ _ ?_ (fun hS => ?_)
                  · exact ⟨(HB2.out.trans (HP2.out.mono (by omega))).grown hg (by have := HP2.out.size; omega) (fun g e => by have := (HS4.out.lt g e).1; omega), (HGI4.out.y.grown hg (fun e => own_ne_blk HS4.out HGI4.out.y (by decide) e.symm)).cell 1⟩
                  clear hK K
                  try simp only [Act.put, List.setIfInBounds_toArray, List.set_cons_zero, List.set_cons_succ]
                  have hyV := HGI4.out.y.grown hg (fun e => own_ne_blk HS4.out HGI4.out.y (by decide) e.symm)
                  have yc : V3.cell? ⟨yb, 1, none⟩ = some (.slice A' k cap') := hyV.cell 1
                  have yf : V3.frozen? ⟨yb, 1, none⟩ = false := hyV.frozen 1
                  have HGV := Lib.hid hg
                  have HOV := Lib.hid hown
                  have HLV := Lib.hid hloc
                  clear hyV hown hg hloc
                  refine wpAnyF_ready (rs := [12]) (by kernel_rfl) (by simp) ?_
                  refine AllReadyF.cons (o := { dst := some 38, op := Go.Op.fieldAddr 28 (Go.Operand.tmp 3) 0, type := 0, pos := "law.go:100", after := #[{ on := 0, ground := Go.Ground.phase }, { on := 1, ground := Go.Ground.phase }, { on := 2, ground := Go.Ground.phase }, { on := 3, ground := Go.Ground.phase }, { on := 4, ground := Go.Ground.phase }, { on := 5, ground := Go.Ground.phase }, { on := 6, ground := Go.Ground.phase }, { on := 7, ground := Go.Ground.phase }, { on := 8, ground := Go.Ground.phase }, { on := 9, ground := Go.Ground.phase }, { on := 10, ground := Go.Ground.phase }, { on := 11, ground := Go.Ground.phase }], guard := none }) rfl (by rfl) (fun K hK => ?_) ?_
                  · go_simp
                    refine hK.out _ _ ?_ (fun hS => ?_)
                    · exact hS
                    clear hK K
                    try simp only [Act.put, List.setIfInBounds_toArray, List.set_cons_zero, List.set_cons_succ]
                    refine wpAnyF_take (i := 13) (oi := { dst := some 39, op := Go.Op.fieldAddr 24 (Go.Operand.tmp 38) 1, type := 0, pos := "law.go:100", after := #[{ on := 12, ground := Go.Ground.data }, { on := 0, ground := Go.Ground.phase }, { on := 1, ground := Go.Ground.phase }, { on := 2, ground := Go.Ground.phase }, { on := 3, ground := Go.Ground.phase }, { on := 4, ground := Go.Ground.phase }, { on := 5, ground := Go.Ground.phase }, { on := 6, ground := Go.Ground.phase }, { on := 7, ground := Go.Ground.phase }, { on := 8, ground := Go.Ground.phase }, { on := 9, ground := Go.Ground.phase }, { on := 10, ground := Go.Ground.phase }, { on := 11, ground := Go.Ground.phase }], guard := none }) (v := ?_) rfl (by kernel_rfl) (by kernel_rfl) (by kernel_rfl) (by kernel_rfl) (fun _ _ _ h => h) (Or.inl ⟨by rfl, ?_⟩) hS ?_
                    rotate_left
                    · intro w' hSw; have q1 := (hSw.1.cell (p := ⟨w.heap.size, 1, none⟩) (by simp <;> omega)).trans x1; have q2 := (hSw.1.cell (p := ⟨bq, off + k, none⟩) (by simp <;> omega)).trans c0; have q3 := hSw.2; go_simp; try with_reducible rfl
                    try simp only [Act.put, List.setIfInBounds_toArray, List.set_cons_zero, List.set_cons_succ]
                    refine wpAnyF_ready (rs := [14]) (by kernel_rfl) (by simp) ?_
                    refine AllReadyF.fin (o := { dst := none, op := Go.Op.store 22 (Go.Operand.tmp 39) (Go.Operand.tmp 37), type := 0, pos := "law.go:100", after := #[{ on := 13, ground := Go.Ground.data }, { on := 11, ground := Go.Ground.data }, { on := 11, ground := Go.Ground.chain }, { on := 0, ground := Go.Ground.phase }, { on := 1, ground := Go.Ground.phase }, { on := 2, ground := Go.Ground.phase }, { on := 3, ground := Go.Ground.phase }, { on := 4, ground := Go.Ground.phase }, { on := 5, ground := Go.Ground.phase }, { on := 6, ground := Go.Ground.phase }, { on := 7, ground := Go.Ground.phase }, { on := 8, ground := Go.Ground.phase }, { on := 9, ground := Go.Ground.phase }, { on := 10, ground := Go.Ground.phase }, { on := 11, ground := Go.Ground.phase }], guard := none }) rfl (by rfl) (fun K hK => ?_) ?_
                    · go_simp
                      refine hK.out _ _ ?_
                      clear hK K
                      try simp only [Act.put, List.setIfInBounds_toArray, List.set_cons_zero, List.set_cons_succ]
                      refine wpAnyF_done (by kernel_rfl) ?_ _
                      go_wp2_with fail
                      go_roundw
                      case rel =>
                        have hsn := GvI.addB HGI4.out HLK.out HS4.out (fun j l' hj => let ⟨b, c, h1, h2⟩ := HO'.out j l' hj; ⟨b, c, h1, h2.grow HP2.out⟩) (HM4.out.mono (by omega)) HOV.out HGV.out
                        have htk : bs.take (k + 1) = bs.take k ++ [l] := by rw [List.take_add_one, HO.out]; rfl
                        refine ⟨k + 1, A4, c4, by omega, by go_num, ?_, ?_⟩
                        · rw [htk]
                          exact hsn
                        · exact ((HB2.out.trans (HP2.out.mono (by omega))).grown HGV.out (by have := HP2.out.size; omega) (fun g e => by have := (HS4.out.lt g e).1; omega)).setCell (p := ⟨yb, 1, none⟩) (by simp; omega) _
                      case measure => simp [intOf]; omega
                    exact AllReadyF.nil
                  exact AllReadyF.nil
                exact AllReadyF.nil
              exact AllReadyF.nil
            exact AllReadyF.nil
          · obtain rfl : k = bs.length := by omega
            rw [List.take_length] at hgi HGI
            have HG0 := Lib.hid hgi
            have HG1 := Lib.hid hb
            clear hgi hb hx HGI HB2
            go_wp2_with fail
            obtain ⟨Ab, hAb⟩ : ∃ z, z = A' := ⟨_, rfl⟩
            obtain ⟨cb2, hcb2⟩ : ∃ z, z = cap' := ⟨_, rfl⟩
            rw [← hAb, ← hcb2] at HG0
            obtain ⟨wq, hwq⟩ : ∃ z, z = wr := ⟨_, rfl⟩
            rw [← hwq] at HG0 HG1 ⊢
            clear hAb hcb2 hk y1 hyl xr1 hsz
            go_loopw [5] (fun i wr => ∃ (k : Nat) (A' : Option Addr) (cap' : Nat), k ≤ ts.length ∧ i = .int .i64 k ∧ GvI (w.heap.size + 2) yb n buyer r g c tr (.slice Ab bs.length cb2) (.slice A' k cap') bs (ts.take k) wr ∧ Below (w.heap.size + 2) WA wr) (fun i _ => ts.length - (intOf i).toNat)
            case atStart => exact ⟨0, none, 0, Nat.zero_le _, rfl, HG0.out, HG1.out⟩
            case round =>
              obtain ⟨k, A', cap', hk, rfl, hgi, hb⟩ := hrel
              have y5 : wr.cell? ⟨yb, 5, none⟩ = some (.slice A' k cap') := hgi.y.cell 5
              have hyl : yb < wr.heap.size := hgi.y.lt
              have hx := HX.out.below hb (by omega)
              have xr5 : wr.cell? ⟨w.heap.size, 5, none⟩ = _ := hx.cell 5
              have HGI := Lib.hid hgi
              have HB2 := Lib.hid hb
              have hsz := hb.size
              by_cases hlt : k < ts.length
              · obtain ⟨l, ho⟩ : ∃ l, ts[k]? = some l := ⟨_, List.getElem?_eq_getElem hlt⟩
                obtain ⟨bq, off, u, hAe, hbq, hcu, hol⟩ := HTS.out.at_ ho
                obtain ⟨⟨_, A1, cap1, rfl, _⟩, _⟩ := id hol
                have hll := HSMs.out l (List.mem_of_getElem? ho)
                have c0 : WA.cell? ⟨bq, off + k, none⟩ = some (.slice A1 l.length cap1) := (HBW.out.cell (p := ⟨bq, off + k, none⟩) hbq).trans hcu
                have cr0 : wr.cell? ⟨bq, off + k, none⟩ = some (.slice A1 l.length cap1) := (hb.cell (p := ⟨bq, off + k, none⟩) (by simp; omega)).trans c0
                have HOL := Lib.hid (hol.grow (HBW.out.trans (hb.mono (by omega))))
                subst hAe
                obtain ⟨vs', hs', ho'⟩ := hgi.ot
                have hlk : (ts.take k).length = k := by simp; omega
                rw [hlk] at hs'
                have HS := Lib.hid hs'
                have HO' := Lib.hid ho'
                have HLK := Lib.hid hlk
                have HO := Lib.hid ho
                have e1 : (0 : Int) ≤ (k : Int) := by omega
                have e2 : (k : Int) < (ts.length : Int) := by omega
                clear hgi hb ho hol hcu hs' ho' hlk hx
                go_wp2_with fail
                refine wp_region_F (fun W : World => Below (w.heap.size + 2) WA W ∧ W.cell? ⟨yb, 5, none⟩ = some (.slice A' k cap')) [11] (by kernel_rfl) (show Below (w.heap.size + 2) WA wr.drew ∧ wr.drew.cell? ⟨yb, 5, none⟩ = some (.slice A' k cap') from ⟨HB2.out.drew, y5⟩) (fun hS => ?_)
                obtain ⟨V0, hV⟩ : ∃ V, V = wr.drew := ⟨_, rfl⟩
                have HP0 : Below wr.heap.size wr V0 := by rw [hV]; exact (Below.refl _ _).drew
                rw [← hV] at hS ⊢
                replace HP0 := Lib.hid HP0
                clear hV
                refine wpAnyF_take (i := 0) (oi := { dst := some 47, op := Go.Op.fieldAddr 28 (Go.Operand.tmp 3) 4, type := 0, pos := "law.go:103", after := #[], guard := none }) (v := ?_) rfl (by kernel_rfl) (by kernel_rfl) (by kernel_rfl) (by kernel_rfl) (fun _ _ _ h => h) (Or.inl ⟨by rfl, ?_⟩) hS ?_
                rotate_left
                · intro w' hSw; have q1 := (hSw.1.cell (p := ⟨w.heap.size, 5, none⟩) (by simp <;> omega)).trans x5; have q2 := (hSw.1.cell (p := ⟨bq, off + k, none⟩) (by simp <;> omega)).trans c0; have q3 := hSw.2; go_simp; try with_reducible rfl
                try simp only [Act.put, List.setIfInBounds_toArray, List.set_cons_zero, List.set_cons_succ]
                refine wpAnyF_take (i := 1) (oi := { dst := some 48, op := Go.Op.load 22 (Go.Operand.tmp 47), type := 22, pos := "law.go:103", after := #[{ on := 0, ground := Go.Ground.data }], guard := none }) (v := ?_) rfl (by kernel_rfl) (by kernel_rfl) (by kernel_rfl) (by kernel_rfl) (fun _ _ _ h => h) (Or.inl ⟨by rfl, ?_⟩) hS ?_
                rotate_left
                · intro w' hSw; have q1 := (hSw.1.cell (p := ⟨w.heap.size, 5, none⟩) (by simp <;> omega)).trans x5; have q2 := (hSw.1.cell (p := ⟨bq, off + k, none⟩) (by simp <;> omega)).trans c0; have q3 := hSw.2; go_simp; try with_reducible rfl
                try simp only [Act.put, List.setIfInBounds_toArray, List.set_cons_zero, List.set_cons_succ]
                refine wpAnyF_take (i := 2) (oi := { dst := some 49, op := Go.Op.fieldAddr 28 (Go.Operand.tmp 1) 4, type := 0, pos := "law.go:103", after := #[], guard := none }) (v := ?_) rfl (by kernel_rfl) (by kernel_rfl) (by kernel_rfl) (by kernel_rfl) (fun _ _ _ h => h) (Or.inl ⟨by rfl, ?_⟩) hS ?_
                rotate_left
                · intro w' hSw; have q1 := (hSw.1.cell (p := ⟨w.heap.size, 5, none⟩) (by simp <;> omega)).trans x5; have q2 := (hSw.1.cell (p := ⟨bq, off + k, none⟩) (by simp <;> omega)).trans c0; have q3 := hSw.2; go_simp; try with_reducible rfl
                try simp only [Act.put, List.setIfInBounds_toArray, List.set_cons_zero, List.set_cons_succ]
                refine wpAnyF_take (i := 3) (oi := { dst := some 50, op := Go.Op.load 22 (Go.Operand.tmp 49), type := 22, pos := "law.go:103", after := #[{ on := 2, ground := Go.Ground.data }], guard := none }) (v := ?_) rfl (by kernel_rfl) (by kernel_rfl) (by kernel_rfl) (by kernel_rfl) (fun _ _ _ h => h) (Or.inl ⟨by rfl, ?_⟩) hS ?_
                rotate_left
                · intro w' hSw; have q1 := (hSw.1.cell (p := ⟨w.heap.size, 5, none⟩) (by simp <;> omega)).trans x5; have q2 := (hSw.1.cell (p := ⟨bq, off + k, none⟩) (by simp <;> omega)).trans c0; have q3 := hSw.2; go_simp; try with_reducible rfl
                try simp only [Act.put, List.setIfInBounds_toArray, List.set_cons_zero, List.set_cons_succ]
                refine wpAnyF_take (i := 4) (oi := { dst := some 51, op := Go.Op.move (Go.Operand.tmp 5), type := 3, pos := "law.go:103", after := #[], guard := none }) (v := ?_) rfl (by kernel_rfl) (by kernel_rfl) (by kernel_rfl) (by kernel_rfl) (fun _ _ _ h => h) (Or.inl ⟨by rfl, ?_⟩) hS ?_
                rotate_left
                · intro w' hSw; have q1 := (hSw.1.cell (p := ⟨w.heap.size, 5, none⟩) (by simp <;> omega)).trans x5; have q2 := (hSw.1.cell (p := ⟨bq, off + k, none⟩) (by simp <;> omega)).trans c0; have q3 := hSw.2; go_simp; try with_reducible rfl
                try simp only [Act.put, List.setIfInBounds_toArray, List.set_cons_zero, List.set_cons_succ]
                refine wpAnyF_take (i := 5) (oi := { dst := some 52, op := Go.Op.indexAddr 22 (Go.Operand.tmp 50) (Go.Operand.tmp 51), type := 0, pos := "law.go:103", after := #[{ on := 3, ground := Go.Ground.data }, { on := 4, ground := Go.Ground.data }], guard := none }) (v := ?_) rfl (by kernel_rfl) (by kernel_rfl) (by kernel_rfl) (by kernel_rfl) (fun _ _ _ h => h) (Or.inl ⟨by rfl, ?_⟩) hS ?_
                rotate_left
                · intro w' hSw; have q1 := (hSw.1.cell (p := ⟨w.heap.size, 5, none⟩) (by simp <;> omega)).trans x5; have q2 := (hSw.1.cell (p := ⟨bq, off + k, none⟩) (by simp <;> omega)).trans c0; have q3 := hSw.2; go_simp; try with_reducible rfl
                try simp only [Act.put, List.setIfInBounds_toArray, List.set_cons_zero, List.set_cons_succ]
                refine wpAnyF_take (i := 6) (oi := { dst := some 53, op := Go.Op.load 26 (Go.Operand.tmp 52), type := 26, pos := "law.go:103", after := #[{ on := 5, ground := Go.Ground.data }], guard := none }) (v := ?_) rfl (by kernel_rfl) (by kernel_rfl) (by kernel_rfl) (by kernel_rfl) (fun _ _ _ h => h) (Or.inl ⟨by rfl, ?_⟩) hS ?_
                rotate_left
                · intro w' hSw; have q1 := (hSw.1.cell (p := ⟨w.heap.size, 5, none⟩) (by simp <;> omega)).trans x5; have q2 := (hSw.1.cell (p := ⟨bq, off + k, none⟩) (by simp <;> omega)).trans c0; have q3 := hSw.2; go_simp; try with_reducible rfl
                try simp only [Act.put, List.setIfInBounds_toArray, List.set_cons_zero, List.set_cons_succ]
                refine wpAnyF_ready (rs := [7]) (by kernel_rfl) (by simp) ?_
                refine AllReadyF.cons (o := { dst := some 54, op := Go.Op.call { callee := Go.Callee.value (Go.Operand.func 18), args := #[Go.Operand.tmp 53], argTypes := #[26] }, type := 26, pos := "law.go:103", after := #[{ on := 6, ground := Go.Ground.data }], guard := none }) rfl (by rfl) (fun K hK => ?_) ?_
                · go_simp
                  refine (offers29_any l _ Rs V0 (HOL.out.grow HP0.out) (by omega)).mono ?_
                  rintro e V1 ⟨g2, cl, rfl, hm, hb5⟩
                  refine hK.out _ _ ?_ (fun hS => ?_)
                  · exact ⟨HB2.out.trans ((HP0.out.trans (hb5.mono HP0.out.size)).mono (by omega)), ((HP0.out.trans (hb5.mono HP0.out.size)).cell (p := ⟨yb, 5, none⟩) hyl).trans y5⟩
                  clear hK K
                  try simp only [Act.put, List.setIfInBounds_toArray, List.set_cons_zero, List.set_cons_succ]
                  have hb6 := HP0.out.trans (hb5.mono HP0.out.size)
                  obtain ⟨hml, hmc, _⟩ := hm.mark
                  have hc31 : ((l.length : Nat) : Int) ≤ (cl : Int) := by omega
                  have hc30 : (0 : Int) ≤ ((l.length : Nat) : Int) := by omega
                  have HP1 := Lib.hid hb6
                  have HM1 := Lib.hid (hm.mono (show w.heap.size + 2 ≤ V0.heap.size by have := HP0.out.size; omega))
                  clear hb5 hb6 hm
                  refine wpAnyF_ready (rs := [8]) (by kernel_rfl) (by simp) ?_
                  refine AllReadyF.cons (o := { dst := some 55, op := Go.Op.buildSlice 22 1 #[(0, Go.Operand.tmp 54)], type := 22, pos := "law.go:103", after := #[{ on := 7, ground := Go.Ground.data }], guard := none }) rfl (by rfl) (fun K hK => ?_) ?_
                  · go_simp
                    refine hK.out _ _ ?_ (fun hS => ?_)
                    · exact ⟨(HB2.out.trans (HP1.out.mono (by omega))).alloc (by have := HP1.out.size; omega) _, ((HP1.out.alloc HP1.out.size _).cell (p := ⟨yb, 5, none⟩) hyl).trans y5⟩
                    clear hK K
                    try simp only [Act.put, List.setIfInBounds_toArray, List.set_cons_zero, List.set_cons_succ]
                    have hB := HP1.out.alloc HP1.out.size (.cells #[.slice (some ⟨g2, 0, none⟩) l.length cl] 26)
                    have hM := HM1.out.grow ((Below.refl V1.heap.size V1).alloc (Nat.le_refl _) (.cells #[.slice (some ⟨g2, 0, none⟩) l.length cl] 26))
                    have hN := Blk.new V1 26 #[.slice (some ⟨g2, 0, none⟩) l.length cl]
                    obtain ⟨V2, hV⟩ : ∃ V, V = V1.alloc (.cells #[.slice (some ⟨g2, 0, none⟩) l.length cl] 26) := ⟨_, rfl⟩
                    rw [← hV] at hB hM hN hS ⊢
                    have HP2 := Lib.hid hB
                    have HM4 := Lib.hid hM
                    have HN := Lib.hid hN
                    have HS4 := Lib.hid (own_grow HS.out hB)
                    have HGI4 := Lib.hid (HGI.out.grow hB)
                    clear hV hB hM hN
                    refine wpAnyF_ready (rs := [9]) (by kernel_rfl) (by simp) ?_
                    refine AllReadyF.cons (o := { dst := some 56, op := Go.Op.call { callee := Go.Callee.builtin Go.Builtin.append, args := #[Go.Operand.tmp 48, Go.Operand.tmp 55], argTypes := #[22, 22] }, type := 22, pos := "law.go:103", after := #[{ on := 1, ground := Go.Ground.data }, { on := 8, ground := Go.Ground.data }, { on := 7, ground := Go.Ground.chain }], guard := none }) rfl (by rfl) (fun K hK => ?_) ?_
                    · refine step_app V2 rfl (.tmp 48) (.tmp 55) et_offs rfl (w.heap.size + 2) (.slice A' k cap') k vs' rfl HS4.out _ (.slice (some ⟨V1.heap.size, 0, none⟩) 1 1) 1 [.slice (some ⟨g2, 0, none⟩) l.length cl] rfl (Sl.blk (sz := 1) HN.out (Nat.le_refl 1) (by unfold maxLen; omega) rfl) (by simp [Value.oneCell']) (by omega) (by unfold maxLen; omega) (by have := HP2.out.size; omega) ?_
                      intro A4 c4 V3 hown hg hloc
                      refine hK.out _ _ ?_ (fun hS => ?_)
                      · exact ⟨(HB2.out.trans (HP2.out.mono (by omega))).grown hg (by have := HP2.out.size; omega) (fun g e => by have := (HS4.out.lt g e).1; omega), (HGI4.out.y.grown hg (fun e => own_ne_blk HS4.out HGI4.out.y (by decide) e.symm)).cell 5⟩
                      clear hK K
                      try simp only [Act.put, List.setIfInBounds_toArray, List.set_cons_zero, List.set_cons_succ]
                      have hyV := HGI4.out.y.grown hg (fun e => own_ne_blk HS4.out HGI4.out.y (by decide) e.symm)
                      have yc : V3.cell? ⟨yb, 5, none⟩ = some (.slice A' k cap') := hyV.cell 5
                      have yf : V3.frozen? ⟨yb, 5, none⟩ = false := hyV.frozen 5
                      have HGV := Lib.hid hg
                      have HOV := Lib.hid hown
                      have HLV := Lib.hid hloc
                      clear hyV hown hg hloc
                      refine wpAnyF_take (i := 10) (oi := { dst := some 57, op := Go.Op.fieldAddr 28 (Go.Operand.tmp 3) 4, type := 0, pos := "law.go:103", after := #[{ on := 0, ground := Go.Ground.phase }, { on := 1, ground := Go.Ground.phase }, { on := 2, ground := Go.Ground.phase }, { on := 3, ground := Go.Ground.phase }, { on := 4, ground := Go.Ground.phase }, { on := 5, ground := Go.Ground.phase }, { on := 6, ground := Go.Ground.phase }, { on := 7, ground := Go.Ground.phase }, { on := 8, ground := Go.Ground.phase }, { on := 9, ground := Go.Ground.phase }], guard := none }) (v := ?_) rfl (by kernel_rfl) (by kernel_rfl) (by kernel_rfl) (by kernel_rfl) (fun _ _ _ h => h) (Or.inl ⟨by rfl, ?_⟩) hS ?_
                      rotate_left
                      · intro w' hSw; have q1 := (hSw.1.cell (p := ⟨w.heap.size, 5, none⟩) (by simp <;> omega)).trans x5; have q2 := (hSw.1.cell (p := ⟨bq, off + k, none⟩) (by simp <;> omega)).trans c0; have q3 := hSw.2; go_simp; try with_reducible rfl
                      try simp only [Act.put, List.setIfInBounds_toArray, List.set_cons_zero, List.set_cons_succ]
                      refine wpAnyF_ready (rs := [11]) (by kernel_rfl) (by simp) ?_
                      refine AllReadyF.fin (o := { dst := none, op := Go.Op.store 22 (Go.Operand.tmp 57) (Go.Operand.tmp 56), type := 0, pos := "law.go:103", after := #[{ on := 10, ground := Go.Ground.data }, { on := 9, ground := Go.Ground.data }, { on := 9, ground := Go.Ground.chain }, { on := 0, ground := Go.Ground.phase }, { on := 1, ground := Go.Ground.phase }, { on := 2, ground := Go.Ground.phase }, { on := 3, ground := Go.Ground.phase }, { on := 4, ground := Go.Ground.phase }, { on := 5, ground := Go.Ground.phase }, { on := 6, ground := Go.Ground.phase }, { on := 7, ground := Go.Ground.phase }, { on := 8, ground := Go.Ground.phase }, { on := 9, ground := Go.Ground.phase }], guard := none }) rfl (by rfl) (fun K hK => ?_) ?_
                      · go_simp
                        refine hK.out _ _ ?_
                        clear hK K
                        try simp only [Act.put, List.setIfInBounds_toArray, List.set_cons_zero, List.set_cons_succ]
                        refine wpAnyF_done (by kernel_rfl) ?_ _
                        go_wp2_with fail
                        go_roundw
                        case rel =>
                          have hsn := GvI.addT HGI4.out HLK.out HS4.out (fun j l' hj => let ⟨b, c, h1, h2⟩ := HO'.out j l' hj; ⟨b, c, h1, h2.grow HP2.out⟩) (HM4.out.mono (by omega)) HOV.out HGV.out HLV.out
                          have htk : ts.take (k + 1) = ts.take k ++ [l] := by rw [List.take_add_one, HO.out]; rfl
                          refine ⟨k + 1, A4, c4, by omega, by go_num, ?_, ?_⟩
                          · rw [htk]
                            exact hsn
                          · exact ((HB2.out.trans (HP2.out.mono (by omega))).grown HGV.out (by have := HP2.out.size; omega) (fun g e => by have := (HS4.out.lt g e).1; omega)).setCell (p := ⟨yb, 5, none⟩) (by simp; omega) _
                        case measure => simp [intOf]; omega
                      exact AllReadyF.nil
                    exact AllReadyF.nil
                  exact AllReadyF.nil
                exact AllReadyF.nil
              · obtain rfl : k = ts.length := by omega
                rw [List.take_length] at hgi HGI
                have hy := hgi.y
                have hr := HR.out.below hb (by omega)
                have y0 : wr.cell? ⟨yb, 0, none⟩ = some (.int .i64 n) := hy.cell 0
                have y1 : wr.cell? ⟨yb, 1, none⟩ = some (.slice Ab bs.length cb2) := hy.cell 1
                have y2 : wr.cell? ⟨yb, 2, none⟩ = some (.int .i64 buyer) := hy.cell 2
                have y3 : wr.cell? ⟨yb, 3, none⟩ = some (.int .i64 r) := hy.cell 3
                have y4 : wr.cell? ⟨yb, 4, none⟩ = some (.slice (some ⟨g, 0, none⟩) tr.length c) := hy.cell 4
                have r0 : wr.cell? ⟨w.heap.size + 1, 0, none⟩ = some (.int .i64 0) := hr.cell 0
                have r1 : wr.cell? ⟨w.heap.size + 1, 1, none⟩ = some (.slice none 0 0) := hr.cell 1
                have r2 : wr.cell? ⟨w.heap.size + 1, 2, none⟩ = some (.int .i64 0) := hr.cell 2
                have r3 : wr.cell? ⟨w.heap.size + 1, 3, none⟩ = some (.int .i64 0) := hr.cell 3
                have r4 : wr.cell? ⟨w.heap.size + 1, 4, none⟩ = some (.slice none 0 0) := hr.cell 4
                have r5 : wr.cell? ⟨w.heap.size + 1, 5, none⟩ = some (.slice none 0 0) := hr.cell 5
                have rf := hr.frozen
                have hfin := put6_blk hr (.int .i64 n) (.slice Ab bs.length cb2) (.int .i64 buyer) (.int .i64 r) (.slice (some ⟨g, 0, none⟩) tr.length c) (.slice A' ts.length cap')
                have q0 := hfin.cell 0
                have q1 := hfin.cell 1
                have q2 := hfin.cell 2
                have q3 := hfin.cell 3
                have q4 := hfin.cell 4
                have q5 := hfin.cell 5
                unfold put6 at q0 q1 q2 q3 q4 q5
                simp at q0 q1 q2 q3 q4 q5
                clear hgi hy hr hb hx hfin
                go_wp2_with fail
                refine bodyPost_ret (v := .agg #[.int .i64 n, .slice Ab bs.length cb2, .int .i64 buyer, .int .i64 r, .slice (some ⟨g, 0, none⟩) tr.length c, .slice A' ts.length cap']) (by simp [results, Tryz.results6, go_sem, q0, q1, q2, q3, q4, q5]) rfl ⟨g, c, Ab, cb2, A', cap', rfl, ?_, ?_, ?_, ?_⟩
                · exact (HGI.out.tt.put6 (show g ≠ w.heap.size + 1 by have := HGI.out.tt.mark.2.2.2.2.1; omega) _ _ _ _ _ _).mono (by omega)
                · exact (HGI.out.ob.low6 (show w.heap.size + 1 < w.heap.size + 2 by omega) _ _ _ _ _ _).mono (by omega)
                · exact (HGI.out.ot.low6 (show w.heap.size + 1 < w.heap.size + 2 by omega) _ _ _ _ _ _).mono (by omega)
                · exact put6_below (HBW.out.trans (HB2.out.mono (by omega))) (by omega) _ _ _ _ _ _
      exact AllReadyF.nil
    exact AllReadyF.nil
  exact AllReadyF.nil
end Go.Proofs.YtcigobiolbojhaaGreat.Vb

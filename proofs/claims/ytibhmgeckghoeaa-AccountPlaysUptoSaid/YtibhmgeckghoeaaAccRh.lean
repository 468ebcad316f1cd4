/- Account: AccountPlays. (Printed by tools/gen_plays.py.) -/
import Derived.Test.YtibhmgeckghoeaaAccRi
namespace Go.Proofs.Ytibhmgeckghoeaa.Ac
open Go.RowKit Go.Shelf Go.Maps
open Go.Proofs.Ytibhmgeckghoeaa.Vb
attribute [local go_sem] Oper.semAt_some

theorem sl_front {W : World} {R : Nat → Prop} {A : Option Addr} {c : Nat} {l : HM} {x : Int × Int} (h : Sl W R (.slice A (l.length + 1) c) (l.length + 1) 2 (hcells (l ++ [x]))) : Sl W R (.slice A l.length c) l.length 2 (hcells l) := by
  obtain ⟨_, A', c', hv, h1, h2, h3⟩ := h
  injection hv with hA _ hc
  subst hA hc
  refine ⟨hcells_length l, A, c, rfl, by omega, h2, fun hn => ?_⟩
  obtain ⟨b, off, rfl, hb, hlt, hcc⟩ := h3 (by omega)
  refine ⟨b, off, rfl, hb, hlt, fun j u hu => hcc j u ?_⟩
  rw [hcells_append, List.getElem?_append_left (List.getElem?_eq_some_iff.1 hu).1]
  exact hu

set_option maxRecDepth 100000 in
set_option maxHeartbeats 32000000 in
theorem accountPlays_walk {one bud sp : Int} {l : HM} {sl v1 : Value} {R R2 : Nat → Prop} {script : List St} {w : World} (h : Helds w R sl l) (hsz : l.length * 16 ≤ 140737488351232) (hs : Steps w R2 v1 script) (hn2 : script.length ≤ 140737488355328) :
    Calls Try.prog 4 #[.agg #[.int .i64 one, .int .i64 bud, .int .i64 sp, sl], v1] w fun e w' => e = .returned (.bool true) ∧ Below w.heap.size w w' := by
  have HL := Lib.hid h
  have HWF := Lib.hid h.2
  have HS := Lib.hid hs
  have HSW := Lib.hid hs.2
  obtain ⟨⟨_, A, cap, rfl, hncap, hcap, _⟩, _⟩ := h
  obtain ⟨⟨_, A2, cap2, rfl, hncap2, hcap2, _⟩, _⟩ := hs
  unfold maxLen at hcap hcap2
  obtain ⟨U, hU⟩ : ∃ U, U = w.alloc (.cells #[.int .i64 one, .int .i64 bud, .int .i64 sp, .slice A l.length cap] 34) := ⟨_, rfl⟩
  have hx : Blk U w.heap.size 34 #[.int .i64 one, .int .i64 bud, .int .i64 sp, .slice A l.length cap] := by rw [hU]; exact Blk.new w _ _
  have hBU : Below w.heap.size w U := by rw [hU]; exact (Below.refl _ _).alloc (Nat.le_refl _) _
  have HX0 := Lib.hid hx
  have HB0 := Lib.hid hBU
  have HLU := Lib.hid (HL.out.grow hBU).1
  have hsU : w.heap.size < U.heap.size := hx.lt
  clear hx hBU
  go_enter Try.func4, Try.ntmps4
  go_wp2_with (first
    | (rw [← hU]; at_builtin; refine wpList_app _ rfl (.const (.slice none 0 0)) (.tmp 23) et_held rfl U.heap.size (.slice none 0 0) 0 [] rfl (World.ownsRow_nil _ _ _ _) R _ l.length (hcells l) rfl HLU.out (hcells_one l) (by omega) (by unfold maxLen; omega) (Nat.le_refl _) ?_; intro A3 c3 w3 hown hg hloc; rw [Nat.zero_add, List.nil_append] at hown; rw [Nat.zero_add]; have hb3 := (Below.refl U.heap.size U).grown hg (Nat.le_refl _) (fun g e => by simp [Value.ownBlock] at e); have hs3 := hb3.size; have HN3 := Lib.hid hown; have HB3 := Lib.hid hb3; clear hown hg hloc hb3 hU)
    | (at_builtin; refine wpList_app _ rfl (.tmp 24) (.tmp 26) et_held rfl U.heap.size (.slice A3 l.length c3) l.length (hcells l) rfl (own_grow HN3.out ((Below.refl w3.heap.size w3).alloc (Nat.le_refl _) (.cells #[.int .i64 771, .int .i64 0] 29))) (fun _ => True) (.slice (some ⟨w3.heap.size, 0, none⟩) 1 1) 1 [.int .i64 771, .int .i64 0] rfl (slBlk (sz := 2) (cs := #[.int .i64 771, .int .i64 0]) (Blk.new w3 29 _) (Nat.le_refl 1) (by unfold maxLen; omega) rfl) (by simp [Value.oneCell']) (by omega) (by unfold maxLen; omega) (by simp; omega) ?_; intro A4 c4 w4 hown hg hloc; have hb4 := (HB3.out.alloc hs3 (.cells #[.int .i64 771, .int .i64 0] 29)).grown hg (by simp; omega) (fun g' e => (HN3.out.lt g' e).1); rw [show hcells l ++ [.int .i64 771, .int .i64 0] = hcells (l ++ [(771, 0)]) from by rw [hcells_append]; rfl] at hown; have hs4 := hb4.size; obtain ⟨gm, cm, hform, hgm, hgm2⟩ := World.ownsRow.form hown (by omega); injection hform with hA4 hX4 hc4; clear hX4; subst hA4 hc4; have hx4 := HX0.out.grow hb4; have x0 : w4.cell? ⟨w.heap.size, 0, none⟩ = some (.int .i64 one) := hx4.cell 0; have HN4 := Lib.hid hown; have HB4 := Lib.hid hb4; have HX4 := Lib.hid hx4; clear hown hg hloc hb4 hx4))
  refine (new_u one w4).mono ?_
  rintro e w5 ⟨hb5, t0, b0, m0, rfl, hc0⟩
  have HX5 := Lib.hid (HX4.out.grow hb5)
  have HB5 := Lib.hid (HB4.out.trans (hb5.mono HB4.out.size))
  have HN5 := Lib.hid (own_grow HN4.out hb5)
  have HT0 := Lib.hid hc0
  have hs5 := hb5.size
  have hx5 := HX5.out
  obtain ⟨e0, he0⟩ : ∃ z, z = newE one := ⟨_, rfl⟩
  rw [← he0]
  have HE0 := Lib.hid he0
  have x1 : w5.cell? ⟨w.heap.size, 1, none⟩ = some (.int .i64 bud) := hx5.cell 1
  have x2 : w5.cell? ⟨w.heap.size, 2, none⟩ = some (.int .i64 sp) := hx5.cell 2
  have x3 : w5.cell? ⟨w.heap.size, 3, none⟩ = some (.slice A l.length cap) := hx5.cell 3
  have lx5 := hx5.lt
  obtain ⟨_, _, _, hv9, hnc9, hcm9, _⟩ := Sl.of_own HN4.out
  injection hv9 with hA9 hX9 hc9
  clear hX9
  subst hA9 hc9
  have hsl1 : (0 : Int) ≤ (l.length : Int) := by omega
  have hsl2 : (l.length : Int) ≤ (c4 : Int) := by omega
  have HM5 := Lib.hid (show Helds w5 (fun _ => True) (.slice (some ⟨gm, 0, none⟩) l.length c4) l from ⟨(sl_front (Sl.of_own (by simpa using HN5.out))).mono fun _ _ _ => trivial, HWF.out⟩)
  clear hb5 hc0 hx5 he0 x0
  go_wp2_with fail
  refine wp_region_F (Below w5.heap.size w5) [] (by kernel_rfl) ((Below.refl _ _).drew) (fun hS => ?_)
  refine wpAnyF_take (i := 0) (oi := { dst := some 35, op := Go.Op.fieldAddr 34 (Go.Operand.tmp 2) 1, type := 0, pos := "law.go:110", after := #[], guard := none }) (v := ?_) rfl (by kernel_rfl) (by kernel_rfl) (by kernel_rfl) (by kernel_rfl) (fun _ _ _ h => h) (Or.inl ⟨by rfl, ?_⟩) hS ?_
  rotate_left
  · intro w' hSw; have q1 := (hSw.cell (p := ⟨w.heap.size, 1, none⟩) lx5).trans x1; have q2 := (hSw.cell (p := ⟨w.heap.size, 2, none⟩) lx5).trans x2; have q3 := (hSw.cell (p := ⟨w.heap.size, 3, none⟩) lx5).trans x3; go_simp; try with_reducible rfl
  try simp only [Act.put, List.setIfInBounds_toArray, List.set_cons_zero, List.set_cons_succ]
  refine wpAnyF_take (i := 1) (oi := { dst := some 36, op := Go.Op.load 2 (Go.Operand.tmp 35), type := 2, pos := "law.go:110", after := #[{ on := 0, ground := Go.Ground.data }], guard := none }) (v := ?_) rfl (by kernel_rfl) (by kernel_rfl) (by kernel_rfl) (by kernel_rfl) (fun _ _ _ h => h) (Or.inl ⟨by rfl, ?_⟩) hS ?_
  rotate_left
  · intro w' hSw; have q1 := (hSw.cell (p := ⟨w.heap.size, 1, none⟩) lx5).trans x1; have q2 := (hSw.cell (p := ⟨w.heap.size, 2, none⟩) lx5).trans x2; have q3 := (hSw.cell (p := ⟨w.heap.size, 3, none⟩) lx5).trans x3; go_simp; try with_reducible rfl
  try simp only [Act.put, List.setIfInBounds_toArray, List.set_cons_zero, List.set_cons_succ]
  refine wpAnyF_take (i := 2) (oi := { dst := some 37, op := Go.Op.fieldAddr 34 (Go.Operand.tmp 2) 2, type := 0, pos := "law.go:110", after := #[], guard := none }) (v := ?_) rfl (by kernel_rfl) (by kernel_rfl) (by kernel_rfl) (by kernel_rfl) (fun _ _ _ h => h) (Or.inl ⟨by rfl, ?_⟩) hS ?_
  rotate_left
  · intro w' hSw; have q1 := (hSw.cell (p := ⟨w.heap.size, 1, none⟩) lx5).trans x1; have q2 := (hSw.cell (p := ⟨w.heap.size, 2, none⟩) lx5).trans x2; have q3 := (hSw.cell (p := ⟨w.heap.size, 3, none⟩) lx5).trans x3; go_simp; try with_reducible rfl
  try simp only [Act.put, List.setIfInBounds_toArray, List.set_cons_zero, List.set_cons_succ]
  refine wpAnyF_take (i := 3) (oi := { dst := some 38, op := Go.Op.load 2 (Go.Operand.tmp 37), type := 2, pos := "law.go:110", after := #[{ on := 2, ground := Go.Ground.data }], guard := none }) (v := ?_) rfl (by kernel_rfl) (by kernel_rfl) (by kernel_rfl) (by kernel_rfl) (fun _ _ _ h => h) (Or.inl ⟨by rfl, ?_⟩) hS ?_
  rotate_left
  · intro w' hSw; have q1 := (hSw.cell (p := ⟨w.heap.size, 1, none⟩) lx5).trans x1; have q2 := (hSw.cell (p := ⟨w.heap.size, 2, none⟩) lx5).trans x2; have q3 := (hSw.cell (p := ⟨w.heap.size, 3, none⟩) lx5).trans x3; go_simp; try with_reducible rfl
  try simp only [Act.put, List.setIfInBounds_toArray, List.set_cons_zero, List.set_cons_succ]
  refine wpAnyF_take (i := 4) (oi := { dst := some 39, op := Go.Op.move (Go.Operand.tmp 5), type := 22, pos := "law.go:110", after := #[], guard := none }) (v := ?_) rfl (by kernel_rfl) (by kernel_rfl) (by kernel_rfl) (by kernel_rfl) (fun _ _ _ h => h) (Or.inl ⟨by rfl, ?_⟩) hS ?_
  rotate_left
  · intro w' hSw; have q1 := (hSw.cell (p := ⟨w.heap.size, 1, none⟩) lx5).trans x1; have q2 := (hSw.cell (p := ⟨w.heap.size, 2, none⟩) lx5).trans x2; have q3 := (hSw.cell (p := ⟨w.heap.size, 3, none⟩) lx5).trans x3; go_simp; try with_reducible rfl
  try simp only [Act.put, List.setIfInBounds_toArray, List.set_cons_zero, List.set_cons_succ]
  refine wpAnyF_take (i := 5) (oi := { dst := some 40, op := Go.Op.fieldAddr 34 (Go.Operand.tmp 2) 3, type := 0, pos := "law.go:110", after := #[], guard := none }) (v := ?_) rfl (by kernel_rfl) (by kernel_rfl) (by kernel_rfl) (by kernel_rfl) (fun _ _ _ h => h) (Or.inl ⟨by rfl, ?_⟩) hS ?_
  rotate_left
  · intro w' hSw; have q1 := (hSw.cell (p := ⟨w.heap.size, 1, none⟩) lx5).trans x1; have q2 := (hSw.cell (p := ⟨w.heap.size, 2, none⟩) lx5).trans x2; have q3 := (hSw.cell (p := ⟨w.heap.size, 3, none⟩) lx5).trans x3; go_simp; try with_reducible rfl
  try simp only [Act.put, List.setIfInBounds_toArray, List.set_cons_zero, List.set_cons_succ]
  refine wpAnyF_take (i := 6) (oi := { dst := some 41, op := Go.Op.load 22 (Go.Operand.tmp 40), type := 22, pos := "law.go:110", after := #[{ on := 5, ground := Go.Ground.data }], guard := none }) (v := ?_) rfl (by kernel_rfl) (by kernel_rfl) (by kernel_rfl) (by kernel_rfl) (fun _ _ _ h => h) (Or.inl ⟨by rfl, ?_⟩) hS ?_
  rotate_left
  · intro w' hSw; have q1 := (hSw.cell (p := ⟨w.heap.size, 1, none⟩) lx5).trans x1; have q2 := (hSw.cell (p := ⟨w.heap.size, 2, none⟩) lx5).trans x2; have q3 := (hSw.cell (p := ⟨w.heap.size, 3, none⟩) lx5).trans x3; go_simp; try with_reducible rfl
  try simp only [Act.put, List.setIfInBounds_toArray, List.set_cons_zero, List.set_cons_succ]
  refine wpAnyF_take (i := 7) (oi := { dst := some 42, op := Go.Op.call { callee := Go.Callee.builtin Go.Builtin.len, args := #[Go.Operand.tmp 41], argTypes := #[22] }, type := 3, pos := "law.go:110", after := #[{ on := 6, ground := Go.Ground.data }], guard := none }) (v := ?_) rfl (by kernel_rfl) (by kernel_rfl) (by kernel_rfl) (by kernel_rfl) (fun _ _ _ h => h) (Or.inl ⟨by rfl, ?_⟩) hS ?_
  rotate_left
  · intro w' hSw; have q1 := (hSw.cell (p := ⟨w.heap.size, 1, none⟩) lx5).trans x1; have q2 := (hSw.cell (p := ⟨w.heap.size, 2, none⟩) lx5).trans x2; have q3 := (hSw.cell (p := ⟨w.heap.size, 3, none⟩) lx5).trans x3; go_simp; try with_reducible rfl
  try simp only [Act.put, List.setIfInBounds_toArray, List.set_cons_zero, List.set_cons_succ]
  refine wpAnyF_take (i := 8) (oi := { dst := some 43, op := Go.Op.slice 22 (Go.Operand.tmp 39) none (some (Go.Operand.tmp 42)) none, type := 22, pos := "law.go:110", after := #[{ on := 4, ground := Go.Ground.data }, { on := 7, ground := Go.Ground.data }], guard := none }) (v := ?_) rfl (by kernel_rfl) (by kernel_rfl) (by kernel_rfl) (by kernel_rfl) (fun _ _ _ h => h) (Or.inl ⟨by rfl, ?_⟩) hS ?_
  rotate_left
  · intro w' hSw; have q1 := (hSw.cell (p := ⟨w.heap.size, 1, none⟩) lx5).trans x1; have q2 := (hSw.cell (p := ⟨w.heap.size, 2, none⟩) lx5).trans x2; have q3 := (hSw.cell (p := ⟨w.heap.size, 3, none⟩) lx5).trans x3; go_simp; try with_reducible rfl
  try simp only [Act.put, List.setIfInBounds_toArray, List.set_cons_zero, List.set_cons_succ]
  refine wpAnyF_ready (rs := [9]) (by kernel_rfl) (by simp) ?_
  refine AllReadyF.cons (o := { dst := some 44, op := Go.Op.call { callee := Go.Callee.value (Go.Operand.func 11), args := #[Go.Operand.tmp 36, Go.Operand.tmp 38, Go.Operand.tmp 43], argTypes := #[2, 2, 22] }, type := 25, pos := "law.go:110", after := #[{ on := 1, ground := Go.Ground.data }, { on := 3, ground := Go.Ground.data }, { on := 8, ground := Go.Ground.data }], guard := none }) rfl (by rfl) (fun K hK => ?_) ?_
  · go_simp
    refine (of_u (bud := bud) (sp := sp) (HM5.out.grow hS)).mono ?_
    rintro e w6 ⟨hb6, t1, b1, m1, rfl, hc1⟩
    refine hK.out _ _ ?_ (fun hS => ?_)
    · exact hS.trans (hb6.mono hS.size)
    clear hK K
    try simp only [Act.put, List.setIfInBounds_toArray, List.set_cons_zero, List.set_cons_succ]
    have HT1 := Lib.hid (show CopyA w6 w5.heap.size t1 b1 m1 l.length (fOf bud sp l) from hc1)
    clear hb6 hc1
    refine wpAnyF_take (i := 10) (oi := { dst := some 34, op := Go.Op.move (Go.Operand.tmp 44), type := 25, pos := "law.go:110", after := #[{ on := 9, ground := Go.Ground.data }], guard := none }) (v := ?_) rfl (by kernel_rfl) (by kernel_rfl) (by kernel_rfl) (by kernel_rfl) (fun _ _ _ h => h) (Or.inl ⟨by rfl, ?_⟩) hS ?_
    rotate_left
    · intro w' hSw; have q1 := (hSw.cell (p := ⟨w.heap.size, 1, none⟩) lx5).trans x1; have q2 := (hSw.cell (p := ⟨w.heap.size, 2, none⟩) lx5).trans x2; have q3 := (hSw.cell (p := ⟨w.heap.size, 3, none⟩) lx5).trans x3; go_simp; try with_reducible rfl
    try simp only [Act.put, List.setIfInBounds_toArray, List.set_cons_zero, List.set_cons_succ]
    refine wpAnyF_take (i := 11) (oi := { dst := some 45, op := Go.Op.extract (Go.Operand.tmp 34) 0, type := 23, pos := "law.go:110", after := #[{ on := 10, ground := Go.Ground.data }], guard := none }) (v := ?_) rfl (by kernel_rfl) (by kernel_rfl) (by kernel_rfl) (by kernel_rfl) (fun _ _ _ h => h) (Or.inl ⟨by rfl, ?_⟩) hS ?_
    rotate_left
    · intro w' hSw; have q1 := (hSw.cell (p := ⟨w.heap.size, 1, none⟩) lx5).trans x1; have q2 := (hSw.cell (p := ⟨w.heap.size, 2, none⟩) lx5).trans x2; have q3 := (hSw.cell (p := ⟨w.heap.size, 3, none⟩) lx5).trans x3; go_simp; try with_reducible rfl
    try simp only [Act.put, List.setIfInBounds_toArray, List.set_cons_zero, List.set_cons_succ]
    refine wpAnyF_take (i := 12) (oi := { dst := some 46, op := Go.Op.extract (Go.Operand.tmp 34) 1, type := 24, pos := "law.go:110", after := #[{ on := 10, ground := Go.Ground.data }, { on := 13, ground := Go.Ground.gcOnly Go.Departure.lateStores }], guard := none }) (v := ?_) rfl (by kernel_rfl) (by kernel_rfl) (by kernel_rfl) (by kernel_rfl) (fun _ _ _ h => h) (Or.inl ⟨by rfl, ?_⟩) hS ?_
    rotate_left
    · intro w' hSw; have q1 := (hSw.cell (p := ⟨w.heap.size, 1, none⟩) lx5).trans x1; have q2 := (hSw.cell (p := ⟨w.heap.size, 2, none⟩) lx5).trans x2; have q3 := (hSw.cell (p := ⟨w.heap.size, 3, none⟩) lx5).trans x3; go_simp; try with_reducible rfl
    try simp only [Act.put, List.setIfInBounds_toArray, List.set_cons_zero, List.set_cons_succ]
    refine wpAnyF_take (i := 13) (oi := { dst := some 8, op := Go.Op.assign (Go.Operand.tmp 45), type := 23, pos := "law.go:110", after := #[{ on := 11, ground := Go.Ground.data }, { on := 9, ground := Go.Ground.chain }, { on := 0, ground := Go.Ground.phase }, { on := 1, ground := Go.Ground.phase }, { on := 2, ground := Go.Ground.phase }, { on := 3, ground := Go.Ground.phase }, { on := 4, ground := Go.Ground.phase }, { on := 5, ground := Go.Ground.phase }, { on := 6, ground := Go.Ground.phase }, { on := 7, ground := Go.Ground.phase }, { on := 8, ground := Go.Ground.phase }, { on := 9, ground := Go.Ground.phase }, { on := 10, ground := Go.Ground.phase }, { on := 11, ground := Go.Ground.phase }, { on := 12, ground := Go.Ground.textOnly Go.Departure.lateStores }], guard := none }) (v := ?_) rfl (by kernel_rfl) (by kernel_rfl) (by kernel_rfl) (by kernel_rfl) (fun _ _ _ h => h) (Or.inl ⟨by rfl, ?_⟩) hS ?_
    rotate_left
    · intro w' hSw; have q1 := (hSw.cell (p := ⟨w.heap.size, 1, none⟩) lx5).trans x1; have q2 := (hSw.cell (p := ⟨w.heap.size, 2, none⟩) lx5).trans x2; have q3 := (hSw.cell (p := ⟨w.heap.size, 3, none⟩) lx5).trans x3; go_simp; try with_reducible rfl
    try simp only [Act.put, List.setIfInBounds_toArray, List.set_cons_zero, List.set_cons_succ]
    refine wpAnyF_take (i := 14) (oi := { dst := some 9, op := Go.Op.assign (Go.Operand.tmp 46), type := 24, pos := "law.go:110", after := #[{ on := 12, ground := Go.Ground.data }, { on := 13, ground := Go.Ground.chain }, { on := 0, ground := Go.Ground.phase }, { on := 1, ground := Go.Ground.phase }, { on := 2, ground := Go.Ground.phase }, { on := 3, ground := Go.Ground.phase }, { on := 4, ground := Go.Ground.phase }, { on := 5, ground := Go.Ground.phase }, { on := 6, ground := Go.Ground.phase }, { on := 7, ground := Go.Ground.phase }, { on := 8, ground := Go.Ground.phase }, { on := 9, ground := Go.Ground.phase }, { on := 10, ground := Go.Ground.phase }, { on := 11, ground := Go.Ground.phase }, { on := 12, ground := Go.Ground.phase }, { on := 13, ground := Go.Ground.phase }], guard := none }) (v := ?_) rfl (by kernel_rfl) (by kernel_rfl) (by kernel_rfl) (by kernel_rfl) (fun _ _ _ h => h) (Or.inl ⟨by rfl, ?_⟩) hS ?_
    rotate_left
    · intro w' hSw; have q1 := (hSw.cell (p := ⟨w.heap.size, 1, none⟩) lx5).trans x1; have q2 := (hSw.cell (p := ⟨w.heap.size, 2, none⟩) lx5).trans x2; have q3 := (hSw.cell (p := ⟨w.heap.size, 3, none⟩) lx5).trans x3; go_simp; try with_reducible rfl
    try simp only [Act.put, List.setIfInBounds_toArray, List.set_cons_zero, List.set_cons_succ]
    refine wpAnyF_done (by kernel_rfl) ?_ _
    have HX6 := Lib.hid (HX5.out.grow hS)
    have HB6 := Lib.hid (HB5.out.trans (hS.mono HB5.out.size))
    have HN6 := Lib.hid (own_grow HN5.out hS)
    have hs6 := hS.size
    obtain ⟨e1, he1⟩ : ∃ z, z = ofE bud sp l := ⟨_, rfl⟩
    rw [← he1]
    have HE1 := Lib.hid he1
    have HT06 := Lib.hid (HT0.out.grow hS)
    obtain ⟨w6', hw6'⟩ : ∃ W : World, W = w6 := ⟨_, rfl⟩
    have hx6 := HX6.out
    clear x1 x2 x3 hS he1 hw6' w6'
    have x0 : w6.cell? ⟨w.heap.size, 0, none⟩ = some (.int .i64 one) := hx6.cell 0
    clear hx6
    go_wp2_with fail
    refine (refNew_u one w6).mono ?_
    rintro e w7 ⟨hb7, r0, g0, rfl, hc7⟩
    rw [← HE0.out]
    have HX7 := Lib.hid (HX6.out.grow hb7)
    have HB7 := Lib.hid (HB6.out.trans (hb7.mono HB6.out.size))
    have HN7 := Lib.hid (own_grow HN6.out hb7)
    have HT07 := Lib.hid (HT06.out.grow hb7)
    have HT17 := Lib.hid (HT1.out.grow hb7)
    have HR07 := Lib.hid hc7
    have hs7 := hb7.size
    have hx7 := HX7.out
    clear hb7 hc7 x0
    have x1 : w7.cell? ⟨w.heap.size, 1, none⟩ = some (.int .i64 bud) := hx7.cell 1
    have x2 : w7.cell? ⟨w.heap.size, 2, none⟩ = some (.int .i64 sp) := hx7.cell 2
    have x3 : w7.cell? ⟨w.heap.size, 3, none⟩ = some (.slice A l.length cap) := hx7.cell 3
    have HL7 := Lib.hid (HL.out.grow (HB0.out.trans (HB7.out.mono (by omega))))
    clear hx7
    go_wp2_with fail
    refine (refOf_u (bud := bud) (sp := sp) HL7.out).mono ?_
    rintro e w8 ⟨hb8, r1, g1, rfl, hc8⟩
    rw [← HE1.out]
    have HX8 := Lib.hid (HX7.out.grow hb8)
    have HB8 := Lib.hid (HB7.out.trans (hb8.mono HB7.out.size))
    have HN8 := Lib.hid (own_grow HN7.out hb8)
    have HT08 := Lib.hid (HT07.out.grow hb8)
    have HT18 := Lib.hid (HT17.out.grow hb8)
    have HR08 := Lib.hid (HR07.out.grow hb8)
    have HR18 := Lib.hid hc8
    have hs8 := hb8.size
    have hx8 := HX8.out
    clear hb8 hc8 x1 x2 x3
    have x3 : w8.cell? ⟨w.heap.size, 3, none⟩ = some (.slice A l.length cap) := hx8.cell 3
    have hm8 := HN8.out.cellAt (l.length * 2) (by omega)
    rw [hcells_fst (l ++ [(771, 0)]) l.length (771, 0) (by simp)] at hm8
    have hm8 : w8.cell? ⟨gm, l.length * 2, none⟩ = some (.int .i64 771) := hm8
    have hsl3 : (l.length : Int) < ((l.length + 1 : Nat) : Int) := by omega
    have hsl4 : (l.length : Int) < (l.length : Int) + 1 := by omega
    obtain ⟨z0, hz0⟩ : ∃ z, z = !(fNew one).there := ⟨_, rfl⟩
    obtain ⟨z1, hz1⟩ : ∃ z, z = !(fOf bud sp l).there := ⟨_, rfl⟩
    have i0 : t0.isNone = z0 := HT08.out.none_.trans hz0.symm
    have i1 : t1.isNone = z1 := HT18.out.none_.trans hz1.symm
    have i2 : r0.isNone = z0 := HR08.out.none_.trans hz0.symm
    have i3 : r1.isNone = z1 := HR18.out.none_.trans hz1.symm
    clear hx8 hz0 hz1
    go_wp2_with fail
    refine (num_any _ _).mono ?_
    rintro e w9 ⟨rfl, hw9⟩
    rw [hw9]
    clear hw9
    go_wp2_with fail
    refine (num_any _ _).mono ?_
    rintro e w9 ⟨rfl, hw9⟩
    rw [hw9]
    clear hw9
    go_wp2_with fail
    have hcm : ∀ (j : Nat) (o : Int × Int), l[j]? = some o → w8.cell? ⟨gm, j * 2, none⟩ = some (.int .i64 o.1) ∧ w8.cell? ⟨gm, j * 2 + 1, none⟩ = some (.int .i64 o.2) := fun j o ho => by
      have hj := (List.getElem?_eq_some_iff.1 ho).1
      have ho2 : (l ++ [((771 : Int), (0 : Int))])[j]? = some o := by rw [List.getElem?_append_left hj]; exact ho
      refine ⟨?_, ?_⟩
      · rw [HN8.out.cellAt (j * 2) (by omega)]; exact hcells_fst _ j o ho2
      · rw [HN8.out.cellAt (j * 2 + 1) (by omega)]; exact hcells_snd _ j o ho2
    have HCM := Lib.hid hcm
    have HFM := Lib.hid (fun j => own_frozen HN8.out j)
    have hneq := neq_held
    clear hcm x3 hm8
    go_loopw [14] (fun i wr => ∃ k : Nat, k ≤ l.length ∧ i = .int .i64 k ∧ Chg (· = gm) w8 wr ∧ (∀ j, k ≤ j → ∀ o, l[j]? = some o → wr.cell? ⟨gm, j * 2, none⟩ = some (.int .i64 o.1) ∧ wr.cell? ⟨gm, j * 2 + 1, none⟩ = some (.int .i64 o.2)) ∧ (∀ j, wr.frozen? ⟨gm, j, none⟩ = false)) (fun i _ => l.length - (intOf i).toNat)
    case atStart => exact ⟨0, Nat.zero_le _, rfl, Chg.refl _ _, fun j _ o ho => HCM.out j o ho, HFM.out⟩
    case round =>
      obtain ⟨k, hk, rfl, hch, hce, hfz⟩ := hrel
      have HCH := Lib.hid hch
      have HCE := Lib.hid hce
      have HFZ := Lib.hid hfz
      have hX := HX8.out.chg hch (by omega)
      have x3 : wr.cell? ⟨w.heap.size, 3, none⟩ = some (.slice A l.length cap) := hX.cell 3
      have hsr := hch.size
      clear hch hce hfz hX
      by_cases hlt : k < l.length
      · obtain ⟨o, ho⟩ : ∃ o, l[k]? = some o := ⟨_, List.getElem?_eq_getElem hlt⟩
        obtain ⟨c0, c1⟩ := HCE.out k (Nat.le_refl _) o ho
        obtain ⟨bq, off, rfl, hbq, q0, q1⟩ := HL.out.at_ ho
        have d0 : wr.cell? ⟨bq, off + k * 2, none⟩ = some (.int .i64 o.1) := (World.cell?_of_block (a := ⟨bq, off + k * 2, none⟩) (HCH.out.block bq (by omega) (by omega))).trans (((HB0.out.trans (HB8.out.mono (by omega))).cell (p := ⟨bq, off + k * 2, none⟩) hbq).trans q0)
        have d1 : wr.cell? ⟨bq, off + k * 2 + 1, none⟩ = some (.int .i64 o.2) := (World.cell?_of_block (a := ⟨bq, off + k * 2 + 1, none⟩) (HCH.out.block bq (by omega) (by omega))).trans (((HB0.out.trans (HB8.out.mono (by omega))).cell (p := ⟨bq, off + k * 2 + 1, none⟩) hbq).trans q1)
        have f0 := HFZ.out (k * 2)
        have f1 := HFZ.out (k * 2 + 1)
        obtain ⟨ol, oc⟩ := o
        simp only at c0 c1 d0 d1
        have j1 : (0 : Int) ≤ (k : Int) := by omega
        have j2 : (k : Int) < (l.length : Int) := by omega
        have j3 : (k : Int) < ((l.length + 1 : Nat) : Int) := by omega
        have j4 : (k : Int) < (l.length : Int) + 1 := by omega
        clear ho q0 q1
        go_wp2_with fail
        go_quiet (fail)
        go_wp2_with fail
        go_roundw
        case rel =>
          have hc2 : Chg (· = gm) wr (((wr.drewN nq).setCell ⟨gm, k * 2, none⟩ (.int .i64 9)).setCell ⟨gm, k * 2 + 1, none⟩ (.int .i64 9)) := (((Chg.refl (· = gm) wr).drewN nq).step (Chg.set _ ⟨gm, k * 2, none⟩ _) fun _ _ e => e).step (Chg.set _ ⟨gm, k * 2 + 1, none⟩ _) fun _ _ e => e
          refine ⟨k + 1, by omega, by go_num, HCH.out.trans hc2, fun j hj o' ho' => ?_, fun j => ?_⟩
          · obtain ⟨s1, s2⟩ := HCE.out j (by omega) o' ho'
            refine ⟨?_, ?_⟩
            · rw [World.cell?_setCell_other _ ⟨gm, k * 2 + 1, none⟩ ⟨gm, j * 2, none⟩ _ (fun e => by injection e with _ e; omega), World.cell?_setCell_other _ ⟨gm, k * 2, none⟩ ⟨gm, j * 2, none⟩ _ (fun e => by injection e with _ e; omega)]
              exact s1
            · rw [World.cell?_setCell_other _ ⟨gm, k * 2 + 1, none⟩ ⟨gm, j * 2 + 1, none⟩ _ (fun e => by injection e with _ e; omega), World.cell?_setCell_other _ ⟨gm, k * 2, none⟩ ⟨gm, j * 2 + 1, none⟩ _ (fun e => by injection e with _ e; omega)]
              exact s2
          · rw [World.frozen?_setCell, World.frozen?_setCell]
            exact HFZ.out j
        case measure => simp [intOf]; omega
      · obtain rfl : k = l.length := by omega
        obtain ⟨wq, hwq⟩ : ∃ wq : World, wq = wr := ⟨_, rfl⟩
        rw [← hwq] at HCH hsr x3 ⊢
        clear hwq HCE HFZ
        go_wp2_with fail
        obtain ⟨U9, hU9⟩ : ∃ U, U = (wq.alloc (.cells #[.pointer t0, .pointer t1, .pointer none] 42)).alloc (.cells #[.pointer r0, .pointer r1, .pointer none] 43) := ⟨_, rfl⟩
        have hbU9 : Below wq.heap.size wq U9 := by rw [hU9]; exact ((Below.refl _ _).alloc (Nat.le_refl _) _).alloc (by simp) _
        have hgm0 : ∀ k, k = gm → k < w4.heap.size := fun k e => by omega
        have ha0 := (HT08.out.chg HCH.out (fun k e => hgm0 k e)).grow hbU9
        have ha1 := (HT18.out.chg HCH.out (fun k e => by have := hgm0 k e; omega)).grow hbU9
        have hr0 := (HR08.out.chg HCH.out (fun k e => by have := hgm0 k e; omega)).grow hbU9
        have hr1 := (HR18.out.chg HCH.out (fun k e => by have := hgm0 k e; omega)).grow hbU9
        have htrio : Trio U9 wq.heap.size (wq.heap.size + 1) (fun p => if p = 0 then t0 else if p = 1 then t1 else none) (fun p => if p = 0 then r0 else if p = 1 then r1 else none) (fun p => if p = 0 then b0 else b1) (fun p => if p = 0 then m0 else m1) (fun p => if p = 0 then g0 else g1) l.length (fun p => if p = 0 then fNew one else if p = 1 then fOf bud sp l else .nil) := by
          refine ⟨by rw [hU9]; exact (Blk.new wq _ _).alloc _, by rw [hU9]; exact Blk.new' _ _ (by simp), fun p hp => ?_, fun p q hp hq hne h1 h2 => ?_⟩
          · rcases p with _ | _ | _ | p
            · exact copy_pairF ha0 hr0 fNew_ok (Nat.zero_le _)
            · exact copy_pairF ha1 hr1 (fOf_ok HWF.out) (Nat.le_refl _)
            · exact ⟨rfl, rfl⟩
            · omega
          · have k1 : (fNew one).there = true → b0 < w5.heap.size ∧ m0 < w5.heap.size ∧ g0 < w7.heap.size := fun h => ⟨(HT0.out.lt h).1, (HT0.out.lt h).2.1, (HR07.out.lt h).1⟩
            have k2 : (fOf bud sp l).there = true → w5.heap.size ≤ b1 ∧ w5.heap.size ≤ m1 ∧ w7.heap.size ≤ g1 := fun h => ⟨(HT1.out.lt h).2.2.1, (HT1.out.lt h).2.2.2, (HR18.out.lt h).2⟩
            rcases p with _ | _ | _ | p
            · rcases q with _ | _ | _ | q
              · exact absurd rfl hne
              · have := k1 h1; have := k2 h2; show b0 ≠ b1 ∧ m0 ≠ m1 ∧ g0 ≠ g1; omega
              · cases h2
              · omega
            · rcases q with _ | _ | _ | q
              · have := k1 h2; have := k2 h1; show b1 ≠ b0 ∧ m1 ≠ m0 ∧ g1 ≠ g0; omega
              · exact absurd rfl hne
              · cases h2
              · omega
            · cases h1
            · omega
        have hlow : Low w.heap.size (fun p => if p = 0 then b0 else b1) (fun p => if p = 0 then m0 else m1) (fun p => if p = 0 then g0 else g1) (fun p => if p = 0 then fNew one else if p = 1 then fOf bud sp l else .nil) := fun p hp h1 => by
          rcases p with _ | _ | _ | p
          · have z1 := HT0.out.lt h1
            have z2 := HR07.out.lt h1
            show w.heap.size ≤ b0 ∧ w.heap.size ≤ m0 ∧ w.heap.size ≤ g0
            omega
          · have z1 := HT1.out.lt h1
            have z2 := HR18.out.lt h1
            show w.heap.size ≤ b1 ∧ w.heap.size ≤ m1 ∧ w.heap.size ≤ g1
            omega
          · cases h1
          · omega
        have HB9' := Lib.hid ((HB0.out.trans (HB8.out.mono (by omega))).trans ((HCH.out.below (B := w.heap.size) (by omega) (fun k hk e => by omega)).trans (hbU9.mono (by omega))))
        have HTRI := Lib.hid htrio
        have HLOWI := Lib.hid hlow
        rw [← hU9]
        clear hU9 hbU9 hgm0 ha0 ha1 hr0 hr1 htrio hlow x3 hneq
        go_loopw [17] (fun i wr => ∃ (k : Nat) (tv rv : Nat → Option Addr) (b m g : Nat → Nat) (f : Nat → Fm), k ≤ script.length ∧ i = .int .i64 k ∧ Trio wr wq.heap.size (wq.heap.size + 1) tv rv b m g (l.length + k) f ∧ Low w.heap.size b m g f ∧ Below w.heap.size w wr) (fun i _ => script.length - (intOf i).toNat)
        case atStart => exact ⟨0, _, _, _, _, _, _, Nat.zero_le _, rfl, HTRI.out, HLOWI.out, HB9'.out⟩
        case round =>
          obtain ⟨k, tv, rv, b, m, g, f, hk, rfl, htr, hlow, hb⟩ := hrel
          have HLOW := Lib.hid hlow
          have hsR := hb.size
          have hBBr := htr.ra.lt
          by_cases hlt : k < script.length
          · obtain ⟨s, hss⟩ : ∃ s, script[k]? = some s := ⟨_, List.getElem?_eq_getElem hlt⟩
            obtain ⟨bq, off, rfl, hbq, q0, q1, q2, q3, q4⟩ := (HS.out.grow hb).at_ hss
            have HWS := Lib.hid (HSW.out s (List.mem_of_getElem? hss))
            have n1 : (0 : Int) ≤ (k : Int) := by omega
            have n2 : (k : Int) < (script.length : Int) := by omega
            have HTR := Lib.hid htr
            have HBr := Lib.hid hb
            clear htr hlow hb hss
            go_wp2_with fail
            obtain ⟨V, hV⟩ : ∃ V, V = wr.alloc (.cells #[.int .i64 s.kind, .int .i64 s.who, .int .i64 s.to, .int .i64 s.lot, .int .i64 s.coins] 45) := ⟨_, rfl⟩
            have hy : Blk V wr.heap.size 45 #[.int .i64 s.kind, .int .i64 s.who, .int .i64 s.to, .int .i64 s.lot, .int .i64 s.coins] := by rw [hV]; exact Blk.new wr _ _
            have hBV : Below wr.heap.size wr V := by rw [hV]; exact (Below.refl _ _).alloc (Nat.le_refl _) _
            rw [← hV]
            have HYV := Lib.hid hy
            have HTRV' := Lib.hid (HTR.out.grow hBV)
            have HBV' := Lib.hid (HBr.out.trans (hBV.mono HBr.out.size))
            have y1 : V.cell? ⟨wr.heap.size, 1, none⟩ = some (.int .i64 s.who) := hy.cell 1
            have y2 : V.cell? ⟨wr.heap.size, 2, none⟩ = some (.int .i64 s.to) := hy.cell 2
            have ly := hy.lt
            clear hV hy hBV q0 q1 q2 q3 q4
            refine wp_region_F (Below V.heap.size V) [] (by kernel_rfl) ((Below.refl _ _).drew) (fun hS => ?_)
            refine wpAnyF_take (i := 0) (oi := { dst := some 134, op := Go.Op.fieldAddr 45 (Go.Operand.tmp 18) 1, type := 0, pos := "law.go:126", after := #[], guard := none }) (v := ?_) rfl (by kernel_rfl) (by kernel_rfl) (by kernel_rfl) (by kernel_rfl) (fun _ _ _ h => h) (Or.inl ⟨by rfl, ?_⟩) hS ?_
            rotate_left
            · intro w' hSw; have q1 := (hSw.cell (p := ⟨wr.heap.size, 1, none⟩) ly).trans y1; have q2 := (hSw.cell (p := ⟨wr.heap.size, 2, none⟩) ly).trans y2; go_simp; try with_reducible rfl
            try simp only [Act.put, List.setIfInBounds_toArray, List.set_cons_zero, List.set_cons_succ]
            refine wpAnyF_take (i := 1) (oi := { dst := some 135, op := Go.Op.load 3 (Go.Operand.tmp 134), type := 3, pos := "law.go:126", after := #[{ on := 0, ground := Go.Ground.data }], guard := none }) (v := ?_) rfl (by kernel_rfl) (by kernel_rfl) (by kernel_rfl) (by kernel_rfl) (fun _ _ _ h => h) (Or.inl ⟨by rfl, ?_⟩) hS ?_
            rotate_left
            · intro w' hSw; have q1 := (hSw.cell (p := ⟨wr.heap.size, 1, none⟩) ly).trans y1; have q2 := (hSw.cell (p := ⟨wr.heap.size, 2, none⟩) ly).trans y2; go_simp; try with_reducible rfl
            try simp only [Act.put, List.setIfInBounds_toArray, List.set_cons_zero, List.set_cons_succ]
            refine wpAnyF_take (i := 3) (oi := { dst := some 137, op := Go.Op.fieldAddr 45 (Go.Operand.tmp 18) 2, type := 0, pos := "law.go:126", after := #[], guard := none }) (v := ?_) rfl (by kernel_rfl) (by kernel_rfl) (by kernel_rfl) (by kernel_rfl) (fun _ _ _ h => h) (Or.inl ⟨by rfl, ?_⟩) hS ?_
            rotate_left
            · intro w' hSw; have q1 := (hSw.cell (p := ⟨wr.heap.size, 1, none⟩) ly).trans y1; have q2 := (hSw.cell (p := ⟨wr.heap.size, 2, none⟩) ly).trans y2; go_simp; try with_reducible rfl
            try simp only [Act.put, List.setIfInBounds_toArray, List.set_cons_zero, List.set_cons_succ]
            refine wpAnyF_take (i := 4) (oi := { dst := some 138, op := Go.Op.load 3 (Go.Operand.tmp 137), type := 3, pos := "law.go:126", after := #[{ on := 3, ground := Go.Ground.data }], guard := none }) (v := ?_) rfl (by kernel_rfl) (by kernel_rfl) (by kernel_rfl) (by kernel_rfl) (fun _ _ _ h => h) (Or.inl ⟨by rfl, ?_⟩) hS ?_
            rotate_left
            · intro w' hSw; have q1 := (hSw.cell (p := ⟨wr.heap.size, 1, none⟩) ly).trans y1; have q2 := (hSw.cell (p := ⟨wr.heap.size, 2, none⟩) ly).trans y2; go_simp; try with_reducible rfl
            try simp only [Act.put, List.setIfInBounds_toArray, List.set_cons_zero, List.set_cons_succ]
            refine wpAnyF_ready (rs := [2]) (by kernel_rfl) (by simp) ?_
            refine AllReadyF.cons (o := { dst := some 136, op := Go.Op.call { callee := Go.Callee.value (Go.Operand.func 15), args := #[Go.Operand.tmp 135], argTypes := #[3] }, type := 3, pos := "law.go:126", after := #[{ on := 1, ground := Go.Ground.data }], guard := none }) rfl (by rfl) (fun K hK => ?_) ?_
            · go_simp
              refine (place_any s.who _).mono ?_
              rintro e w9 ⟨pw, hpw, rfl, hw9⟩
              rw [hw9]
              clear hw9
              refine hK.out _ _ ?_ (fun hS => ?_)
              · exact hS
              clear hK K
              try simp only [Act.put, List.setIfInBounds_toArray, List.set_cons_zero, List.set_cons_succ]
              refine wpAnyF_ready (rs := [5]) (by kernel_rfl) (by simp) ?_
              refine AllReadyF.cons (o := { dst := some 139, op := Go.Op.call { callee := Go.Callee.value (Go.Operand.func 15), args := #[Go.Operand.tmp 138], argTypes := #[3] }, type := 3, pos := "law.go:126", after := #[{ on := 4, ground := Go.Ground.data }, { on := 2, ground := Go.Ground.chain }], guard := none }) rfl (by rfl) (fun K hK => ?_) ?_
              · go_simp
                refine (place_any s.to _).mono ?_
                rintro e w9 ⟨pt, hpt, rfl, hw9⟩
                rw [hw9]
                clear hw9
                refine hK.out _ _ ?_ (fun hS => ?_)
                · exact hS
                clear hK K
                try simp only [Act.put, List.setIfInBounds_toArray, List.set_cons_zero, List.set_cons_succ]
                refine wpAnyF_take (i := 6) (oi := { dst := some 19, op := Go.Op.assign (Go.Operand.tmp 136), type := 3, pos := "law.go:126", after := #[{ on := 2, ground := Go.Ground.data }, { on := 5, ground := Go.Ground.chain }, { on := 0, ground := Go.Ground.phase }, { on := 1, ground := Go.Ground.phase }, { on := 2, ground := Go.Ground.phase }, { on := 3, ground := Go.Ground.textOnly Go.Departure.lateStores }, { on := 4, ground := Go.Ground.textOnly Go.Departure.lateStores }, { on := 5, ground := Go.Ground.textOnly Go.Departure.lateStoresUnsure }], guard := none }) (v := ?_) rfl (by kernel_rfl) (by kernel_rfl) (by kernel_rfl) (by kernel_rfl) (fun _ _ _ h => h) (Or.inl ⟨by rfl, ?_⟩) hS ?_
                rotate_left
                · intro w' hSw; have q1 := (hSw.cell (p := ⟨wr.heap.size, 1, none⟩) ly).trans y1; have q2 := (hSw.cell (p := ⟨wr.heap.size, 2, none⟩) ly).trans y2; go_simp; try with_reducible rfl
                try simp only [Act.put, List.setIfInBounds_toArray, List.set_cons_zero, List.set_cons_succ]
                refine wpAnyF_take (i := 7) (oi := { dst := some 20, op := Go.Op.assign (Go.Operand.tmp 139), type := 3, pos := "law.go:126", after := #[{ on := 5, ground := Go.Ground.data }, { on := 6, ground := Go.Ground.chain }, { on := 0, ground := Go.Ground.phase }, { on := 1, ground := Go.Ground.phase }, { on := 2, ground := Go.Ground.phase }, { on := 3, ground := Go.Ground.phase }, { on := 4, ground := Go.Ground.phase }, { on := 5, ground := Go.Ground.phase }, { on := 6, ground := Go.Ground.phase }], guard := none }) (v := ?_) rfl (by kernel_rfl) (by kernel_rfl) (by kernel_rfl) (by kernel_rfl) (fun _ _ _ h => h) (Or.inl ⟨by rfl, ?_⟩) hS ?_
                rotate_left
                · intro w' hSw; have q1 := (hSw.cell (p := ⟨wr.heap.size, 1, none⟩) ly).trans y1; have q2 := (hSw.cell (p := ⟨wr.heap.size, 2, none⟩) ly).trans y2; go_simp; try with_reducible rfl
                try simp only [Act.put, List.setIfInBounds_toArray, List.set_cons_zero, List.set_cons_succ]
                refine wpAnyF_done (by kernel_rfl) ?_ _
                obtain ⟨V2, hV2⟩ : ∃ W : World, W = V.drew := ⟨_, rfl⟩
                have htr := HTRV'.out.grow (Below.refl V.heap.size V).drew
                have hyb := HYV.out.grow (Below.refl V.heap.size V).drew
                have hbb := HBV'.out.trans ((Below.refl w.heap.size V).drew)
                rw [← hV2] at htr hyb hbb ⊢
                have y0 : V2.cell? ⟨wr.heap.size, 0, none⟩ = some (.int .i64 s.kind) := hyb.cell 0
                have HTR2 := Lib.hid htr
                have HY2 := Lib.hid hyb
                have HB2 := Lib.hid hbb
                have p1 : (0 : Int) ≤ (pw : Int) := by omega
                have p2 : (pw : Int) < 3 := by omega
                have p3 : (0 : Int) ≤ (pt : Int) := by omega
                have p4 : (pt : Int) < 3 := by omega
                clear hV2 htr hyb hbb hS y1 y2
                by_cases k7 : s.kind = 7
                · have d7 : (s.kind == 7) = true := by simpa using k7
                  clear k7
                  obtain ⟨V3, hV3⟩ : ∃ W : World, W = V2.drew := ⟨_, rfl⟩
                  have htr := HTR2.out.grow (Below.refl V2.heap.size V2).drew
                  have hyb := HY2.out.grow (Below.refl V2.heap.size V2).drew
                  have hbb := HB2.out.trans ((Below.refl w.heap.size V2).drew)
                  have hS0 : Blk V2.drew (wq.heap.size + 1) 43 #[.pointer (rv 0), .pointer (rv 1), .pointer (rv 2)] := htr.ra
                  rw [← hV3] at htr hyb hbb
                  have x4 := cell3 htr.ta hpw
                  obtain ⟨tvw, htvw⟩ : ∃ z, z = tv pw := ⟨_, rfl⟩
                  obtain ⟨rvw, hrvw⟩ : ∃ z, z = rv pw := ⟨_, rfl⟩
                  rw [← htvw] at x4
                  have HTW := Lib.hid htvw
                  have HRW := Lib.hid hrvw
                  have HTR3 := Lib.hid htr
                  have HY3 := Lib.hid hyb
                  have HB3' := Lib.hid hbb
                  have HS0 := Lib.hid hS0
                  clear htr hyb hbb hS0 htvw hrvw
                  go_wp2_with fail
                  refine wp_region_F (fun W => Blk W (wq.heap.size + 1) 43 #[.pointer (rv 0), .pointer (rv 1), .pointer (rv 2)]) [13] (by kernel_rfl) HS0.out (fun hS => ?_)
                  rw [← hV3] at hS ⊢
                  clear hV3 HS0
                  refine wpAnyF_take (i := 0) (oi := { dst := some 144, op := Go.Op.move (Go.Operand.tmp 20), type := 3, pos := "law.go:129", after := #[], guard := none }) (v := ?_) rfl (by kernel_rfl) (by kernel_rfl) (by kernel_rfl) (by kernel_rfl) (fun _ _ _ h => h) (Or.inl ⟨by rfl, ?_⟩) hS ?_
                  rotate_left
                  · intro w' hSw; have q2 := cell3 hSw hpw; rw [← HRW.out] at q2; go_simp; try with_reducible rfl
                  try simp only [Act.put, List.setIfInBounds_toArray, List.set_cons_zero, List.set_cons_succ]
                  refine wpAnyF_take (i := 1) (oi := { dst := some 145, op := Go.Op.move (Go.Operand.tmp 20), type := 3, pos := "law.go:129", after := #[{ on := 11, ground := Go.Ground.gcOnly Go.Departure.lateStores }], guard := none }) (v := ?_) rfl (by kernel_rfl) (by kernel_rfl) (by kernel_rfl) (by kernel_rfl) (fun _ _ _ h => h) (Or.inl ⟨by rfl, ?_⟩) hS ?_
                  rotate_left
                  · intro w' hSw; have q2 := cell3 hSw hpw; rw [← HRW.out] at q2; go_simp; try with_reducible rfl
                  try simp only [Act.put, List.setIfInBounds_toArray, List.set_cons_zero, List.set_cons_succ]
                  refine wpAnyF_take (i := 2) (oi := { dst := some 146, op := Go.Op.move (Go.Operand.tmp 19), type := 3, pos := "law.go:129", after := #[], guard := none }) (v := ?_) rfl (by kernel_rfl) (by kernel_rfl) (by kernel_rfl) (by kernel_rfl) (fun _ _ _ h => h) (Or.inl ⟨by rfl, ?_⟩) hS ?_
                  rotate_left
                  · intro w' hSw; have q2 := cell3 hSw hpw; rw [← HRW.out] at q2; go_simp; try with_reducible rfl
                  try simp only [Act.put, List.setIfInBounds_toArray, List.set_cons_zero, List.set_cons_succ]
                  refine wpAnyF_take (i := 3) (oi := { dst := some 147, op := Go.Op.indexAddr 42 (Go.Operand.tmp 15) (Go.Operand.tmp 146), type := 0, pos := "law.go:129", after := #[{ on := 2, ground := Go.Ground.data }], guard := none }) (v := ?_) rfl (by kernel_rfl) (by kernel_rfl) (by kernel_rfl) (by kernel_rfl) (fun _ _ _ h => h) (Or.inl ⟨by rfl, ?_⟩) hS ?_
                  rotate_left
                  · intro w' hSw; have q2 := cell3 hSw hpw; rw [← HRW.out] at q2; go_simp; try with_reducible rfl
                  try simp only [Act.put, List.setIfInBounds_toArray, List.set_cons_zero, List.set_cons_succ]
                  refine wpAnyF_take (i := 6) (oi := { dst := some 150, op := Go.Op.move (Go.Operand.tmp 19), type := 3, pos := "law.go:129", after := #[], guard := none }) (v := ?_) rfl (by kernel_rfl) (by kernel_rfl) (by kernel_rfl) (by kernel_rfl) (fun _ _ _ h => h) (Or.inl ⟨by rfl, ?_⟩) hS ?_
                  rotate_left
                  · intro w' hSw; have q2 := cell3 hSw hpw; rw [← HRW.out] at q2; go_simp; try with_reducible rfl
                  try simp only [Act.put, List.setIfInBounds_toArray, List.set_cons_zero, List.set_cons_succ]
                  refine wpAnyF_take (i := 7) (oi := { dst := some 151, op := Go.Op.indexAddr 43 (Go.Operand.tmp 16) (Go.Operand.tmp 150), type := 0, pos := "law.go:129", after := #[{ on := 6, ground := Go.Ground.data }], guard := none }) (v := ?_) rfl (by kernel_rfl) (by kernel_rfl) (by kernel_rfl) (by kernel_rfl) (fun _ _ _ h => h) (Or.inl ⟨by rfl, ?_⟩) hS ?_
                  rotate_left
                  · intro w' hSw; have q2 := cell3 hSw hpw; rw [← HRW.out] at q2; go_simp; try with_reducible rfl
                  try simp only [Act.put, List.setIfInBounds_toArray, List.set_cons_zero, List.set_cons_succ]
                  refine wpAnyF_take (i := 8) (oi := { dst := some 152, op := Go.Op.load 37 (Go.Operand.tmp 151), type := 37, pos := "law.go:129", after := #[{ on := 7, ground := Go.Ground.data }], guard := none }) (v := ?_) rfl (by kernel_rfl) (by kernel_rfl) (by kernel_rfl) (by kernel_rfl) (fun _ _ _ h => h) (Or.inl ⟨by rfl, ?_⟩) hS ?_
                  rotate_left
                  · intro w' hSw; have q2 := cell3 hSw hpw; rw [← HRW.out] at q2; go_simp; try with_reducible rfl
                  try simp only [Act.put, List.setIfInBounds_toArray, List.set_cons_zero, List.set_cons_succ]
                  refine wpAnyF_ready (rs := [4]) (by kernel_rfl) (by simp) ?_
                  refine AllReadyF.cons (o := { dst := some 148, op := Go.Op.load 23 (Go.Operand.tmp 147), type := 23, pos := "law.go:129", after := #[{ on := 3, ground := Go.Ground.data }], guard := none }) rfl (by rfl) (fun K hK => ?_) ?_
                  · go_simp
                    refine hK.out _ _ ?_ (fun hS => ?_)
                    · exact hS
                    clear hK K
                    try simp only [Act.put, List.setIfInBounds_toArray, List.set_cons_zero, List.set_cons_succ]
                    refine wpAnyF_ready (rs := [5]) (by kernel_rfl) (by simp) ?_
                    refine AllReadyF.cons (o := { dst := some 149, op := Go.Op.call { callee := Go.Callee.value (Go.Operand.func 16), args := #[Go.Operand.tmp 148], argTypes := #[23] }, type := 23, pos := "law.go:129", after := #[{ on := 4, ground := Go.Ground.data }], guard := none }) rfl (by rfl) (fun K hK => ?_) ?_
                    · go_simp
                      rw [HTW.out]
                      refine (copyA_any (HTR3.out.pair pw hpw)).mono ?_
                      rintro e W5 ⟨hb5, t', b', m', rfl, hc5⟩
                      refine hK.out _ _ ?_ (fun hS => ?_)
                      · exact hS.grow hb5
                      clear hK K
                      try simp only [Act.put, List.setIfInBounds_toArray, List.set_cons_zero, List.set_cons_succ]
                      have HTR5 := Lib.hid (HTR3.out.grow hb5)
                      have HY5 := Lib.hid (HY3.out.grow hb5)
                      have HB5' := Lib.hid (HB3'.out.trans (hb5.mono HB3'.out.size))
                      have HC5 := Lib.hid hc5
                      have hs5' := hb5.size
                      clear hb5 hc5
                      refine wpAnyF_take (i := 10) (oi := { dst := some 154, op := Go.Op.indexAddr 42 (Go.Operand.tmp 15) (Go.Operand.tmp 144), type := 0, pos := "law.go:129", after := #[{ on := 0, ground := Go.Ground.data }, { on := 0, ground := Go.Ground.phase }, { on := 1, ground := Go.Ground.textOnly Go.Departure.lateStores }, { on := 2, ground := Go.Ground.phase }, { on := 3, ground := Go.Ground.phase }, { on := 4, ground := Go.Ground.phase }, { on := 5, ground := Go.Ground.phase }, { on := 6, ground := Go.Ground.textOnly Go.Departure.lateStores }, { on := 7, ground := Go.Ground.textOnly Go.Departure.lateStores }, { on := 8, ground := Go.Ground.textOnly Go.Departure.lateStores }, { on := 9, ground := Go.Ground.textOnly Go.Departure.lateStoresUnsure }], guard := none }) (v := ?_) rfl (by kernel_rfl) (by kernel_rfl) (by kernel_rfl) (by kernel_rfl) (fun _ _ _ h => h) (Or.inl ⟨by rfl, ?_⟩) hS ?_
                      rotate_left
                      · intro w' hSw; have q2 := cell3 hSw hpw; rw [← HRW.out] at q2; go_simp; try with_reducible rfl
                      try simp only [Act.put, List.setIfInBounds_toArray, List.set_cons_zero, List.set_cons_succ]
                      refine wpAnyF_ready (rs := [9]) (by kernel_rfl) (by simp) ?_
                      refine AllReadyF.cons (o := { dst := some 153, op := Go.Op.call { callee := Go.Callee.value (Go.Operand.func 17), args := #[Go.Operand.tmp 152], argTypes := #[37] }, type := 37, pos := "law.go:129", after := #[{ on := 8, ground := Go.Ground.data }, { on := 5, ground := Go.Ground.chain }], guard := none }) rfl (by rfl) (fun K hK => ?_) ?_
                      · go_simp
                        rw [HRW.out]
                        refine (copyR_any (HTR5.out.pair pw hpw)).mono ?_
                        rintro e W9 ⟨hb9, r', g', rfl, hc9⟩
                        refine hK.out _ _ ?_ (fun hS => ?_)
                        · exact hS.grow hb9
                        clear hK K
                        try simp only [Act.put, List.setIfInBounds_toArray, List.set_cons_zero, List.set_cons_succ]
                        have hp9 := copy_pair (HTR5.out.pair pw hpw) HC5.out hb9 hc9
                        have htr9 := HTR5.out.grow hb9
                        have x11 : W9.cell? ⟨wq.heap.size, pt, none⟩ = some (.pointer (tv pt)) := cell3 htr9.ta hpt
                        have f11 : W9.frozen? ⟨wq.heap.size, pt, none⟩ = false := htr9.ta.frozen pt
                        have h13 := htr9.ra.far (p := ⟨wq.heap.size, pt, none⟩) (show wq.heap.size + 1 ≠ wq.heap.size by omega) (.pointer t')
                        have x13 : (W9.setCell ⟨wq.heap.size, pt, none⟩ (.pointer t')).cell? ⟨wq.heap.size + 1, pt, none⟩ = some (.pointer (rv pt)) := cell3 h13 hpt
                        have f13 : (W9.setCell ⟨wq.heap.size, pt, none⟩ (.pointer t')).frozen? ⟨wq.heap.size + 1, pt, none⟩ = false := h13.frozen pt
                        have HTRP := Lib.hid (htr9.put hpt hp9 (fun q hq h1 h2 => by
                          have z1 := (HTR3.out.pair q hq).lt h1
                          have z2 := HC5.out.ge h2
                          have z3 := hc9.ge h2
                          omega) (show wq.heap.size ≠ wq.heap.size + 1 by omega))
                        have HLOWP := Lib.hid (HLOW.out.put (i := pt) (b' := b') (m' := m') (g' := g') (f' := f pw) (fun h2 => by
                          have z2 := HC5.out.ge h2
                          have z3 := hc9.ge h2
                          have z4 := HB3'.out.size
                          omega))
                        have HYP := Lib.hid (((HY5.out.grow hb9).far (p := ⟨wq.heap.size, pt, none⟩) (show wr.heap.size ≠ wq.heap.size by omega) (.pointer t')).far (p := ⟨wq.heap.size + 1, pt, none⟩) (show wr.heap.size ≠ wq.heap.size + 1 by omega) (.pointer r'))
                        have HBP := Lib.hid (((HB5'.out.trans (hb9.mono HB5'.out.size)).setCell (p := ⟨wq.heap.size, pt, none⟩) (show w.heap.size ≤ wq.heap.size by omega) (.pointer t')).setCell (p := ⟨wq.heap.size + 1, pt, none⟩) (show w.heap.size ≤ wq.heap.size + 1 by omega) (.pointer r'))
                        clear hb9 hc9 hp9 htr9 h13
                        refine wpAnyF_ready (rs := [11]) (by kernel_rfl) (by simp) ?_
                        refine AllReadyF.cons (o := { dst := none, op := Go.Op.store 23 (Go.Operand.tmp 154) (Go.Operand.tmp 149), type := 0, pos := "law.go:129", after := #[{ on := 10, ground := Go.Ground.data }, { on := 5, ground := Go.Ground.data }, { on := 9, ground := Go.Ground.chain }, { on := 0, ground := Go.Ground.phase }, { on := 1, ground := Go.Ground.textOnly Go.Departure.lateStores }, { on := 2, ground := Go.Ground.phase }, { on := 3, ground := Go.Ground.phase }, { on := 4, ground := Go.Ground.phase }, { on := 5, ground := Go.Ground.phase }, { on := 6, ground := Go.Ground.textOnly Go.Departure.lateStores }, { on := 7, ground := Go.Ground.textOnly Go.Departure.lateStores }, { on := 8, ground := Go.Ground.textOnly Go.Departure.lateStores }, { on := 9, ground := Go.Ground.textOnly Go.Departure.lateStoresUnsure }], guard := none }) rfl (by rfl) (fun K hK => ?_) ?_
                        · go_simp
                          refine hK.out _ _ ?_ (fun hS => ?_)
                          · exact hS.far (p := ⟨wq.heap.size, pt, none⟩) (show wq.heap.size + 1 ≠ wq.heap.size by omega) (.pointer t')
                          clear hK K
                          try simp only [Act.put, List.setIfInBounds_toArray, List.set_cons_zero, List.set_cons_succ]
                          refine wpAnyF_take (i := 12) (oi := { dst := some 155, op := Go.Op.indexAddr 43 (Go.Operand.tmp 16) (Go.Operand.tmp 145), type := 0, pos := "law.go:129", after := #[{ on := 1, ground := Go.Ground.data }, { on := 0, ground := Go.Ground.phase }, { on := 1, ground := Go.Ground.phase }, { on := 2, ground := Go.Ground.phase }, { on := 3, ground := Go.Ground.phase }, { on := 4, ground := Go.Ground.phase }, { on := 5, ground := Go.Ground.phase }, { on := 6, ground := Go.Ground.phase }, { on := 7, ground := Go.Ground.phase }, { on := 8, ground := Go.Ground.phase }, { on := 9, ground := Go.Ground.phase }, { on := 10, ground := Go.Ground.phase }, { on := 11, ground := Go.Ground.phase }], guard := none }) (v := ?_) rfl (by kernel_rfl) (by kernel_rfl) (by kernel_rfl) (by kernel_rfl) (fun _ _ _ h => h) (Or.inl ⟨by rfl, ?_⟩) hS ?_
                          rotate_left
                          · intro w' hSw; have q2 := cell3 hSw hpw; rw [← HRW.out] at q2; go_simp; try with_reducible rfl
                          try simp only [Act.put, List.setIfInBounds_toArray, List.set_cons_zero, List.set_cons_succ]
                          refine wpAnyF_ready (rs := [13]) (by kernel_rfl) (by simp) ?_
                          refine AllReadyF.fin (o := { dst := none, op := Go.Op.store 37 (Go.Operand.tmp 155) (Go.Operand.tmp 153), type := 0, pos := "law.go:129", after := #[{ on := 12, ground := Go.Ground.data }, { on := 9, ground := Go.Ground.data }, { on := 11, ground := Go.Ground.chain }, { on := 0, ground := Go.Ground.phase }, { on := 1, ground := Go.Ground.phase }, { on := 2, ground := Go.Ground.phase }, { on := 3, ground := Go.Ground.phase }, { on := 4, ground := Go.Ground.phase }, { on := 5, ground := Go.Ground.phase }, { on := 6, ground := Go.Ground.phase }, { on := 7, ground := Go.Ground.phase }, { on := 8, ground := Go.Ground.phase }, { on := 9, ground := Go.Ground.phase }, { on := 10, ground := Go.Ground.phase }, { on := 11, ground := Go.Ground.phase }], guard := none }) rfl (by rfl) (fun K hK => ?_) ?_
                          · go_simp
                            refine hK.out _ _ ?_
                            clear hK K
                            try simp only [Act.put, List.setIfInBounds_toArray, List.set_cons_zero, List.set_cons_succ]
                            refine wpAnyF_done (by kernel_rfl) ?_ _
                            obtain ⟨W10, hW10⟩ : ∃ W : World, W = (W9.setCell ⟨wq.heap.size, pt, none⟩ (.pointer t')).setCell ⟨wq.heap.size + 1, pt, none⟩ (.pointer r') := ⟨_, rfl⟩
                            rw [← hW10] at HTRP HYP HBP ⊢
                            clear hW10 x11 f11 x13 f13 x4
                            have HTR9 := HTRP
                            have HY9 := HYP
                            have HB9 := HBP
                            have HLOW9 := HLOWP
                            clear HTW HRW
                            obtain ⟨tv2, htv2⟩ : ∃ z, z = upd tv pt t' := ⟨_, rfl⟩
                            obtain ⟨rv2, hrv2⟩ : ∃ z, z = upd rv pt r' := ⟨_, rfl⟩
                            obtain ⟨f2, hf2⟩ : ∃ z, z = upd f pt (f pw) := ⟨_, rfl⟩
                            rw [← htv2, ← hrv2, ← hf2] at HTR9
                            rw [← hf2] at HLOW9
                            clear htv2 hrv2 hf2
                            go_wp2_with fail
                            obtain ⟨VV, hVV⟩ : ∃ W : World, W = W10.drew := ⟨_, rfl⟩
                            have htr := HTR9.out.grow (Below.refl _ _).drew
                            have hyb := HY9.out.grow (Below.refl _ _).drew
                            have hbb := HB9.out.trans ((Below.refl w.heap.size W10).drew)
                            rw [← hVV] at htr hyb hbb
                            have HTRV := Lib.hid htr
                            have HYV2 := Lib.hid hyb
                            have HBV2 := Lib.hid hbb
                            obtain ⟨zt, hzt⟩ : ∃ z, z = !(f2 pt).there := ⟨_, rfl⟩
                            have i0 : (tv2 pt).isNone = zt := (htr.none_ hpt).1.trans hzt.symm
                            have i1 : (rv2 pt).isNone = zt := (htr.none_ hpt).2.trans hzt.symm
                            have hS0 : Blk W10.drew wq.heap.size 42 #[.pointer (tv2 0), .pointer (tv2 1), .pointer (tv2 2)] ∧ Blk W10.drew (wq.heap.size + 1) 43 #[.pointer (rv2 0), .pointer (rv2 1), .pointer (rv2 2)] ∧ Blk W10.drew wr.heap.size 45 #[.int .i64 s.kind, .int .i64 s.who, .int .i64 s.to, .int .i64 s.lot, .int .i64 s.coins] := ⟨HTR9.out.ta.grow (Below.refl _ _).drew, HTR9.out.ra.grow (Below.refl _ _).drew, HY9.out.grow (Below.refl _ _).drew⟩
                            obtain ⟨tvw, htvw⟩ : ∃ z, z = tv2 pw := ⟨_, rfl⟩
                            obtain ⟨tvt, htvt⟩ : ∃ z, z = tv2 pt := ⟨_, rfl⟩
                            obtain ⟨rvw, hrvw⟩ : ∃ z, z = rv2 pw := ⟨_, rfl⟩
                            obtain ⟨rvt, hrvt⟩ : ∃ z, z = rv2 pt := ⟨_, rfl⟩
                            rw [← htvt] at i0
                            rw [← hrvt] at i1
                            have HS0 := Lib.hid hS0
                            have HTW := Lib.hid htvw
                            have HTT := Lib.hid htvt
                            have HRW := Lib.hid hrvw
                            have HRT := Lib.hid hrvt
                            clear htr hyb hbb hzt hS0 htvw htvt hrvw hrvt
                            refine wp_region_F (fun W => Blk W wq.heap.size 42 #[.pointer (tv2 0), .pointer (tv2 1), .pointer (tv2 2)] ∧ Blk W (wq.heap.size + 1) 43 #[.pointer (rv2 0), .pointer (rv2 1), .pointer (rv2 2)] ∧ Blk W wr.heap.size 45 #[.int .i64 s.kind, .int .i64 s.who, .int .i64 s.to, .int .i64 s.lot, .int .i64 s.coins]) [] (by kernel_rfl) HS0.out (fun hS => ?_)
                            rw [← hVV] at hS ⊢
                            clear hVV HS0
                            refine wpAnyF_take (i := 0) (oi := { dst := some 173, op := Go.Op.move (Go.Operand.tmp 20), type := 3, pos := "law.go:135", after := #[], guard := none }) (v := ?_) rfl (by kernel_rfl) (by kernel_rfl) (by kernel_rfl) (by kernel_rfl) (fun _ _ _ h => h) (Or.inl ⟨by rfl, ?_⟩) hS ?_
                            rotate_left
                            · intro w' hSw; obtain ⟨s1, s2, s3⟩ := hSw; have q0 := cell3 s1 hpw; have q1 := cell3 s1 hpt; have q2 := cell3 s2 hpw; have q3 := cell3 s2 hpt; rw [← HTW.out] at q0; rw [← HTT.out] at q1; rw [← HRW.out] at q2; rw [← HRT.out] at q3; have y0 : w'.cell? ⟨wr.heap.size, 0, none⟩ = some (.int .i64 s.kind) := s3.cell 0; have y1 : w'.cell? ⟨wr.heap.size, 1, none⟩ = some (.int .i64 s.who) := s3.cell 1; have y2 : w'.cell? ⟨wr.heap.size, 2, none⟩ = some (.int .i64 s.to) := s3.cell 2; have y3 : w'.cell? ⟨wr.heap.size, 3, none⟩ = some (.int .i64 s.lot) := s3.cell 3; have y4 : w'.cell? ⟨wr.heap.size, 4, none⟩ = some (.int .i64 s.coins) := s3.cell 4; clear s1 s2 s3; go_simp; try with_reducible rfl
                            try simp only [Act.put, List.setIfInBounds_toArray, List.set_cons_zero, List.set_cons_succ]
                            refine wpAnyF_take (i := 1) (oi := { dst := some 174, op := Go.Op.indexAddr 42 (Go.Operand.tmp 15) (Go.Operand.tmp 173), type := 0, pos := "law.go:135", after := #[{ on := 0, ground := Go.Ground.data }], guard := none }) (v := ?_) rfl (by kernel_rfl) (by kernel_rfl) (by kernel_rfl) (by kernel_rfl) (fun _ _ _ h => h) (Or.inl ⟨by rfl, ?_⟩) hS ?_
                            rotate_left
                            · intro w' hSw; obtain ⟨s1, s2, s3⟩ := hSw; have q0 := cell3 s1 hpw; have q1 := cell3 s1 hpt; have q2 := cell3 s2 hpw; have q3 := cell3 s2 hpt; rw [← HTW.out] at q0; rw [← HTT.out] at q1; rw [← HRW.out] at q2; rw [← HRT.out] at q3; have y0 : w'.cell? ⟨wr.heap.size, 0, none⟩ = some (.int .i64 s.kind) := s3.cell 0; have y1 : w'.cell? ⟨wr.heap.size, 1, none⟩ = some (.int .i64 s.who) := s3.cell 1; have y2 : w'.cell? ⟨wr.heap.size, 2, none⟩ = some (.int .i64 s.to) := s3.cell 2; have y3 : w'.cell? ⟨wr.heap.size, 3, none⟩ = some (.int .i64 s.lot) := s3.cell 3; have y4 : w'.cell? ⟨wr.heap.size, 4, none⟩ = some (.int .i64 s.coins) := s3.cell 4; clear s1 s2 s3; go_simp; try with_reducible rfl
                            try simp only [Act.put, List.setIfInBounds_toArray, List.set_cons_zero, List.set_cons_succ]
                            refine wpAnyF_take (i := 2) (oi := { dst := some 175, op := Go.Op.load 23 (Go.Operand.tmp 174), type := 23, pos := "law.go:135", after := #[{ on := 1, ground := Go.Ground.data }], guard := none }) (v := ?_) rfl (by kernel_rfl) (by kernel_rfl) (by kernel_rfl) (by kernel_rfl) (fun _ _ _ h => h) (Or.inl ⟨by rfl, ?_⟩) hS ?_
                            rotate_left
                            · intro w' hSw; obtain ⟨s1, s2, s3⟩ := hSw; have q0 := cell3 s1 hpw; have q1 := cell3 s1 hpt; have q2 := cell3 s2 hpw; have q3 := cell3 s2 hpt; rw [← HTW.out] at q0; rw [← HTT.out] at q1; rw [← HRW.out] at q2; rw [← HRT.out] at q3; have y0 : w'.cell? ⟨wr.heap.size, 0, none⟩ = some (.int .i64 s.kind) := s3.cell 0; have y1 : w'.cell? ⟨wr.heap.size, 1, none⟩ = some (.int .i64 s.who) := s3.cell 1; have y2 : w'.cell? ⟨wr.heap.size, 2, none⟩ = some (.int .i64 s.to) := s3.cell 2; have y3 : w'.cell? ⟨wr.heap.size, 3, none⟩ = some (.int .i64 s.lot) := s3.cell 3; have y4 : w'.cell? ⟨wr.heap.size, 4, none⟩ = some (.int .i64 s.coins) := s3.cell 4; clear s1 s2 s3; go_simp; try with_reducible rfl
                            try simp only [Act.put, List.setIfInBounds_toArray, List.set_cons_zero, List.set_cons_succ]
                            refine wpAnyF_take (i := 3) (oi := { dst := some 176, op := Go.Op.binOp Go.BinOp.eql 23 (Go.Operand.tmp 175) (Go.Operand.const (Go.Value.pointer none)) 23, type := 4, pos := "law.go:135", after := #[{ on := 2, ground := Go.Ground.data }], guard := none }) (v := ?_) rfl (by kernel_rfl) (by kernel_rfl) (by kernel_rfl) (by kernel_rfl) (fun _ _ _ h => h) (Or.inl ⟨by rfl, ?_⟩) hS ?_
                            rotate_left
                            · intro w' hSw; obtain ⟨s1, s2, s3⟩ := hSw; have q0 := cell3 s1 hpw; have q1 := cell3 s1 hpt; have q2 := cell3 s2 hpw; have q3 := cell3 s2 hpt; rw [← HTW.out] at q0; rw [← HTT.out] at q1; rw [← HRW.out] at q2; rw [← HRT.out] at q3; have y0 : w'.cell? ⟨wr.heap.size, 0, none⟩ = some (.int .i64 s.kind) := s3.cell 0; have y1 : w'.cell? ⟨wr.heap.size, 1, none⟩ = some (.int .i64 s.who) := s3.cell 1; have y2 : w'.cell? ⟨wr.heap.size, 2, none⟩ = some (.int .i64 s.to) := s3.cell 2; have y3 : w'.cell? ⟨wr.heap.size, 3, none⟩ = some (.int .i64 s.lot) := s3.cell 3; have y4 : w'.cell? ⟨wr.heap.size, 4, none⟩ = some (.int .i64 s.coins) := s3.cell 4; clear s1 s2 s3; go_simp; try with_reducible rfl
                            try simp only [Act.put, List.setIfInBounds_toArray, List.set_cons_zero, List.set_cons_succ]
                            refine wpAnyF_take (i := 4) (oi := { dst := some 177, op := Go.Op.move (Go.Operand.tmp 20), type := 3, pos := "law.go:135", after := #[], guard := none }) (v := ?_) rfl (by kernel_rfl) (by kernel_rfl) (by kernel_rfl) (by kernel_rfl) (fun _ _ _ h => h) (Or.inl ⟨by rfl, ?_⟩) hS ?_
                            rotate_left
                            · intro w' hSw; obtain ⟨s1, s2, s3⟩ := hSw; have q0 := cell3 s1 hpw; have q1 := cell3 s1 hpt; have q2 := cell3 s2 hpw; have q3 := cell3 s2 hpt; rw [← HTW.out] at q0; rw [← HTT.out] at q1; rw [← HRW.out] at q2; rw [← HRT.out] at q3; have y0 : w'.cell? ⟨wr.heap.size, 0, none⟩ = some (.int .i64 s.kind) := s3.cell 0; have y1 : w'.cell? ⟨wr.heap.size, 1, none⟩ = some (.int .i64 s.who) := s3.cell 1; have y2 : w'.cell? ⟨wr.heap.size, 2, none⟩ = some (.int .i64 s.to) := s3.cell 2; have y3 : w'.cell? ⟨wr.heap.size, 3, none⟩ = some (.int .i64 s.lot) := s3.cell 3; have y4 : w'.cell? ⟨wr.heap.size, 4, none⟩ = some (.int .i64 s.coins) := s3.cell 4; clear s1 s2 s3; go_simp; try with_reducible rfl
                            try simp only [Act.put, List.setIfInBounds_toArray, List.set_cons_zero, List.set_cons_succ]
                            refine wpAnyF_take (i := 5) (oi := { dst := some 178, op := Go.Op.indexAddr 43 (Go.Operand.tmp 16) (Go.Operand.tmp 177), type := 0, pos := "law.go:135", after := #[{ on := 4, ground := Go.Ground.data }], guard := none }) (v := ?_) rfl (by kernel_rfl) (by kernel_rfl) (by kernel_rfl) (by kernel_rfl) (fun _ _ _ h => h) (Or.inl ⟨by rfl, ?_⟩) hS ?_
                            rotate_left
                            · intro w' hSw; obtain ⟨s1, s2, s3⟩ := hSw; have q0 := cell3 s1 hpw; have q1 := cell3 s1 hpt; have q2 := cell3 s2 hpw; have q3 := cell3 s2 hpt; rw [← HTW.out] at q0; rw [← HTT.out] at q1; rw [← HRW.out] at q2; rw [← HRT.out] at q3; have y0 : w'.cell? ⟨wr.heap.size, 0, none⟩ = some (.int .i64 s.kind) := s3.cell 0; have y1 : w'.cell? ⟨wr.heap.size, 1, none⟩ = some (.int .i64 s.who) := s3.cell 1; have y2 : w'.cell? ⟨wr.heap.size, 2, none⟩ = some (.int .i64 s.to) := s3.cell 2; have y3 : w'.cell? ⟨wr.heap.size, 3, none⟩ = some (.int .i64 s.lot) := s3.cell 3; have y4 : w'.cell? ⟨wr.heap.size, 4, none⟩ = some (.int .i64 s.coins) := s3.cell 4; clear s1 s2 s3; go_simp; try with_reducible rfl
                            try simp only [Act.put, List.setIfInBounds_toArray, List.set_cons_zero, List.set_cons_succ]
                            refine wpAnyF_take (i := 6) (oi := { dst := some 179, op := Go.Op.load 37 (Go.Operand.tmp 178), type := 37, pos := "law.go:135", after := #[{ on := 5, ground := Go.Ground.data }], guard := none }) (v := ?_) rfl (by kernel_rfl) (by kernel_rfl) (by kernel_rfl) (by kernel_rfl) (fun _ _ _ h => h) (Or.inl ⟨by rfl, ?_⟩) hS ?_
                            rotate_left
                            · intro w' hSw; obtain ⟨s1, s2, s3⟩ := hSw; have q0 := cell3 s1 hpw; have q1 := cell3 s1 hpt; have q2 := cell3 s2 hpw; have q3 := cell3 s2 hpt; rw [← HTW.out] at q0; rw [← HTT.out] at q1; rw [← HRW.out] at q2; rw [← HRT.out] at q3; have y0 : w'.cell? ⟨wr.heap.size, 0, none⟩ = some (.int .i64 s.kind) := s3.cell 0; have y1 : w'.cell? ⟨wr.heap.size, 1, none⟩ = some (.int .i64 s.who) := s3.cell 1; have y2 : w'.cell? ⟨wr.heap.size, 2, none⟩ = some (.int .i64 s.to) := s3.cell 2; have y3 : w'.cell? ⟨wr.heap.size, 3, none⟩ = some (.int .i64 s.lot) := s3.cell 3; have y4 : w'.cell? ⟨wr.heap.size, 4, none⟩ = some (.int .i64 s.coins) := s3.cell 4; clear s1 s2 s3; go_simp; try with_reducible rfl
                            try simp only [Act.put, List.setIfInBounds_toArray, List.set_cons_zero, List.set_cons_succ]
                            refine wpAnyF_take (i := 7) (oi := { dst := some 180, op := Go.Op.binOp Go.BinOp.eql 37 (Go.Operand.tmp 179) (Go.Operand.const (Go.Value.pointer none)) 37, type := 4, pos := "law.go:135", after := #[{ on := 6, ground := Go.Ground.data }], guard := none }) (v := ?_) rfl (by kernel_rfl) (by kernel_rfl) (by kernel_rfl) (by kernel_rfl) (fun _ _ _ h => h) (Or.inl ⟨by rfl, ?_⟩) hS ?_
                            rotate_left
                            · intro w' hSw; obtain ⟨s1, s2, s3⟩ := hSw; have q0 := cell3 s1 hpw; have q1 := cell3 s1 hpt; have q2 := cell3 s2 hpw; have q3 := cell3 s2 hpt; rw [← HTW.out] at q0; rw [← HTT.out] at q1; rw [← HRW.out] at q2; rw [← HRT.out] at q3; have y0 : w'.cell? ⟨wr.heap.size, 0, none⟩ = some (.int .i64 s.kind) := s3.cell 0; have y1 : w'.cell? ⟨wr.heap.size, 1, none⟩ = some (.int .i64 s.who) := s3.cell 1; have y2 : w'.cell? ⟨wr.heap.size, 2, none⟩ = some (.int .i64 s.to) := s3.cell 2; have y3 : w'.cell? ⟨wr.heap.size, 3, none⟩ = some (.int .i64 s.lot) := s3.cell 3; have y4 : w'.cell? ⟨wr.heap.size, 4, none⟩ = some (.int .i64 s.coins) := s3.cell 4; clear s1 s2 s3; go_simp; try with_reducible rfl
                            try simp only [Act.put, List.setIfInBounds_toArray, List.set_cons_zero, List.set_cons_succ]
                            refine wpAnyF_take (i := 8) (oi := { dst := some 181, op := Go.Op.binOp Go.BinOp.neq 4 (Go.Operand.tmp 176) (Go.Operand.tmp 180) 4, type := 4, pos := "law.go:135", after := #[{ on := 3, ground := Go.Ground.data }, { on := 7, ground := Go.Ground.data }], guard := none }) (v := ?_) rfl (by kernel_rfl) (by kernel_rfl) (by kernel_rfl) (by kernel_rfl) (fun _ _ _ h => h) (Or.inl ⟨by rfl, ?_⟩) hS ?_
                            rotate_left
                            · intro w' hSw; obtain ⟨s1, s2, s3⟩ := hSw; have q0 := cell3 s1 hpw; have q1 := cell3 s1 hpt; have q2 := cell3 s2 hpw; have q3 := cell3 s2 hpt; rw [← HTW.out] at q0; rw [← HTT.out] at q1; rw [← HRW.out] at q2; rw [← HRT.out] at q3; have y0 : w'.cell? ⟨wr.heap.size, 0, none⟩ = some (.int .i64 s.kind) := s3.cell 0; have y1 : w'.cell? ⟨wr.heap.size, 1, none⟩ = some (.int .i64 s.who) := s3.cell 1; have y2 : w'.cell? ⟨wr.heap.size, 2, none⟩ = some (.int .i64 s.to) := s3.cell 2; have y3 : w'.cell? ⟨wr.heap.size, 3, none⟩ = some (.int .i64 s.lot) := s3.cell 3; have y4 : w'.cell? ⟨wr.heap.size, 4, none⟩ = some (.int .i64 s.coins) := s3.cell 4; clear s1 s2 s3; go_simp; try with_reducible rfl
                            try simp only [Act.put, List.setIfInBounds_toArray, List.set_cons_zero, List.set_cons_succ]
                            refine wpAnyF_take (i := 9) (oi := { dst := some 182, op := Go.Op.move (Go.Operand.tmp 181), type := 4, pos := "law.go:135", after := #[{ on := 8, ground := Go.Ground.data }], guard := none }) (v := ?_) rfl (by kernel_rfl) (by kernel_rfl) (by kernel_rfl) (by kernel_rfl) (fun _ _ _ h => h) (Or.inl ⟨by rfl, ?_⟩) hS ?_
                            rotate_left
                            · intro w' hSw; obtain ⟨s1, s2, s3⟩ := hSw; have q0 := cell3 s1 hpw; have q1 := cell3 s1 hpt; have q2 := cell3 s2 hpw; have q3 := cell3 s2 hpt; rw [← HTW.out] at q0; rw [← HTT.out] at q1; rw [← HRW.out] at q2; rw [← HRT.out] at q3; have y0 : w'.cell? ⟨wr.heap.size, 0, none⟩ = some (.int .i64 s.kind) := s3.cell 0; have y1 : w'.cell? ⟨wr.heap.size, 1, none⟩ = some (.int .i64 s.who) := s3.cell 1; have y2 : w'.cell? ⟨wr.heap.size, 2, none⟩ = some (.int .i64 s.to) := s3.cell 2; have y3 : w'.cell? ⟨wr.heap.size, 3, none⟩ = some (.int .i64 s.lot) := s3.cell 3; have y4 : w'.cell? ⟨wr.heap.size, 4, none⟩ = some (.int .i64 s.coins) := s3.cell 4; clear s1 s2 s3; go_simp; try with_reducible rfl
                            try simp only [Act.put, List.setIfInBounds_toArray, List.set_cons_zero, List.set_cons_succ]
                            refine wpAnyF_take (i := 10) (oi := { dst := some 183, op := Go.Op.move (Go.Operand.tmp 19), type := 3, pos := "law.go:135", after := #[{ on := 9, ground := Go.Ground.guard }], guard := some (9, false) }) (v := ?_) rfl (by kernel_rfl) (by kernel_rfl) (by kernel_rfl) (by kernel_rfl) (fun _ _ _ h => h) (Or.inl ⟨by rfl, ?_⟩) hS ?_
                            rotate_left
                            · intro w' hSw; obtain ⟨s1, s2, s3⟩ := hSw; have q0 := cell3 s1 hpw; have q1 := cell3 s1 hpt; have q2 := cell3 s2 hpw; have q3 := cell3 s2 hpt; rw [← HTW.out] at q0; rw [← HTT.out] at q1; rw [← HRW.out] at q2; rw [← HRT.out] at q3; have y0 : w'.cell? ⟨wr.heap.size, 0, none⟩ = some (.int .i64 s.kind) := s3.cell 0; have y1 : w'.cell? ⟨wr.heap.size, 1, none⟩ = some (.int .i64 s.who) := s3.cell 1; have y2 : w'.cell? ⟨wr.heap.size, 2, none⟩ = some (.int .i64 s.to) := s3.cell 2; have y3 : w'.cell? ⟨wr.heap.size, 3, none⟩ = some (.int .i64 s.lot) := s3.cell 3; have y4 : w'.cell? ⟨wr.heap.size, 4, none⟩ = some (.int .i64 s.coins) := s3.cell 4; clear s1 s2 s3; go_simp; try with_reducible rfl
                            try simp only [Act.put, List.setIfInBounds_toArray, List.set_cons_zero, List.set_cons_succ]
                            refine wpAnyF_take (i := 11) (oi := { dst := some 184, op := Go.Op.indexAddr 42 (Go.Operand.tmp 15) (Go.Operand.tmp 183), type := 0, pos := "law.go:135", after := #[{ on := 10, ground := Go.Ground.data }, { on := 9, ground := Go.Ground.guard }], guard := some (9, false) }) (v := ?_) rfl (by kernel_rfl) (by kernel_rfl) (by kernel_rfl) (by kernel_rfl) (fun _ _ _ h => h) (Or.inl ⟨by rfl, ?_⟩) hS ?_
                            rotate_left
                            · intro w' hSw; obtain ⟨s1, s2, s3⟩ := hSw; have q0 := cell3 s1 hpw; have q1 := cell3 s1 hpt; have q2 := cell3 s2 hpw; have q3 := cell3 s2 hpt; rw [← HTW.out] at q0; rw [← HTT.out] at q1; rw [← HRW.out] at q2; rw [← HRT.out] at q3; have y0 : w'.cell? ⟨wr.heap.size, 0, none⟩ = some (.int .i64 s.kind) := s3.cell 0; have y1 : w'.cell? ⟨wr.heap.size, 1, none⟩ = some (.int .i64 s.who) := s3.cell 1; have y2 : w'.cell? ⟨wr.heap.size, 2, none⟩ = some (.int .i64 s.to) := s3.cell 2; have y3 : w'.cell? ⟨wr.heap.size, 3, none⟩ = some (.int .i64 s.lot) := s3.cell 3; have y4 : w'.cell? ⟨wr.heap.size, 4, none⟩ = some (.int .i64 s.coins) := s3.cell 4; clear s1 s2 s3; go_simp; try with_reducible rfl
                            try simp only [Act.put, List.setIfInBounds_toArray, List.set_cons_zero, List.set_cons_succ]
                            refine wpAnyF_take (i := 12) (oi := { dst := some 185, op := Go.Op.load 23 (Go.Operand.tmp 184), type := 23, pos := "law.go:135", after := #[{ on := 11, ground := Go.Ground.data }, { on := 9, ground := Go.Ground.guard }], guard := some (9, false) }) (v := ?_) rfl (by kernel_rfl) (by kernel_rfl) (by kernel_rfl) (by kernel_rfl) (fun _ _ _ h => h) (Or.inl ⟨by rfl, ?_⟩) hS ?_
                            rotate_left
                            · intro w' hSw; obtain ⟨s1, s2, s3⟩ := hSw; have q0 := cell3 s1 hpw; have q1 := cell3 s1 hpt; have q2 := cell3 s2 hpw; have q3 := cell3 s2 hpt; rw [← HTW.out] at q0; rw [← HTT.out] at q1; rw [← HRW.out] at q2; rw [← HRT.out] at q3; have y0 : w'.cell? ⟨wr.heap.size, 0, none⟩ = some (.int .i64 s.kind) := s3.cell 0; have y1 : w'.cell? ⟨wr.heap.size, 1, none⟩ = some (.int .i64 s.who) := s3.cell 1; have y2 : w'.cell? ⟨wr.heap.size, 2, none⟩ = some (.int .i64 s.to) := s3.cell 2; have y3 : w'.cell? ⟨wr.heap.size, 3, none⟩ = some (.int .i64 s.lot) := s3.cell 3; have y4 : w'.cell? ⟨wr.heap.size, 4, none⟩ = some (.int .i64 s.coins) := s3.cell 4; clear s1 s2 s3; go_simp; try with_reducible rfl
                            try simp only [Act.put, List.setIfInBounds_toArray, List.set_cons_zero, List.set_cons_succ]
                            refine wpAnyF_take (i := 13) (oi := { dst := some 186, op := Go.Op.move (Go.Operand.tmp 19), type := 3, pos := "law.go:135", after := #[{ on := 9, ground := Go.Ground.guard }], guard := some (9, false) }) (v := ?_) rfl (by kernel_rfl) (by kernel_rfl) (by kernel_rfl) (by kernel_rfl) (fun _ _ _ h => h) (Or.inl ⟨by rfl, ?_⟩) hS ?_
                            rotate_left
                            · intro w' hSw; obtain ⟨s1, s2, s3⟩ := hSw; have q0 := cell3 s1 hpw; have q1 := cell3 s1 hpt; have q2 := cell3 s2 hpw; have q3 := cell3 s2 hpt; rw [← HTW.out] at q0; rw [← HTT.out] at q1; rw [← HRW.out] at q2; rw [← HRT.out] at q3; have y0 : w'.cell? ⟨wr.heap.size, 0, none⟩ = some (.int .i64 s.kind) := s3.cell 0; have y1 : w'.cell? ⟨wr.heap.size, 1, none⟩ = some (.int .i64 s.who) := s3.cell 1; have y2 : w'.cell? ⟨wr.heap.size, 2, none⟩ = some (.int .i64 s.to) := s3.cell 2; have y3 : w'.cell? ⟨wr.heap.size, 3, none⟩ = some (.int .i64 s.lot) := s3.cell 3; have y4 : w'.cell? ⟨wr.heap.size, 4, none⟩ = some (.int .i64 s.coins) := s3.cell 4; clear s1 s2 s3; go_simp; try with_reducible rfl
                            try simp only [Act.put, List.setIfInBounds_toArray, List.set_cons_zero, List.set_cons_succ]
                            refine wpAnyF_take (i := 14) (oi := { dst := some 187, op := Go.Op.indexAddr 43 (Go.Operand.tmp 16) (Go.Operand.tmp 186), type := 0, pos := "law.go:135", after := #[{ on := 13, ground := Go.Ground.data }, { on := 9, ground := Go.Ground.guard }], guard := some (9, false) }) (v := ?_) rfl (by kernel_rfl) (by kernel_rfl) (by kernel_rfl) (by kernel_rfl) (fun _ _ _ h => h) (Or.inl ⟨by rfl, ?_⟩) hS ?_
                            rotate_left
                            · intro w' hSw; obtain ⟨s1, s2, s3⟩ := hSw; have q0 := cell3 s1 hpw; have q1 := cell3 s1 hpt; have q2 := cell3 s2 hpw; have q3 := cell3 s2 hpt; rw [← HTW.out] at q0; rw [← HTT.out] at q1; rw [← HRW.out] at q2; rw [← HRT.out] at q3; have y0 : w'.cell? ⟨wr.heap.size, 0, none⟩ = some (.int .i64 s.kind) := s3.cell 0; have y1 : w'.cell? ⟨wr.heap.size, 1, none⟩ = some (.int .i64 s.who) := s3.cell 1; have y2 : w'.cell? ⟨wr.heap.size, 2, none⟩ = some (.int .i64 s.to) := s3.cell 2; have y3 : w'.cell? ⟨wr.heap.size, 3, none⟩ = some (.int .i64 s.lot) := s3.cell 3; have y4 : w'.cell? ⟨wr.heap.size, 4, none⟩ = some (.int .i64 s.coins) := s3.cell 4; clear s1 s2 s3; go_simp; try with_reducible rfl
                            try simp only [Act.put, List.setIfInBounds_toArray, List.set_cons_zero, List.set_cons_succ]
                            refine wpAnyF_take (i := 15) (oi := { dst := some 188, op := Go.Op.load 37 (Go.Operand.tmp 187), type := 37, pos := "law.go:135", after := #[{ on := 14, ground := Go.Ground.data }, { on := 9, ground := Go.Ground.guard }], guard := some (9, false) }) (v := ?_) rfl (by kernel_rfl) (by kernel_rfl) (by kernel_rfl) (by kernel_rfl) (fun _ _ _ h => h) (Or.inl ⟨by rfl, ?_⟩) hS ?_
                            rotate_left
                            · intro w' hSw; obtain ⟨s1, s2, s3⟩ := hSw; have q0 := cell3 s1 hpw; have q1 := cell3 s1 hpt; have q2 := cell3 s2 hpw; have q3 := cell3 s2 hpt; rw [← HTW.out] at q0; rw [← HTT.out] at q1; rw [← HRW.out] at q2; rw [← HRT.out] at q3; have y0 : w'.cell? ⟨wr.heap.size, 0, none⟩ = some (.int .i64 s.kind) := s3.cell 0; have y1 : w'.cell? ⟨wr.heap.size, 1, none⟩ = some (.int .i64 s.who) := s3.cell 1; have y2 : w'.cell? ⟨wr.heap.size, 2, none⟩ = some (.int .i64 s.to) := s3.cell 2; have y3 : w'.cell? ⟨wr.heap.size, 3, none⟩ = some (.int .i64 s.lot) := s3.cell 3; have y4 : w'.cell? ⟨wr.heap.size, 4, none⟩ = some (.int .i64 s.coins) := s3.cell 4; clear s1 s2 s3; go_simp; try with_reducible rfl
                            try simp only [Act.put, List.setIfInBounds_toArray, List.set_cons_zero, List.set_cons_succ]
                            refine wpAnyF_take (i := 16) (oi := { dst := some 189, op := Go.Op.load 45 (Go.Operand.tmp 18), type := 45, pos := "law.go:135", after := #[{ on := 9, ground := Go.Ground.guard }], guard := some (9, false) }) (v := ?_) rfl (by kernel_rfl) (by kernel_rfl) (by kernel_rfl) (by kernel_rfl) (fun _ _ _ h => h) (Or.inl ⟨by rfl, ?_⟩) hS ?_
                            rotate_left
                            · intro w' hSw; obtain ⟨s1, s2, s3⟩ := hSw; have q0 := cell3 s1 hpw; have q1 := cell3 s1 hpt; have q2 := cell3 s2 hpw; have q3 := cell3 s2 hpt; rw [← HTW.out] at q0; rw [← HTT.out] at q1; rw [← HRW.out] at q2; rw [← HRT.out] at q3; have y0 : w'.cell? ⟨wr.heap.size, 0, none⟩ = some (.int .i64 s.kind) := s3.cell 0; have y1 : w'.cell? ⟨wr.heap.size, 1, none⟩ = some (.int .i64 s.who) := s3.cell 1; have y2 : w'.cell? ⟨wr.heap.size, 2, none⟩ = some (.int .i64 s.to) := s3.cell 2; have y3 : w'.cell? ⟨wr.heap.size, 3, none⟩ = some (.int .i64 s.lot) := s3.cell 3; have y4 : w'.cell? ⟨wr.heap.size, 4, none⟩ = some (.int .i64 s.coins) := s3.cell 4; clear s1 s2 s3; go_simp; try with_reducible rfl
                            try simp only [Act.put, List.setIfInBounds_toArray, List.set_cons_zero, List.set_cons_succ]
                            refine wpAnyF_ready (rs := [17]) (by kernel_rfl) (by simp) ?_
                            refine AllReadyF.cons (o := { dst := some 190, op := Go.Op.call { callee := Go.Callee.value (Go.Operand.func 19), args := #[Go.Operand.tmp 185, Go.Operand.tmp 188, Go.Operand.tmp 189], argTypes := #[23, 37, 45] }, type := 4, pos := "law.go:135", after := #[{ on := 12, ground := Go.Ground.data }, { on := 15, ground := Go.Ground.data }, { on := 16, ground := Go.Ground.data }, { on := 9, ground := Go.Ground.chain }, { on := 9, ground := Go.Ground.guard }], guard := some (9, false) }) rfl (by rfl) (fun K hK => ?_) ?_
                            · go_simp
                              rw [HTW.out, HRW.out]
                              refine (does_any (HTRV.out.pair pw hpw) (by unfold maxLen; omega) HWS.out).mono ?_
                              rintro e W7 ⟨rfl, hc7, f', hp7, ht7⟩
                              refine hK.out _ _ ?_ (fun hS => ?_)
                              · exact ⟨(HTRV.out.turn hpw hc7 hp7 ht7).ta, (HTRV.out.turn hpw hc7 hp7 ht7).ra, HYV2.out.chg hc7 (fun e => by obtain ⟨e1, e2⟩ := e; obtain ⟨x1, x2, x3⟩ := blk_far HYV2.out (by decide) (by decide) (HTRV.out.pair pw hpw) e1; omega)⟩
                              clear hK K
                              try simp only [Act.put, List.setIfInBounds_toArray, List.set_cons_zero, List.set_cons_succ]
                              have HTR7 := Lib.hid (HTRV.out.turn hpw hc7 hp7 ht7)
                              have HLOW7 := Lib.hid (HLOW9.out.turn ht7)
                              have HB7 := Lib.hid (HBV2.out.trans (hc7.below (B := w.heap.size) HBV2.out.size (fun k hk e => by obtain ⟨e1, e2⟩ := e; have := HLOW9.out pw hpw e1; omega)))
                              have hs7 := hc7.size
                              clear hc7 hp7 ht7
                              refine wpAnyF_take (i := 18) (oi := { dst := some 191, op := Go.Op.unOp Go.UnOp.not 4 (Go.Operand.tmp 190), type := 4, pos := "law.go:135", after := #[{ on := 17, ground := Go.Ground.data }, { on := 9, ground := Go.Ground.guard }], guard := some (9, false) }) (v := ?_) rfl (by kernel_rfl) (by kernel_rfl) (by kernel_rfl) (by kernel_rfl) (fun _ _ _ h => h) (Or.inl ⟨by rfl, ?_⟩) hS ?_
                              rotate_left
                              · intro w' hSw; obtain ⟨s1, s2, s3⟩ := hSw; have q0 := cell3 s1 hpw; have q1 := cell3 s1 hpt; have q2 := cell3 s2 hpw; have q3 := cell3 s2 hpt; rw [← HTW.out] at q0; rw [← HTT.out] at q1; rw [← HRW.out] at q2; rw [← HRT.out] at q3; have y0 : w'.cell? ⟨wr.heap.size, 0, none⟩ = some (.int .i64 s.kind) := s3.cell 0; have y1 : w'.cell? ⟨wr.heap.size, 1, none⟩ = some (.int .i64 s.who) := s3.cell 1; have y2 : w'.cell? ⟨wr.heap.size, 2, none⟩ = some (.int .i64 s.to) := s3.cell 2; have y3 : w'.cell? ⟨wr.heap.size, 3, none⟩ = some (.int .i64 s.lot) := s3.cell 3; have y4 : w'.cell? ⟨wr.heap.size, 4, none⟩ = some (.int .i64 s.coins) := s3.cell 4; clear s1 s2 s3; go_simp; try with_reducible rfl
                              try simp only [Act.put, List.setIfInBounds_toArray, List.set_cons_zero, List.set_cons_succ]
                              refine wpAnyF_take (i := 19) (oi := { dst := some 192, op := Go.Op.pick (Go.Operand.tmp 182) (Go.Operand.const (Go.Value.bool true)) (Go.Operand.tmp 191), type := 4, pos := "law.go:135", after := #[{ on := 9, ground := Go.Ground.data }, { on := 18, ground := Go.Ground.data }], guard := none }) (v := ?_) rfl (by kernel_rfl) (by kernel_rfl) (by kernel_rfl) (by kernel_rfl) (fun _ _ _ h => h) (Or.inl ⟨by rfl, ?_⟩) hS ?_
                              rotate_left
                              · intro w' hSw; obtain ⟨s1, s2, s3⟩ := hSw; have q0 := cell3 s1 hpw; have q1 := cell3 s1 hpt; have q2 := cell3 s2 hpw; have q3 := cell3 s2 hpt; rw [← HTW.out] at q0; rw [← HTT.out] at q1; rw [← HRW.out] at q2; rw [← HRT.out] at q3; have y0 : w'.cell? ⟨wr.heap.size, 0, none⟩ = some (.int .i64 s.kind) := s3.cell 0; have y1 : w'.cell? ⟨wr.heap.size, 1, none⟩ = some (.int .i64 s.who) := s3.cell 1; have y2 : w'.cell? ⟨wr.heap.size, 2, none⟩ = some (.int .i64 s.to) := s3.cell 2; have y3 : w'.cell? ⟨wr.heap.size, 3, none⟩ = some (.int .i64 s.lot) := s3.cell 3; have y4 : w'.cell? ⟨wr.heap.size, 4, none⟩ = some (.int .i64 s.coins) := s3.cell 4; clear s1 s2 s3; go_simp; try with_reducible rfl
                              try simp only [Act.put, List.setIfInBounds_toArray, List.set_cons_zero, List.set_cons_succ]
                              refine wpAnyF_take (i := 20) (oi := { dst := some 193, op := Go.Op.move (Go.Operand.tmp 192), type := 4, pos := "law.go:135", after := #[{ on := 19, ground := Go.Ground.data }, { on := 17, ground := Go.Ground.chain }], guard := none }) (v := ?_) rfl (by kernel_rfl) (by kernel_rfl) (by kernel_rfl) (by kernel_rfl) (fun _ _ _ h => h) (Or.inl ⟨by rfl, ?_⟩) hS ?_
                              rotate_left
                              · intro w' hSw; obtain ⟨s1, s2, s3⟩ := hSw; have q0 := cell3 s1 hpw; have q1 := cell3 s1 hpt; have q2 := cell3 s2 hpw; have q3 := cell3 s2 hpt; rw [← HTW.out] at q0; rw [← HTT.out] at q1; rw [← HRW.out] at q2; rw [← HRT.out] at q3; have y0 : w'.cell? ⟨wr.heap.size, 0, none⟩ = some (.int .i64 s.kind) := s3.cell 0; have y1 : w'.cell? ⟨wr.heap.size, 1, none⟩ = some (.int .i64 s.who) := s3.cell 1; have y2 : w'.cell? ⟨wr.heap.size, 2, none⟩ = some (.int .i64 s.to) := s3.cell 2; have y3 : w'.cell? ⟨wr.heap.size, 3, none⟩ = some (.int .i64 s.lot) := s3.cell 3; have y4 : w'.cell? ⟨wr.heap.size, 4, none⟩ = some (.int .i64 s.coins) := s3.cell 4; clear s1 s2 s3; go_simp; try with_reducible rfl
                              try simp only [Act.put, List.setIfInBounds_toArray, List.set_cons_zero, List.set_cons_succ]
                              refine wpAnyF_take (i := 21) (oi := { dst := some 194, op := Go.Op.move (Go.Operand.tmp 19), type := 3, pos := "law.go:135", after := #[{ on := 20, ground := Go.Ground.guard }], guard := some (20, false) }) (v := ?_) rfl (by kernel_rfl) (by kernel_rfl) (by kernel_rfl) (by kernel_rfl) (fun _ _ _ h => h) (Or.inl ⟨by rfl, ?_⟩) hS ?_
                              rotate_left
                              · intro w' hSw; obtain ⟨s1, s2, s3⟩ := hSw; have q0 := cell3 s1 hpw; have q1 := cell3 s1 hpt; have q2 := cell3 s2 hpw; have q3 := cell3 s2 hpt; rw [← HTW.out] at q0; rw [← HTT.out] at q1; rw [← HRW.out] at q2; rw [← HRT.out] at q3; have y0 : w'.cell? ⟨wr.heap.size, 0, none⟩ = some (.int .i64 s.kind) := s3.cell 0; have y1 : w'.cell? ⟨wr.heap.size, 1, none⟩ = some (.int .i64 s.who) := s3.cell 1; have y2 : w'.cell? ⟨wr.heap.size, 2, none⟩ = some (.int .i64 s.to) := s3.cell 2; have y3 : w'.cell? ⟨wr.heap.size, 3, none⟩ = some (.int .i64 s.lot) := s3.cell 3; have y4 : w'.cell? ⟨wr.heap.size, 4, none⟩ = some (.int .i64 s.coins) := s3.cell 4; clear s1 s2 s3; go_simp; try with_reducible rfl
                              try simp only [Act.put, List.setIfInBounds_toArray, List.set_cons_zero, List.set_cons_succ]
                              refine wpAnyF_take (i := 22) (oi := { dst := some 195, op := Go.Op.indexAddr 42 (Go.Operand.tmp 15) (Go.Operand.tmp 194), type := 0, pos := "law.go:135", after := #[{ on := 21, ground := Go.Ground.data }, { on := 20, ground := Go.Ground.guard }], guard := some (20, false) }) (v := ?_) rfl (by kernel_rfl) (by kernel_rfl) (by kernel_rfl) (by kernel_rfl) (fun _ _ _ h => h) (Or.inl ⟨by rfl, ?_⟩) hS ?_
                              rotate_left
                              · intro w' hSw; obtain ⟨s1, s2, s3⟩ := hSw; have q0 := cell3 s1 hpw; have q1 := cell3 s1 hpt; have q2 := cell3 s2 hpw; have q3 := cell3 s2 hpt; rw [← HTW.out] at q0; rw [← HTT.out] at q1; rw [← HRW.out] at q2; rw [← HRT.out] at q3; have y0 : w'.cell? ⟨wr.heap.size, 0, none⟩ = some (.int .i64 s.kind) := s3.cell 0; have y1 : w'.cell? ⟨wr.heap.size, 1, none⟩ = some (.int .i64 s.who) := s3.cell 1; have y2 : w'.cell? ⟨wr.heap.size, 2, none⟩ = some (.int .i64 s.to) := s3.cell 2; have y3 : w'.cell? ⟨wr.heap.size, 3, none⟩ = some (.int .i64 s.lot) := s3.cell 3; have y4 : w'.cell? ⟨wr.heap.size, 4, none⟩ = some (.int .i64 s.coins) := s3.cell 4; clear s1 s2 s3; go_simp; try with_reducible rfl
                              try simp only [Act.put, List.setIfInBounds_toArray, List.set_cons_zero, List.set_cons_succ]
                              refine wpAnyF_take (i := 23) (oi := { dst := some 196, op := Go.Op.load 23 (Go.Operand.tmp 195), type := 23, pos := "law.go:135", after := #[{ on := 22, ground := Go.Ground.data }, { on := 20, ground := Go.Ground.guard }], guard := some (20, false) }) (v := ?_) rfl (by kernel_rfl) (by kernel_rfl) (by kernel_rfl) (by kernel_rfl) (fun _ _ _ h => h) (Or.inl ⟨by rfl, ?_⟩) hS ?_
                              rotate_left
                              · intro w' hSw; obtain ⟨s1, s2, s3⟩ := hSw; have q0 := cell3 s1 hpw; have q1 := cell3 s1 hpt; have q2 := cell3 s2 hpw; have q3 := cell3 s2 hpt; rw [← HTW.out] at q0; rw [← HTT.out] at q1; rw [← HRW.out] at q2; rw [← HRT.out] at q3; have y0 : w'.cell? ⟨wr.heap.size, 0, none⟩ = some (.int .i64 s.kind) := s3.cell 0; have y1 : w'.cell? ⟨wr.heap.size, 1, none⟩ = some (.int .i64 s.who) := s3.cell 1; have y2 : w'.cell? ⟨wr.heap.size, 2, none⟩ = some (.int .i64 s.to) := s3.cell 2; have y3 : w'.cell? ⟨wr.heap.size, 3, none⟩ = some (.int .i64 s.lot) := s3.cell 3; have y4 : w'.cell? ⟨wr.heap.size, 4, none⟩ = some (.int .i64 s.coins) := s3.cell 4; clear s1 s2 s3; go_simp; try with_reducible rfl
                              try simp only [Act.put, List.setIfInBounds_toArray, List.set_cons_zero, List.set_cons_succ]
                              refine wpAnyF_take (i := 24) (oi := { dst := some 197, op := Go.Op.move (Go.Operand.tmp 19), type := 3, pos := "law.go:135", after := #[{ on := 20, ground := Go.Ground.guard }], guard := some (20, false) }) (v := ?_) rfl (by kernel_rfl) (by kernel_rfl) (by kernel_rfl) (by kernel_rfl) (fun _ _ _ h => h) (Or.inl ⟨by rfl, ?_⟩) hS ?_
                              rotate_left
                              · intro w' hSw; obtain ⟨s1, s2, s3⟩ := hSw; have q0 := cell3 s1 hpw; have q1 := cell3 s1 hpt; have q2 := cell3 s2 hpw; have q3 := cell3 s2 hpt; rw [← HTW.out] at q0; rw [← HTT.out] at q1; rw [← HRW.out] at q2; rw [← HRT.out] at q3; have y0 : w'.cell? ⟨wr.heap.size, 0, none⟩ = some (.int .i64 s.kind) := s3.cell 0; have y1 : w'.cell? ⟨wr.heap.size, 1, none⟩ = some (.int .i64 s.who) := s3.cell 1; have y2 : w'.cell? ⟨wr.heap.size, 2, none⟩ = some (.int .i64 s.to) := s3.cell 2; have y3 : w'.cell? ⟨wr.heap.size, 3, none⟩ = some (.int .i64 s.lot) := s3.cell 3; have y4 : w'.cell? ⟨wr.heap.size, 4, none⟩ = some (.int .i64 s.coins) := s3.cell 4; clear s1 s2 s3; go_simp; try with_reducible rfl
                              try simp only [Act.put, List.setIfInBounds_toArray, List.set_cons_zero, List.set_cons_succ]
                              refine wpAnyF_take (i := 25) (oi := { dst := some 198, op := Go.Op.indexAddr 43 (Go.Operand.tmp 16) (Go.Operand.tmp 197), type := 0, pos := "law.go:135", after := #[{ on := 24, ground := Go.Ground.data }, { on := 20, ground := Go.Ground.guard }], guard := some (20, false) }) (v := ?_) rfl (by kernel_rfl) (by kernel_rfl) (by kernel_rfl) (by kernel_rfl) (fun _ _ _ h => h) (Or.inl ⟨by rfl, ?_⟩) hS ?_
                              rotate_left
                              · intro w' hSw; obtain ⟨s1, s2, s3⟩ := hSw; have q0 := cell3 s1 hpw; have q1 := cell3 s1 hpt; have q2 := cell3 s2 hpw; have q3 := cell3 s2 hpt; rw [← HTW.out] at q0; rw [← HTT.out] at q1; rw [← HRW.out] at q2; rw [← HRT.out] at q3; have y0 : w'.cell? ⟨wr.heap.size, 0, none⟩ = some (.int .i64 s.kind) := s3.cell 0; have y1 : w'.cell? ⟨wr.heap.size, 1, none⟩ = some (.int .i64 s.who) := s3.cell 1; have y2 : w'.cell? ⟨wr.heap.size, 2, none⟩ = some (.int .i64 s.to) := s3.cell 2; have y3 : w'.cell? ⟨wr.heap.size, 3, none⟩ = some (.int .i64 s.lot) := s3.cell 3; have y4 : w'.cell? ⟨wr.heap.size, 4, none⟩ = some (.int .i64 s.coins) := s3.cell 4; clear s1 s2 s3; go_simp; try with_reducible rfl
                              try simp only [Act.put, List.setIfInBounds_toArray, List.set_cons_zero, List.set_cons_succ]
                              refine wpAnyF_take (i := 26) (oi := { dst := some 199, op := Go.Op.load 37 (Go.Operand.tmp 198), type := 37, pos := "law.go:135", after := #[{ on := 25, ground := Go.Ground.data }, { on := 20, ground := Go.Ground.guard }], guard := some (20, false) }) (v := ?_) rfl (by kernel_rfl) (by kernel_rfl) (by kernel_rfl) (by kernel_rfl) (fun _ _ _ h => h) (Or.inl ⟨by rfl, ?_⟩) hS ?_
                              rotate_left
                              · intro w' hSw; obtain ⟨s1, s2, s3⟩ := hSw; have q0 := cell3 s1 hpw; have q1 := cell3 s1 hpt; have q2 := cell3 s2 hpw; have q3 := cell3 s2 hpt; rw [← HTW.out] at q0; rw [← HTT.out] at q1; rw [← HRW.out] at q2; rw [← HRT.out] at q3; have y0 : w'.cell? ⟨wr.heap.size, 0, none⟩ = some (.int .i64 s.kind) := s3.cell 0; have y1 : w'.cell? ⟨wr.heap.size, 1, none⟩ = some (.int .i64 s.who) := s3.cell 1; have y2 : w'.cell? ⟨wr.heap.size, 2, none⟩ = some (.int .i64 s.to) := s3.cell 2; have y3 : w'.cell? ⟨wr.heap.size, 3, none⟩ = some (.int .i64 s.lot) := s3.cell 3; have y4 : w'.cell? ⟨wr.heap.size, 4, none⟩ = some (.int .i64 s.coins) := s3.cell 4; clear s1 s2 s3; go_simp; try with_reducible rfl
                              try simp only [Act.put, List.setIfInBounds_toArray, List.set_cons_zero, List.set_cons_succ]
                              refine wpAnyF_take (i := 27) (oi := { dst := some 200, op := Go.Op.fieldAddr 45 (Go.Operand.tmp 18) 3, type := 0, pos := "law.go:135", after := #[{ on := 20, ground := Go.Ground.guard }], guard := some (20, false) }) (v := ?_) rfl (by kernel_rfl) (by kernel_rfl) (by kernel_rfl) (by kernel_rfl) (fun _ _ _ h => h) (Or.inl ⟨by rfl, ?_⟩) hS ?_
                              rotate_left
                              · intro w' hSw; obtain ⟨s1, s2, s3⟩ := hSw; have q0 := cell3 s1 hpw; have q1 := cell3 s1 hpt; have q2 := cell3 s2 hpw; have q3 := cell3 s2 hpt; rw [← HTW.out] at q0; rw [← HTT.out] at q1; rw [← HRW.out] at q2; rw [← HRT.out] at q3; have y0 : w'.cell? ⟨wr.heap.size, 0, none⟩ = some (.int .i64 s.kind) := s3.cell 0; have y1 : w'.cell? ⟨wr.heap.size, 1, none⟩ = some (.int .i64 s.who) := s3.cell 1; have y2 : w'.cell? ⟨wr.heap.size, 2, none⟩ = some (.int .i64 s.to) := s3.cell 2; have y3 : w'.cell? ⟨wr.heap.size, 3, none⟩ = some (.int .i64 s.lot) := s3.cell 3; have y4 : w'.cell? ⟨wr.heap.size, 4, none⟩ = some (.int .i64 s.coins) := s3.cell 4; clear s1 s2 s3; go_simp; try with_reducible rfl
                              try simp only [Act.put, List.setIfInBounds_toArray, List.set_cons_zero, List.set_cons_succ]
                              refine wpAnyF_take (i := 28) (oi := { dst := some 201, op := Go.Op.load 3 (Go.Operand.tmp 200), type := 3, pos := "law.go:135", after := #[{ on := 27, ground := Go.Ground.data }, { on := 20, ground := Go.Ground.guard }], guard := some (20, false) }) (v := ?_) rfl (by kernel_rfl) (by kernel_rfl) (by kernel_rfl) (by kernel_rfl) (fun _ _ _ h => h) (Or.inl ⟨by rfl, ?_⟩) hS ?_
                              rotate_left
                              · intro w' hSw; obtain ⟨s1, s2, s3⟩ := hSw; have q0 := cell3 s1 hpw; have q1 := cell3 s1 hpt; have q2 := cell3 s2 hpw; have q3 := cell3 s2 hpt; rw [← HTW.out] at q0; rw [← HTT.out] at q1; rw [← HRW.out] at q2; rw [← HRT.out] at q3; have y0 : w'.cell? ⟨wr.heap.size, 0, none⟩ = some (.int .i64 s.kind) := s3.cell 0; have y1 : w'.cell? ⟨wr.heap.size, 1, none⟩ = some (.int .i64 s.who) := s3.cell 1; have y2 : w'.cell? ⟨wr.heap.size, 2, none⟩ = some (.int .i64 s.to) := s3.cell 2; have y3 : w'.cell? ⟨wr.heap.size, 3, none⟩ = some (.int .i64 s.lot) := s3.cell 3; have y4 : w'.cell? ⟨wr.heap.size, 4, none⟩ = some (.int .i64 s.coins) := s3.cell 4; clear s1 s2 s3; go_simp; try with_reducible rfl
                              try simp only [Act.put, List.setIfInBounds_toArray, List.set_cons_zero, List.set_cons_succ]
                              refine wpAnyF_ready (rs := [29]) (by kernel_rfl) (by simp) ?_
                              refine AllReadyF.cons (o := { dst := some 202, op := Go.Op.call { callee := Go.Callee.value (Go.Operand.func 20), args := #[Go.Operand.tmp 196, Go.Operand.tmp 199, Go.Operand.tmp 201], argTypes := #[23, 37, 3] }, type := 4, pos := "law.go:135", after := #[{ on := 23, ground := Go.Ground.data }, { on := 26, ground := Go.Ground.data }, { on := 28, ground := Go.Ground.data }, { on := 20, ground := Go.Ground.chain }, { on := 20, ground := Go.Ground.guard }], guard := some (20, false) }) rfl (by rfl) (fun K hK => ?_) ?_
                              · go_simp
                                rw [HTW.out, HRW.out]
                                refine (tells_any (HTR7.out.pair pw hpw) HWS.out.1).mono ?_
                                rintro e W8 ⟨rfl, hb8⟩
                                refine hK.out _ _ ?_ (fun hS => ?_)
                                · exact ⟨hS.1.grow hb8, hS.2.1.grow hb8, hS.2.2.grow hb8⟩
                                clear hK K
                                try simp only [Act.put, List.setIfInBounds_toArray, List.set_cons_zero, List.set_cons_succ]
                                have HTR8 := Lib.hid (HTR7.out.grow hb8)
                                have HB8' := Lib.hid (HB7.out.trans (hb8.mono HB7.out.size))
                                clear hb8
                                refine wpAnyF_take (i := 30) (oi := { dst := some 203, op := Go.Op.unOp Go.UnOp.not 4 (Go.Operand.tmp 202), type := 4, pos := "law.go:135", after := #[{ on := 29, ground := Go.Ground.data }, { on := 20, ground := Go.Ground.guard }], guard := some (20, false) }) (v := ?_) rfl (by kernel_rfl) (by kernel_rfl) (by kernel_rfl) (by kernel_rfl) (fun _ _ _ h => h) (Or.inl ⟨by rfl, ?_⟩) hS ?_
                                rotate_left
                                · intro w' hSw; obtain ⟨s1, s2, s3⟩ := hSw; have q0 := cell3 s1 hpw; have q1 := cell3 s1 hpt; have q2 := cell3 s2 hpw; have q3 := cell3 s2 hpt; rw [← HTW.out] at q0; rw [← HTT.out] at q1; rw [← HRW.out] at q2; rw [← HRT.out] at q3; have y0 : w'.cell? ⟨wr.heap.size, 0, none⟩ = some (.int .i64 s.kind) := s3.cell 0; have y1 : w'.cell? ⟨wr.heap.size, 1, none⟩ = some (.int .i64 s.who) := s3.cell 1; have y2 : w'.cell? ⟨wr.heap.size, 2, none⟩ = some (.int .i64 s.to) := s3.cell 2; have y3 : w'.cell? ⟨wr.heap.size, 3, none⟩ = some (.int .i64 s.lot) := s3.cell 3; have y4 : w'.cell? ⟨wr.heap.size, 4, none⟩ = some (.int .i64 s.coins) := s3.cell 4; clear s1 s2 s3; go_simp; try with_reducible rfl
                                try simp only [Act.put, List.setIfInBounds_toArray, List.set_cons_zero, List.set_cons_succ]
                                refine wpAnyF_take (i := 31) (oi := { dst := some 204, op := Go.Op.pick (Go.Operand.tmp 193) (Go.Operand.const (Go.Value.bool true)) (Go.Operand.tmp 203), type := 4, pos := "law.go:135", after := #[{ on := 20, ground := Go.Ground.data }, { on := 30, ground := Go.Ground.data }], guard := none }) (v := ?_) rfl (by kernel_rfl) (by kernel_rfl) (by kernel_rfl) (by kernel_rfl) (fun _ _ _ h => h) (Or.inl ⟨by rfl, ?_⟩) hS ?_
                                rotate_left
                                · intro w' hSw; obtain ⟨s1, s2, s3⟩ := hSw; have q0 := cell3 s1 hpw; have q1 := cell3 s1 hpt; have q2 := cell3 s2 hpw; have q3 := cell3 s2 hpt; rw [← HTW.out] at q0; rw [← HTT.out] at q1; rw [← HRW.out] at q2; rw [← HRT.out] at q3; have y0 : w'.cell? ⟨wr.heap.size, 0, none⟩ = some (.int .i64 s.kind) := s3.cell 0; have y1 : w'.cell? ⟨wr.heap.size, 1, none⟩ = some (.int .i64 s.who) := s3.cell 1; have y2 : w'.cell? ⟨wr.heap.size, 2, none⟩ = some (.int .i64 s.to) := s3.cell 2; have y3 : w'.cell? ⟨wr.heap.size, 3, none⟩ = some (.int .i64 s.lot) := s3.cell 3; have y4 : w'.cell? ⟨wr.heap.size, 4, none⟩ = some (.int .i64 s.coins) := s3.cell 4; clear s1 s2 s3; go_simp; try with_reducible rfl
                                try simp only [Act.put, List.setIfInBounds_toArray, List.set_cons_zero, List.set_cons_succ]
                                refine wpAnyF_done (by kernel_rfl) ?_ _
                                go_wp2_with fail
                                go_roundw
                                case rel => exact ⟨k + 1, _, _, _, _, _, _, by omega, by go_num, HTR8.out, HLOW7.out, HB8'.out⟩
                                case measure => simp [intOf]; omega
                              exact AllReadyF.nil
                            exact AllReadyF.nil
                          exact AllReadyF.nil
                        exact AllReadyF.nil
                      exact AllReadyF.nil
                    exact AllReadyF.nil
                  exact AllReadyF.nil
                · have d7 : (s.kind == 7) = false := by simpa using k7
                  by_cases k8 : s.kind = 8
                  · have d8 : (s.kind == 8) = true := by simpa using k8
                    clear k7 k8
                    obtain ⟨sb, hsb⟩ : ∃ z, z = (f pw).same (f pt) := ⟨_, rfl⟩
                    have HSBB := Lib.hid hsb
                    obtain ⟨tvw, htvw⟩ : ∃ z, z = tv pw := ⟨_, rfl⟩
                    obtain ⟨tvt, htvt⟩ : ∃ z, z = tv pt := ⟨_, rfl⟩
                    obtain ⟨rvw, hrvw⟩ : ∃ z, z = rv pw := ⟨_, rfl⟩
                    obtain ⟨rvt, hrvt⟩ : ∃ z, z = rv pt := ⟨_, rfl⟩
                    have HTW := Lib.hid htvw
                    have HTT := Lib.hid htvt
                    have HRW := Lib.hid hrvw
                    have HRT := Lib.hid hrvt
                    clear hsb htvw htvt hrvw hrvt
                    go_wp2_with fail
                    refine wp_region_F (Below V2.heap.size V2) [] (by kernel_rfl) ((Below.refl _ _).drew) (fun hS => ?_)
                    refine wpAnyF_take (i := 0) (oi := { dst := some 158, op := Go.Op.move (Go.Operand.tmp 19), type := 3, pos := "law.go:131", after := #[], guard := none }) (v := ?_) rfl (by kernel_rfl) (by kernel_rfl) (by kernel_rfl) (by kernel_rfl) (fun _ _ _ h => h) (Or.inl ⟨by rfl, ?_⟩) hS ?_
                    rotate_left
                    · intro w' hSw; have s1 := HTR2.out.ta.grow hSw; have s2 := HTR2.out.ra.grow hSw; have q0 := cell3 s1 hpw; have q1 := cell3 s1 hpt; have q2 := cell3 s2 hpw; have q3 := cell3 s2 hpt; rw [← HTW.out] at q0; rw [← HTT.out] at q1; rw [← HRW.out] at q2; rw [← HRT.out] at q3; clear s1 s2; go_simp; try with_reducible rfl
                    try simp only [Act.put, List.setIfInBounds_toArray, List.set_cons_zero, List.set_cons_succ]
                    refine wpAnyF_take (i := 1) (oi := { dst := some 159, op := Go.Op.indexAddr 42 (Go.Operand.tmp 15) (Go.Operand.tmp 158), type := 0, pos := "law.go:131", after := #[{ on := 0, ground := Go.Ground.data }], guard := none }) (v := ?_) rfl (by kernel_rfl) (by kernel_rfl) (by kernel_rfl) (by kernel_rfl) (fun _ _ _ h => h) (Or.inl ⟨by rfl, ?_⟩) hS ?_
                    rotate_left
                    · intro w' hSw; have s1 := HTR2.out.ta.grow hSw; have s2 := HTR2.out.ra.grow hSw; have q0 := cell3 s1 hpw; have q1 := cell3 s1 hpt; have q2 := cell3 s2 hpw; have q3 := cell3 s2 hpt; rw [← HTW.out] at q0; rw [← HTT.out] at q1; rw [← HRW.out] at q2; rw [← HRT.out] at q3; clear s1 s2; go_simp; try with_reducible rfl
                    try simp only [Act.put, List.setIfInBounds_toArray, List.set_cons_zero, List.set_cons_succ]
                    refine wpAnyF_take (i := 2) (oi := { dst := some 160, op := Go.Op.load 23 (Go.Operand.tmp 159), type := 23, pos := "law.go:131", after := #[{ on := 1, ground := Go.Ground.data }], guard := none }) (v := ?_) rfl (by kernel_rfl) (by kernel_rfl) (by kernel_rfl) (by kernel_rfl) (fun _ _ _ h => h) (Or.inl ⟨by rfl, ?_⟩) hS ?_
                    rotate_left
                    · intro w' hSw; have s1 := HTR2.out.ta.grow hSw; have s2 := HTR2.out.ra.grow hSw; have q0 := cell3 s1 hpw; have q1 := cell3 s1 hpt; have q2 := cell3 s2 hpw; have q3 := cell3 s2 hpt; rw [← HTW.out] at q0; rw [← HTT.out] at q1; rw [← HRW.out] at q2; rw [← HRT.out] at q3; clear s1 s2; go_simp; try with_reducible rfl
                    try simp only [Act.put, List.setIfInBounds_toArray, List.set_cons_zero, List.set_cons_succ]
                    refine wpAnyF_take (i := 3) (oi := { dst := some 161, op := Go.Op.move (Go.Operand.tmp 20), type := 3, pos := "law.go:131", after := #[], guard := none }) (v := ?_) rfl (by kernel_rfl) (by kernel_rfl) (by kernel_rfl) (by kernel_rfl) (fun _ _ _ h => h) (Or.inl ⟨by rfl, ?_⟩) hS ?_
                    rotate_left
                    · intro w' hSw; have s1 := HTR2.out.ta.grow hSw; have s2 := HTR2.out.ra.grow hSw; have q0 := cell3 s1 hpw; have q1 := cell3 s1 hpt; have q2 := cell3 s2 hpw; have q3 := cell3 s2 hpt; rw [← HTW.out] at q0; rw [← HTT.out] at q1; rw [← HRW.out] at q2; rw [← HRT.out] at q3; clear s1 s2; go_simp; try with_reducible rfl
                    try simp only [Act.put, List.setIfInBounds_toArray, List.set_cons_zero, List.set_cons_succ]
                    refine wpAnyF_take (i := 4) (oi := { dst := some 162, op := Go.Op.indexAddr 42 (Go.Operand.tmp 15) (Go.Operand.tmp 161), type := 0, pos := "law.go:131", after := #[{ on := 3, ground := Go.Ground.data }], guard := none }) (v := ?_) rfl (by kernel_rfl) (by kernel_rfl) (by kernel_rfl) (by kernel_rfl) (fun _ _ _ h => h) (Or.inl ⟨by rfl, ?_⟩) hS ?_
                    rotate_left
                    · intro w' hSw; have s1 := HTR2.out.ta.grow hSw; have s2 := HTR2.out.ra.grow hSw; have q0 := cell3 s1 hpw; have q1 := cell3 s1 hpt; have q2 := cell3 s2 hpw; have q3 := cell3 s2 hpt; rw [← HTW.out] at q0; rw [← HTT.out] at q1; rw [← HRW.out] at q2; rw [← HRT.out] at q3; clear s1 s2; go_simp; try with_reducible rfl
                    try simp only [Act.put, List.setIfInBounds_toArray, List.set_cons_zero, List.set_cons_succ]
                    refine wpAnyF_take (i := 5) (oi := { dst := some 163, op := Go.Op.load 23 (Go.Operand.tmp 162), type := 23, pos := "law.go:131", after := #[{ on := 4, ground := Go.Ground.data }], guard := none }) (v := ?_) rfl (by kernel_rfl) (by kernel_rfl) (by kernel_rfl) (by kernel_rfl) (fun _ _ _ h => h) (Or.inl ⟨by rfl, ?_⟩) hS ?_
                    rotate_left
                    · intro w' hSw; have s1 := HTR2.out.ta.grow hSw; have s2 := HTR2.out.ra.grow hSw; have q0 := cell3 s1 hpw; have q1 := cell3 s1 hpt; have q2 := cell3 s2 hpw; have q3 := cell3 s2 hpt; rw [← HTW.out] at q0; rw [← HTT.out] at q1; rw [← HRW.out] at q2; rw [← HRT.out] at q3; clear s1 s2; go_simp; try with_reducible rfl
                    try simp only [Act.put, List.setIfInBounds_toArray, List.set_cons_zero, List.set_cons_succ]
                    refine wpAnyF_take (i := 7) (oi := { dst := some 165, op := Go.Op.move (Go.Operand.tmp 19), type := 3, pos := "law.go:131", after := #[], guard := none }) (v := ?_) rfl (by kernel_rfl) (by kernel_rfl) (by kernel_rfl) (by kernel_rfl) (fun _ _ _ h => h) (Or.inl ⟨by rfl, ?_⟩) hS ?_
                    rotate_left
                    · intro w' hSw; have s1 := HTR2.out.ta.grow hSw; have s2 := HTR2.out.ra.grow hSw; have q0 := cell3 s1 hpw; have q1 := cell3 s1 hpt; have q2 := cell3 s2 hpw; have q3 := cell3 s2 hpt; rw [← HTW.out] at q0; rw [← HTT.out] at q1; rw [← HRW.out] at q2; rw [← HRT.out] at q3; clear s1 s2; go_simp; try with_reducible rfl
                    try simp only [Act.put, List.setIfInBounds_toArray, List.set_cons_zero, List.set_cons_succ]
                    refine wpAnyF_take (i := 8) (oi := { dst := some 166, op := Go.Op.indexAddr 43 (Go.Operand.tmp 16) (Go.Operand.tmp 165), type := 0, pos := "law.go:131", after := #[{ on := 7, ground := Go.Ground.data }], guard := none }) (v := ?_) rfl (by kernel_rfl) (by kernel_rfl) (by kernel_rfl) (by kernel_rfl) (fun _ _ _ h => h) (Or.inl ⟨by rfl, ?_⟩) hS ?_
                    rotate_left
                    · intro w' hSw; have s1 := HTR2.out.ta.grow hSw; have s2 := HTR2.out.ra.grow hSw; have q0 := cell3 s1 hpw; have q1 := cell3 s1 hpt; have q2 := cell3 s2 hpw; have q3 := cell3 s2 hpt; rw [← HTW.out] at q0; rw [← HTT.out] at q1; rw [← HRW.out] at q2; rw [← HRT.out] at q3; clear s1 s2; go_simp; try with_reducible rfl
                    try simp only [Act.put, List.setIfInBounds_toArray, List.set_cons_zero, List.set_cons_succ]
                    refine wpAnyF_take (i := 9) (oi := { dst := some 167, op := Go.Op.load 37 (Go.Operand.tmp 166), type := 37, pos := "law.go:131", after := #[{ on := 8, ground := Go.Ground.data }], guard := none }) (v := ?_) rfl (by kernel_rfl) (by kernel_rfl) (by kernel_rfl) (by kernel_rfl) (fun _ _ _ h => h) (Or.inl ⟨by rfl, ?_⟩) hS ?_
                    rotate_left
                    · intro w' hSw; have s1 := HTR2.out.ta.grow hSw; have s2 := HTR2.out.ra.grow hSw; have q0 := cell3 s1 hpw; have q1 := cell3 s1 hpt; have q2 := cell3 s2 hpw; have q3 := cell3 s2 hpt; rw [← HTW.out] at q0; rw [← HTT.out] at q1; rw [← HRW.out] at q2; rw [← HRT.out] at q3; clear s1 s2; go_simp; try with_reducible rfl
                    try simp only [Act.put, List.setIfInBounds_toArray, List.set_cons_zero, List.set_cons_succ]
                    refine wpAnyF_take (i := 10) (oi := { dst := some 168, op := Go.Op.move (Go.Operand.tmp 20), type := 3, pos := "law.go:131", after := #[], guard := none }) (v := ?_) rfl (by kernel_rfl) (by kernel_rfl) (by kernel_rfl) (by kernel_rfl) (fun _ _ _ h => h) (Or.inl ⟨by rfl, ?_⟩) hS ?_
                    rotate_left
                    · intro w' hSw; have s1 := HTR2.out.ta.grow hSw; have s2 := HTR2.out.ra.grow hSw; have q0 := cell3 s1 hpw; have q1 := cell3 s1 hpt; have q2 := cell3 s2 hpw; have q3 := cell3 s2 hpt; rw [← HTW.out] at q0; rw [← HTT.out] at q1; rw [← HRW.out] at q2; rw [← HRT.out] at q3; clear s1 s2; go_simp; try with_reducible rfl
                    try simp only [Act.put, List.setIfInBounds_toArray, List.set_cons_zero, List.set_cons_succ]
                    refine wpAnyF_take (i := 11) (oi := { dst := some 169, op := Go.Op.indexAddr 43 (Go.Operand.tmp 16) (Go.Operand.tmp 168), type := 0, pos := "law.go:131", after := #[{ on := 10, ground := Go.Ground.data }], guard := none }) (v := ?_) rfl (by kernel_rfl) (by kernel_rfl) (by kernel_rfl) (by kernel_rfl) (fun _ _ _ h => h) (Or.inl ⟨by rfl, ?_⟩) hS ?_
                    rotate_left
                    · intro w' hSw; have s1 := HTR2.out.ta.grow hSw; have s2 := HTR2.out.ra.grow hSw; have q0 := cell3 s1 hpw; have q1 := cell3 s1 hpt; have q2 := cell3 s2 hpw; have q3 := cell3 s2 hpt; rw [← HTW.out] at q0; rw [← HTT.out] at q1; rw [← HRW.out] at q2; rw [← HRT.out] at q3; clear s1 s2; go_simp; try with_reducible rfl
                    try simp only [Act.put, List.setIfInBounds_toArray, List.set_cons_zero, List.set_cons_succ]
                    refine wpAnyF_take (i := 12) (oi := { dst := some 170, op := Go.Op.load 37 (Go.Operand.tmp 169), type := 37, pos := "law.go:131", after := #[{ on := 11, ground := Go.Ground.data }], guard := none }) (v := ?_) rfl (by kernel_rfl) (by kernel_rfl) (by kernel_rfl) (by kernel_rfl) (fun _ _ _ h => h) (Or.inl ⟨by rfl, ?_⟩) hS ?_
                    rotate_left
                    · intro w' hSw; have s1 := HTR2.out.ta.grow hSw; have s2 := HTR2.out.ra.grow hSw; have q0 := cell3 s1 hpw; have q1 := cell3 s1 hpt; have q2 := cell3 s2 hpw; have q3 := cell3 s2 hpt; rw [← HTW.out] at q0; rw [← HTT.out] at q1; rw [← HRW.out] at q2; rw [← HRT.out] at q3; clear s1 s2; go_simp; try with_reducible rfl
                    try simp only [Act.put, List.setIfInBounds_toArray, List.set_cons_zero, List.set_cons_succ]
                    refine wpAnyF_ready (rs := [6]) (by kernel_rfl) (by simp) ?_
                    refine AllReadyF.cons (o := { dst := some 164, op := Go.Op.call { callee := Go.Callee.value (Go.Operand.func 10), args := #[Go.Operand.tmp 160, Go.Operand.tmp 163], argTypes := #[23, 23] }, type := 4, pos := "law.go:131", after := #[{ on := 2, ground := Go.Ground.data }, { on := 5, ground := Go.Ground.data }], guard := none }) rfl (by rfl) (fun K hK => ?_) ?_
                    · go_simp
                      rw [HTW.out, HTT.out]
                      refine (same_any ((HTR2.out.grow hS).pair pw hpw).at_ ((HTR2.out.grow hS).pair pt hpt).at_ ((HTR2.out.grow hS).pair pw hpw).ok ((HTR2.out.grow hS).pair pt hpt).ok).mono ?_
                      rintro e W5 ⟨rfl, hb5⟩
                      rw [← HSBB.out]
                      refine hK.out _ _ ?_ (fun hS => ?_)
                      · exact hS.trans (hb5.mono hS.size)
                      clear hK K
                      try simp only [Act.put, List.setIfInBounds_toArray, List.set_cons_zero, List.set_cons_succ]
                      clear hb5
                      refine wpAnyF_ready (rs := [13]) (by kernel_rfl) (by simp) ?_
                      refine AllReadyF.cons (o := { dst := some 171, op := Go.Op.call { callee := Go.Callee.value (Go.Operand.func 18), args := #[Go.Operand.tmp 167, Go.Operand.tmp 170], argTypes := #[37, 37] }, type := 4, pos := "law.go:131", after := #[{ on := 9, ground := Go.Ground.data }, { on := 12, ground := Go.Ground.data }, { on := 6, ground := Go.Ground.chain }], guard := none }) rfl (by rfl) (fun K hK => ?_) ?_
                      · go_simp
                        rw [HRW.out, HRT.out]
                        refine (refSame_any ((HTR2.out.grow hS).pair pw hpw) ((HTR2.out.grow hS).pair pt hpt)).mono ?_
                        rintro e W6 ⟨rfl, hb6⟩
                        rw [← HSBB.out]
                        refine hK.out _ _ ?_ (fun hS => ?_)
                        · exact hS.trans (hb6.mono hS.size)
                        clear hK K
                        try simp only [Act.put, List.setIfInBounds_toArray, List.set_cons_zero, List.set_cons_succ]
                        clear hb6
                        refine wpAnyF_take (i := 14) (oi := { dst := some 172, op := Go.Op.binOp Go.BinOp.neq 4 (Go.Operand.tmp 164) (Go.Operand.tmp 171) 4, type := 4, pos := "law.go:131", after := #[{ on := 6, ground := Go.Ground.data }, { on := 13, ground := Go.Ground.data }], guard := none }) (v := ?_) rfl (by kernel_rfl) (by kernel_rfl) (by kernel_rfl) (by kernel_rfl) (fun _ _ _ h => h) (Or.inl ⟨by rfl, ?_⟩) hS ?_
                        rotate_left
                        · intro w' hSw; have s1 := HTR2.out.ta.grow hSw; have s2 := HTR2.out.ra.grow hSw; have q0 := cell3 s1 hpw; have q1 := cell3 s1 hpt; have q2 := cell3 s2 hpw; have q3 := cell3 s2 hpt; rw [← HTW.out] at q0; rw [← HTT.out] at q1; rw [← HRW.out] at q2; rw [← HRT.out] at q3; clear s1 s2; go_simp; try with_reducible rfl
                        try simp only [Act.put, List.setIfInBounds_toArray, List.set_cons_zero, List.set_cons_succ]
                        refine wpAnyF_done (by kernel_rfl) ?_ _
                        have HTR9 := Lib.hid (HTR2.out.grow hS)
                        have HY9 := Lib.hid (HY2.out.grow hS)
                        have HB9 := Lib.hid (HB2.out.trans (hS.mono HB2.out.size))
                        have HLOW9 := HLOW
                        clear hS HTW HTT HRW HRT HSBB
                        go_wp2_with fail
                        obtain ⟨VV, hVV⟩ : ∃ W : World, W = W6.drew := ⟨_, rfl⟩
                        have htr := HTR9.out.grow (Below.refl _ _).drew
                        have hyb := HY9.out.grow (Below.refl _ _).drew
                        have hbb := HB9.out.trans ((Below.refl w.heap.size W6).drew)
                        rw [← hVV] at htr hyb hbb
                        have HTRV := Lib.hid htr
                        have HYV2 := Lib.hid hyb
                        have HBV2 := Lib.hid hbb
                        obtain ⟨zt, hzt⟩ : ∃ z, z = !(f pt).there := ⟨_, rfl⟩
                        have i0 : (tv pt).isNone = zt := (htr.none_ hpt).1.trans hzt.symm
                        have i1 : (rv pt).isNone = zt := (htr.none_ hpt).2.trans hzt.symm
                        have hS0 : Blk W6.drew wq.heap.size 42 #[.pointer (tv 0), .pointer (tv 1), .pointer (tv 2)] ∧ Blk W6.drew (wq.heap.size + 1) 43 #[.pointer (rv 0), .pointer (rv 1), .pointer (rv 2)] ∧ Blk W6.drew wr.heap.size 45 #[.int .i64 s.kind, .int .i64 s.who, .int .i64 s.to, .int .i64 s.lot, .int .i64 s.coins] := ⟨HTR9.out.ta.grow (Below.refl _ _).drew, HTR9.out.ra.grow (Below.refl _ _).drew, HY9.out.grow (Below.refl _ _).drew⟩
                        obtain ⟨tvw, htvw⟩ : ∃ z, z = tv pw := ⟨_, rfl⟩
                        obtain ⟨tvt, htvt⟩ : ∃ z, z = tv pt := ⟨_, rfl⟩
                        obtain ⟨rvw, hrvw⟩ : ∃ z, z = rv pw := ⟨_, rfl⟩
                        obtain ⟨rvt, hrvt⟩ : ∃ z, z = rv pt := ⟨_, rfl⟩
                        rw [← htvt] at i0
                        rw [← hrvt] at i1
                        have HS0 := Lib.hid hS0
                        have HTW := Lib.hid htvw
                        have HTT := Lib.hid htvt
                        have HRW := Lib.hid hrvw
                        have HRT := Lib.hid hrvt
                        clear htr hyb hbb hzt hS0 htvw htvt hrvw hrvt
                        refine wp_region_F (fun W => Blk W wq.heap.size 42 #[.pointer (tv 0), .pointer (tv 1), .pointer (tv 2)] ∧ Blk W (wq.heap.size + 1) 43 #[.pointer (rv 0), .pointer (rv 1), .pointer (rv 2)] ∧ Blk W wr.heap.size 45 #[.int .i64 s.kind, .int .i64 s.who, .int .i64 s.to, .int .i64 s.lot, .int .i64 s.coins]) [] (by kernel_rfl) HS0.out (fun hS => ?_)
                        rw [← hVV] at hS ⊢
                        clear hVV HS0
                        refine wpAnyF_take (i := 0) (oi := { dst := some 173, op := Go.Op.move (Go.Operand.tmp 20), type := 3, pos := "law.go:135", after := #[], guard := none }) (v := ?_) rfl (by kernel_rfl) (by kernel_rfl) (by kernel_rfl) (by kernel_rfl) (fun _ _ _ h => h) (Or.inl ⟨by rfl, ?_⟩) hS ?_
                        rotate_left
                        · intro w' hSw; obtain ⟨s1, s2, s3⟩ := hSw; have q0 := cell3 s1 hpw; have q1 := cell3 s1 hpt; have q2 := cell3 s2 hpw; have q3 := cell3 s2 hpt; rw [← HTW.out] at q0; rw [← HTT.out] at q1; rw [← HRW.out] at q2; rw [← HRT.out] at q3; have y0 : w'.cell? ⟨wr.heap.size, 0, none⟩ = some (.int .i64 s.kind) := s3.cell 0; have y1 : w'.cell? ⟨wr.heap.size, 1, none⟩ = some (.int .i64 s.who) := s3.cell 1; have y2 : w'.cell? ⟨wr.heap.size, 2, none⟩ = some (.int .i64 s.to) := s3.cell 2; have y3 : w'.cell? ⟨wr.heap.size, 3, none⟩ = some (.int .i64 s.lot) := s3.cell 3; have y4 : w'.cell? ⟨wr.heap.size, 4, none⟩ = some (.int .i64 s.coins) := s3.cell 4; clear s1 s2 s3; go_simp; try with_reducible rfl
                        try simp only [Act.put, List.setIfInBounds_toArray, List.set_cons_zero, List.set_cons_succ]
                        refine wpAnyF_take (i := 1) (oi := { dst := some 174, op := Go.Op.indexAddr 42 (Go.Operand.tmp 15) (Go.Operand.tmp 173), type := 0, pos := "law.go:135", after := #[{ on := 0, ground := Go.Ground.data }], guard := none }) (v := ?_) rfl (by kernel_rfl) (by kernel_rfl) (by kernel_rfl) (by kernel_rfl) (fun _ _ _ h => h) (Or.inl ⟨by rfl, ?_⟩) hS ?_
                        rotate_left
                        · intro w' hSw; obtain ⟨s1, s2, s3⟩ := hSw; have q0 := cell3 s1 hpw; have q1 := cell3 s1 hpt; have q2 := cell3 s2 hpw; have q3 := cell3 s2 hpt; rw [← HTW.out] at q0; rw [← HTT.out] at q1; rw [← HRW.out] at q2; rw [← HRT.out] at q3; have y0 : w'.cell? ⟨wr.heap.size, 0, none⟩ = some (.int .i64 s.kind) := s3.cell 0; have y1 : w'.cell? ⟨wr.heap.size, 1, none⟩ = some (.int .i64 s.who) := s3.cell 1; have y2 : w'.cell? ⟨wr.heap.size, 2, none⟩ = some (.int .i64 s.to) := s3.cell 2; have y3 : w'.cell? ⟨wr.heap.size, 3, none⟩ = some (.int .i64 s.lot) := s3.cell 3; have y4 : w'.cell? ⟨wr.heap.size, 4, none⟩ = some (.int .i64 s.coins) := s3.cell 4; clear s1 s2 s3; go_simp; try with_reducible rfl
                        try simp only [Act.put, List.setIfInBounds_toArray, List.set_cons_zero, List.set_cons_succ]
                        refine wpAnyF_take (i := 2) (oi := { dst := some 175, op := Go.Op.load 23 (Go.Operand.tmp 174), type := 23, pos := "law.go:135", after := #[{ on := 1, ground := Go.Ground.data }], guard := none }) (v := ?_) rfl (by kernel_rfl) (by kernel_rfl) (by kernel_rfl) (by kernel_rfl) (fun _ _ _ h => h) (Or.inl ⟨by rfl, ?_⟩) hS ?_
                        rotate_left
                        · intro w' hSw; obtain ⟨s1, s2, s3⟩ := hSw; have q0 := cell3 s1 hpw; have q1 := cell3 s1 hpt; have q2 := cell3 s2 hpw; have q3 := cell3 s2 hpt; rw [← HTW.out] at q0; rw [← HTT.out] at q1; rw [← HRW.out] at q2; rw [← HRT.out] at q3; have y0 : w'.cell? ⟨wr.heap.size, 0, none⟩ = some (.int .i64 s.kind) := s3.cell 0; have y1 : w'.cell? ⟨wr.heap.size, 1, none⟩ = some (.int .i64 s.who) := s3.cell 1; have y2 : w'.cell? ⟨wr.heap.size, 2, none⟩ = some (.int .i64 s.to) := s3.cell 2; have y3 : w'.cell? ⟨wr.heap.size, 3, none⟩ = some (.int .i64 s.lot) := s3.cell 3; have y4 : w'.cell? ⟨wr.heap.size, 4, none⟩ = some (.int .i64 s.coins) := s3.cell 4; clear s1 s2 s3; go_simp; try with_reducible rfl
                        try simp only [Act.put, List.setIfInBounds_toArray, List.set_cons_zero, List.set_cons_succ]
                        refine wpAnyF_take (i := 3) (oi := { dst := some 176, op := Go.Op.binOp Go.BinOp.eql 23 (Go.Operand.tmp 175) (Go.Operand.const (Go.Value.pointer none)) 23, type := 4, pos := "law.go:135", after := #[{ on := 2, ground := Go.Ground.data }], guard := none }) (v := ?_) rfl (by kernel_rfl) (by kernel_rfl) (by kernel_rfl) (by kernel_rfl) (fun _ _ _ h => h) (Or.inl ⟨by rfl, ?_⟩) hS ?_
                        rotate_left
                        · intro w' hSw; obtain ⟨s1, s2, s3⟩ := hSw; have q0 := cell3 s1 hpw; have q1 := cell3 s1 hpt; have q2 := cell3 s2 hpw; have q3 := cell3 s2 hpt; rw [← HTW.out] at q0; rw [← HTT.out] at q1; rw [← HRW.out] at q2; rw [← HRT.out] at q3; have y0 : w'.cell? ⟨wr.heap.size, 0, none⟩ = some (.int .i64 s.kind) := s3.cell 0; have y1 : w'.cell? ⟨wr.heap.size, 1, none⟩ = some (.int .i64 s.who) := s3.cell 1; have y2 : w'.cell? ⟨wr.heap.size, 2, none⟩ = some (.int .i64 s.to) := s3.cell 2; have y3 : w'.cell? ⟨wr.heap.size, 3, none⟩ = some (.int .i64 s.lot) := s3.cell 3; have y4 : w'.cell? ⟨wr.heap.size, 4, none⟩ = some (.int .i64 s.coins) := s3.cell 4; clear s1 s2 s3; go_simp; try with_reducible rfl
                        try simp only [Act.put, List.setIfInBounds_toArray, List.set_cons_zero, List.set_cons_succ]
                        refine wpAnyF_take (i := 4) (oi := { dst := some 177, op := Go.Op.move (Go.Operand.tmp 20), type := 3, pos := "law.go:135", after := #[], guard := none }) (v := ?_) rfl (by kernel_rfl) (by kernel_rfl) (by kernel_rfl) (by kernel_rfl) (fun _ _ _ h => h) (Or.inl ⟨by rfl, ?_⟩) hS ?_
                        rotate_left
                        · intro w' hSw; obtain ⟨s1, s2, s3⟩ := hSw; have q0 := cell3 s1 hpw; have q1 := cell3 s1 hpt; have q2 := cell3 s2 hpw; have q3 := cell3 s2 hpt; rw [← HTW.out] at q0; rw [← HTT.out] at q1; rw [← HRW.out] at q2; rw [← HRT.out] at q3; have y0 : w'.cell? ⟨wr.heap.size, 0, none⟩ = some (.int .i64 s.kind) := s3.cell 0; have y1 : w'.cell? ⟨wr.heap.size, 1, none⟩ = some (.int .i64 s.who) := s3.cell 1; have y2 : w'.cell? ⟨wr.heap.size, 2, none⟩ = some (.int .i64 s.to) := s3.cell 2; have y3 : w'.cell? ⟨wr.heap.size, 3, none⟩ = some (.int .i64 s.lot) := s3.cell 3; have y4 : w'.cell? ⟨wr.heap.size, 4, none⟩ = some (.int .i64 s.coins) := s3.cell 4; clear s1 s2 s3; go_simp; try with_reducible rfl
                        try simp only [Act.put, List.setIfInBounds_toArray, List.set_cons_zero, List.set_cons_succ]
                        refine wpAnyF_take (i := 5) (oi := { dst := some 178, op := Go.Op.indexAddr 43 (Go.Operand.tmp 16) (Go.Operand.tmp 177), type := 0, pos := "law.go:135", after := #[{ on := 4, ground := Go.Ground.data }], guard := none }) (v := ?_) rfl (by kernel_rfl) (by kernel_rfl) (by kernel_rfl) (by kernel_rfl) (fun _ _ _ h => h) (Or.inl ⟨by rfl, ?_⟩) hS ?_
                        rotate_left
                        · intro w' hSw; obtain ⟨s1, s2, s3⟩ := hSw; have q0 := cell3 s1 hpw; have q1 := cell3 s1 hpt; have q2 := cell3 s2 hpw; have q3 := cell3 s2 hpt; rw [← HTW.out] at q0; rw [← HTT.out] at q1; rw [← HRW.out] at q2; rw [← HRT.out] at q3; have y0 : w'.cell? ⟨wr.heap.size, 0, none⟩ = some (.int .i64 s.kind) := s3.cell 0; have y1 : w'.cell? ⟨wr.heap.size, 1, none⟩ = some (.int .i64 s.who) := s3.cell 1; have y2 : w'.cell? ⟨wr.heap.size, 2, none⟩ = some (.int .i64 s.to) := s3.cell 2; have y3 : w'.cell? ⟨wr.heap.size, 3, none⟩ = some (.int .i64 s.lot) := s3.cell 3; have y4 : w'.cell? ⟨wr.heap.size, 4, none⟩ = some (.int .i64 s.coins) := s3.cell 4; clear s1 s2 s3; go_simp; try with_reducible rfl
                        try simp only [Act.put, List.setIfInBounds_toArray, List.set_cons_zero, List.set_cons_succ]
                        refine wpAnyF_take (i := 6) (oi := { dst := some 179, op := Go.Op.load 37 (Go.Operand.tmp 178), type := 37, pos := "law.go:135", after := #[{ on := 5, ground := Go.Ground.data }], guard := none }) (v := ?_) rfl (by kernel_rfl) (by kernel_rfl) (by kernel_rfl) (by kernel_rfl) (fun _ _ _ h => h) (Or.inl ⟨by rfl, ?_⟩) hS ?_
                        rotate_left
                        · intro w' hSw; obtain ⟨s1, s2, s3⟩ := hSw; have q0 := cell3 s1 hpw; have q1 := cell3 s1 hpt; have q2 := cell3 s2 hpw; have q3 := cell3 s2 hpt; rw [← HTW.out] at q0; rw [← HTT.out] at q1; rw [← HRW.out] at q2; rw [← HRT.out] at q3; have y0 : w'.cell? ⟨wr.heap.size, 0, none⟩ = some (.int .i64 s.kind) := s3.cell 0; have y1 : w'.cell? ⟨wr.heap.size, 1, none⟩ = some (.int .i64 s.who) := s3.cell 1; have y2 : w'.cell? ⟨wr.heap.size, 2, none⟩ = some (.int .i64 s.to) := s3.cell 2; have y3 : w'.cell? ⟨wr.heap.size, 3, none⟩ = some (.int .i64 s.lot) := s3.cell 3; have y4 : w'.cell? ⟨wr.heap.size, 4, none⟩ = some (.int .i64 s.coins) := s3.cell 4; clear s1 s2 s3; go_simp; try with_reducible rfl
                        try simp only [Act.put, List.setIfInBounds_toArray, List.set_cons_zero, List.set_cons_succ]
                        refine wpAnyF_take (i := 7) (oi := { dst := some 180, op := Go.Op.binOp Go.BinOp.eql 37 (Go.Operand.tmp 179) (Go.Operand.const (Go.Value.pointer none)) 37, type := 4, pos := "law.go:135", after := #[{ on := 6, ground := Go.Ground.data }], guard := none }) (v := ?_) rfl (by kernel_rfl) (by kernel_rfl) (by kernel_rfl) (by kernel_rfl) (fun _ _ _ h => h) (Or.inl ⟨by rfl, ?_⟩) hS ?_
                        rotate_left
                        · intro w' hSw; obtain ⟨s1, s2, s3⟩ := hSw; have q0 := cell3 s1 hpw; have q1 := cell3 s1 hpt; have q2 := cell3 s2 hpw; have q3 := cell3 s2 hpt; rw [← HTW.out] at q0; rw [← HTT.out] at q1; rw [← HRW.out] at q2; rw [← HRT.out] at q3; have y0 : w'.cell? ⟨wr.heap.size, 0, none⟩ = some (.int .i64 s.kind) := s3.cell 0; have y1 : w'.cell? ⟨wr.heap.size, 1, none⟩ = some (.int .i64 s.who) := s3.cell 1; have y2 : w'.cell? ⟨wr.heap.size, 2, none⟩ = some (.int .i64 s.to) := s3.cell 2; have y3 : w'.cell? ⟨wr.heap.size, 3, none⟩ = some (.int .i64 s.lot) := s3.cell 3; have y4 : w'.cell? ⟨wr.heap.size, 4, none⟩ = some (.int .i64 s.coins) := s3.cell 4; clear s1 s2 s3; go_simp; try with_reducible rfl
                        try simp only [Act.put, List.setIfInBounds_toArray, List.set_cons_zero, List.set_cons_succ]
                        refine wpAnyF_take (i := 8) (oi := { dst := some 181, op := Go.Op.binOp Go.BinOp.neq 4 (Go.Operand.tmp 176) (Go.Operand.tmp 180) 4, type := 4, pos := "law.go:135", after := #[{ on := 3, ground := Go.Ground.data }, { on := 7, ground := Go.Ground.data }], guard := none }) (v := ?_) rfl (by kernel_rfl) (by kernel_rfl) (by kernel_rfl) (by kernel_rfl) (fun _ _ _ h => h) (Or.inl ⟨by rfl, ?_⟩) hS ?_
                        rotate_left
                        · intro w' hSw; obtain ⟨s1, s2, s3⟩ := hSw; have q0 := cell3 s1 hpw; have q1 := cell3 s1 hpt; have q2 := cell3 s2 hpw; have q3 := cell3 s2 hpt; rw [← HTW.out] at q0; rw [← HTT.out] at q1; rw [← HRW.out] at q2; rw [← HRT.out] at q3; have y0 : w'.cell? ⟨wr.heap.size, 0, none⟩ = some (.int .i64 s.kind) := s3.cell 0; have y1 : w'.cell? ⟨wr.heap.size, 1, none⟩ = some (.int .i64 s.who) := s3.cell 1; have y2 : w'.cell? ⟨wr.heap.size, 2, none⟩ = some (.int .i64 s.to) := s3.cell 2; have y3 : w'.cell? ⟨wr.heap.size, 3, none⟩ = some (.int .i64 s.lot) := s3.cell 3; have y4 : w'.cell? ⟨wr.heap.size, 4, none⟩ = some (.int .i64 s.coins) := s3.cell 4; clear s1 s2 s3; go_simp; try with_reducible rfl
                        try simp only [Act.put, List.setIfInBounds_toArray, List.set_cons_zero, List.set_cons_succ]
                        refine wpAnyF_take (i := 9) (oi := { dst := some 182, op := Go.Op.move (Go.Operand.tmp 181), type := 4, pos := "law.go:135", after := #[{ on := 8, ground := Go.Ground.data }], guard := none }) (v := ?_) rfl (by kernel_rfl) (by kernel_rfl) (by kernel_rfl) (by kernel_rfl) (fun _ _ _ h => h) (Or.inl ⟨by rfl, ?_⟩) hS ?_
                        rotate_left
                        · intro w' hSw; obtain ⟨s1, s2, s3⟩ := hSw; have q0 := cell3 s1 hpw; have q1 := cell3 s1 hpt; have q2 := cell3 s2 hpw; have q3 := cell3 s2 hpt; rw [← HTW.out] at q0; rw [← HTT.out] at q1; rw [← HRW.out] at q2; rw [← HRT.out] at q3; have y0 : w'.cell? ⟨wr.heap.size, 0, none⟩ = some (.int .i64 s.kind) := s3.cell 0; have y1 : w'.cell? ⟨wr.heap.size, 1, none⟩ = some (.int .i64 s.who) := s3.cell 1; have y2 : w'.cell? ⟨wr.heap.size, 2, none⟩ = some (.int .i64 s.to) := s3.cell 2; have y3 : w'.cell? ⟨wr.heap.size, 3, none⟩ = some (.int .i64 s.lot) := s3.cell 3; have y4 : w'.cell? ⟨wr.heap.size, 4, none⟩ = some (.int .i64 s.coins) := s3.cell 4; clear s1 s2 s3; go_simp; try with_reducible rfl
                        try simp only [Act.put, List.setIfInBounds_toArray, List.set_cons_zero, List.set_cons_succ]
                        refine wpAnyF_take (i := 10) (oi := { dst := some 183, op := Go.Op.move (Go.Operand.tmp 19), type := 3, pos := "law.go:135", after := #[{ on := 9, ground := Go.Ground.guard }], guard := some (9, false) }) (v := ?_) rfl (by kernel_rfl) (by kernel_rfl) (by kernel_rfl) (by kernel_rfl) (fun _ _ _ h => h) (Or.inl ⟨by rfl, ?_⟩) hS ?_
                        rotate_left
                        · intro w' hSw; obtain ⟨s1, s2, s3⟩ := hSw; have q0 := cell3 s1 hpw; have q1 := cell3 s1 hpt; have q2 := cell3 s2 hpw; have q3 := cell3 s2 hpt; rw [← HTW.out] at q0; rw [← HTT.out] at q1; rw [← HRW.out] at q2; rw [← HRT.out] at q3; have y0 : w'.cell? ⟨wr.heap.size, 0, none⟩ = some (.int .i64 s.kind) := s3.cell 0; have y1 : w'.cell? ⟨wr.heap.size, 1, none⟩ = some (.int .i64 s.who) := s3.cell 1; have y2 : w'.cell? ⟨wr.heap.size, 2, none⟩ = some (.int .i64 s.to) := s3.cell 2; have y3 : w'.cell? ⟨wr.heap.size, 3, none⟩ = some (.int .i64 s.lot) := s3.cell 3; have y4 : w'.cell? ⟨wr.heap.size, 4, none⟩ = some (.int .i64 s.coins) := s3.cell 4; clear s1 s2 s3; go_simp; try with_reducible rfl
                        try simp only [Act.put, List.setIfInBounds_toArray, List.set_cons_zero, List.set_cons_succ]
                        refine wpAnyF_take (i := 11) (oi := { dst := some 184, op := Go.Op.indexAddr 42 (Go.Operand.tmp 15) (Go.Operand.tmp 183), type := 0, pos := "law.go:135", after := #[{ on := 10, ground := Go.Ground.data }, { on := 9, ground := Go.Ground.guard }], guard := some (9, false) }) (v := ?_) rfl (by kernel_rfl) (by kernel_rfl) (by kernel_rfl) (by kernel_rfl) (fun _ _ _ h => h) (Or.inl ⟨by rfl, ?_⟩) hS ?_
                        rotate_left
                        · intro w' hSw; obtain ⟨s1, s2, s3⟩ := hSw; have q0 := cell3 s1 hpw; have q1 := cell3 s1 hpt; have q2 := cell3 s2 hpw; have q3 := cell3 s2 hpt; rw [← HTW.out] at q0; rw [← HTT.out] at q1; rw [← HRW.out] at q2; rw [← HRT.out] at q3; have y0 : w'.cell? ⟨wr.heap.size, 0, none⟩ = some (.int .i64 s.kind) := s3.cell 0; have y1 : w'.cell? ⟨wr.heap.size, 1, none⟩ = some (.int .i64 s.who) := s3.cell 1; have y2 : w'.cell? ⟨wr.heap.size, 2, none⟩ = some (.int .i64 s.to) := s3.cell 2; have y3 : w'.cell? ⟨wr.heap.size, 3, none⟩ = some (.int .i64 s.lot) := s3.cell 3; have y4 : w'.cell? ⟨wr.heap.size, 4, none⟩ = some (.int .i64 s.coins) := s3.cell 4; clear s1 s2 s3; go_simp; try with_reducible rfl
                        try simp only [Act.put, List.setIfInBounds_toArray, List.set_cons_zero, List.set_cons_succ]
                        refine wpAnyF_take (i := 12) (oi := { dst := some 185, op := Go.Op.load 23 (Go.Operand.tmp 184), type := 23, pos := "law.go:135", after := #[{ on := 11, ground := Go.Ground.data }, { on := 9, ground := Go.Ground.guard }], guard := some (9, false) }) (v := ?_) rfl (by kernel_rfl) (by kernel_rfl) (by kernel_rfl) (by kernel_rfl) (fun _ _ _ h => h) (Or.inl ⟨by rfl, ?_⟩) hS ?_
                        rotate_left
                        · intro w' hSw; obtain ⟨s1, s2, s3⟩ := hSw; have q0 := cell3 s1 hpw; have q1 := cell3 s1 hpt; have q2 := cell3 s2 hpw; have q3 := cell3 s2 hpt; rw [← HTW.out] at q0; rw [← HTT.out] at q1; rw [← HRW.out] at q2; rw [← HRT.out] at q3; have y0 : w'.cell? ⟨wr.heap.size, 0, none⟩ = some (.int .i64 s.kind) := s3.cell 0; have y1 : w'.cell? ⟨wr.heap.size, 1, none⟩ = some (.int .i64 s.who) := s3.cell 1; have y2 : w'.cell? ⟨wr.heap.size, 2, none⟩ = some (.int .i64 s.to) := s3.cell 2; have y3 : w'.cell? ⟨wr.heap.size, 3, none⟩ = some (.int .i64 s.lot) := s3.cell 3; have y4 : w'.cell? ⟨wr.heap.size, 4, none⟩ = some (.int .i64 s.coins) := s3.cell 4; clear s1 s2 s3; go_simp; try with_reducible rfl
                        try simp only [Act.put, List.setIfInBounds_toArray, List.set_cons_zero, List.set_cons_succ]
                        refine wpAnyF_take (i := 13) (oi := { dst := some 186, op := Go.Op.move (Go.Operand.tmp 19), type := 3, pos := "law.go:135", after := #[{ on := 9, ground := Go.Ground.guard }], guard := some (9, false) }) (v := ?_) rfl (by kernel_rfl) (by kernel_rfl) (by kernel_rfl) (by kernel_rfl) (fun _ _ _ h => h) (Or.inl ⟨by rfl, ?_⟩) hS ?_
                        rotate_left
                        · intro w' hSw; obtain ⟨s1, s2, s3⟩ := hSw; have q0 := cell3 s1 hpw; have q1 := cell3 s1 hpt; have q2 := cell3 s2 hpw; have q3 := cell3 s2 hpt; rw [← HTW.out] at q0; rw [← HTT.out] at q1; rw [← HRW.out] at q2; rw [← HRT.out] at q3; have y0 : w'.cell? ⟨wr.heap.size, 0, none⟩ = some (.int .i64 s.kind) := s3.cell 0; have y1 : w'.cell? ⟨wr.heap.size, 1, none⟩ = some (.int .i64 s.who) := s3.cell 1; have y2 : w'.cell? ⟨wr.heap.size, 2, none⟩ = some (.int .i64 s.to) := s3.cell 2; have y3 : w'.cell? ⟨wr.heap.size, 3, none⟩ = some (.int .i64 s.lot) := s3.cell 3; have y4 : w'.cell? ⟨wr.heap.size, 4, none⟩ = some (.int .i64 s.coins) := s3.cell 4; clear s1 s2 s3; go_simp; try with_reducible rfl
                        try simp only [Act.put, List.setIfInBounds_toArray, List.set_cons_zero, List.set_cons_succ]
                        refine wpAnyF_take (i := 14) (oi := { dst := some 187, op := Go.Op.indexAddr 43 (Go.Operand.tmp 16) (Go.Operand.tmp 186), type := 0, pos := "law.go:135", after := #[{ on := 13, ground := Go.Ground.data }, { on := 9, ground := Go.Ground.guard }], guard := some (9, false) }) (v := ?_) rfl (by kernel_rfl) (by kernel_rfl) (by kernel_rfl) (by kernel_rfl) (fun _ _ _ h => h) (Or.inl ⟨by rfl, ?_⟩) hS ?_
                        rotate_left
                        · intro w' hSw; obtain ⟨s1, s2, s3⟩ := hSw; have q0 := cell3 s1 hpw; have q1 := cell3 s1 hpt; have q2 := cell3 s2 hpw; have q3 := cell3 s2 hpt; rw [← HTW.out] at q0; rw [← HTT.out] at q1; rw [← HRW.out] at q2; rw [← HRT.out] at q3; have y0 : w'.cell? ⟨wr.heap.size, 0, none⟩ = some (.int .i64 s.kind) := s3.cell 0; have y1 : w'.cell? ⟨wr.heap.size, 1, none⟩ = some (.int .i64 s.who) := s3.cell 1; have y2 : w'.cell? ⟨wr.heap.size, 2, none⟩ = some (.int .i64 s.to) := s3.cell 2; have y3 : w'.cell? ⟨wr.heap.size, 3, none⟩ = some (.int .i64 s.lot) := s3.cell 3; have y4 : w'.cell? ⟨wr.heap.size, 4, none⟩ = some (.int .i64 s.coins) := s3.cell 4; clear s1 s2 s3; go_simp; try with_reducible rfl
                        try simp only [Act.put, List.setIfInBounds_toArray, List.set_cons_zero, List.set_cons_succ]
                        refine wpAnyF_take (i := 15) (oi := { dst := some 188, op := Go.Op.load 37 (Go.Operand.tmp 187), type := 37, pos := "law.go:135", after := #[{ on := 14, ground := Go.Ground.data }, { on := 9, ground := Go.Ground.guard }], guard := some (9, false) }) (v := ?_) rfl (by kernel_rfl) (by kernel_rfl) (by kernel_rfl) (by kernel_rfl) (fun _ _ _ h => h) (Or.inl ⟨by rfl, ?_⟩) hS ?_
                        rotate_left
                        · intro w' hSw; obtain ⟨s1, s2, s3⟩ := hSw; have q0 := cell3 s1 hpw; have q1 := cell3 s1 hpt; have q2 := cell3 s2 hpw; have q3 := cell3 s2 hpt; rw [← HTW.out] at q0; rw [← HTT.out] at q1; rw [← HRW.out] at q2; rw [← HRT.out] at q3; have y0 : w'.cell? ⟨wr.heap.size, 0, none⟩ = some (.int .i64 s.kind) := s3.cell 0; have y1 : w'.cell? ⟨wr.heap.size, 1, none⟩ = some (.int .i64 s.who) := s3.cell 1; have y2 : w'.cell? ⟨wr.heap.size, 2, none⟩ = some (.int .i64 s.to) := s3.cell 2; have y3 : w'.cell? ⟨wr.heap.size, 3, none⟩ = some (.int .i64 s.lot) := s3.cell 3; have y4 : w'.cell? ⟨wr.heap.size, 4, none⟩ = some (.int .i64 s.coins) := s3.cell 4; clear s1 s2 s3; go_simp; try with_reducible rfl
                        try simp only [Act.put, List.setIfInBounds_toArray, List.set_cons_zero, List.set_cons_succ]
                        refine wpAnyF_take (i := 16) (oi := { dst := some 189, op := Go.Op.load 45 (Go.Operand.tmp 18), type := 45, pos := "law.go:135", after := #[{ on := 9, ground := Go.Ground.guard }], guard := some (9, false) }) (v := ?_) rfl (by kernel_rfl) (by kernel_rfl) (by kernel_rfl) (by kernel_rfl) (fun _ _ _ h => h) (Or.inl ⟨by rfl, ?_⟩) hS ?_
                        rotate_left
                        · intro w' hSw; obtain ⟨s1, s2, s3⟩ := hSw; have q0 := cell3 s1 hpw; have q1 := cell3 s1 hpt; have q2 := cell3 s2 hpw; have q3 := cell3 s2 hpt; rw [← HTW.out] at q0; rw [← HTT.out] at q1; rw [← HRW.out] at q2; rw [← HRT.out] at q3; have y0 : w'.cell? ⟨wr.heap.size, 0, none⟩ = some (.int .i64 s.kind) := s3.cell 0; have y1 : w'.cell? ⟨wr.heap.size, 1, none⟩ = some (.int .i64 s.who) := s3.cell 1; have y2 : w'.cell? ⟨wr.heap.size, 2, none⟩ = some (.int .i64 s.to) := s3.cell 2; have y3 : w'.cell? ⟨wr.heap.size, 3, none⟩ = some (.int .i64 s.lot) := s3.cell 3; have y4 : w'.cell? ⟨wr.heap.size, 4, none⟩ = some (.int .i64 s.coins) := s3.cell 4; clear s1 s2 s3; go_simp; try with_reducible rfl
                        try simp only [Act.put, List.setIfInBounds_toArray, List.set_cons_zero, List.set_cons_succ]
                        refine wpAnyF_ready (rs := [17]) (by kernel_rfl) (by simp) ?_
                        refine AllReadyF.cons (o := { dst := some 190, op := Go.Op.call { callee := Go.Callee.value (Go.Operand.func 19), args := #[Go.Operand.tmp 185, Go.Operand.tmp 188, Go.Operand.tmp 189], argTypes := #[23, 37, 45] }, type := 4, pos := "law.go:135", after := #[{ on := 12, ground := Go.Ground.data }, { on := 15, ground := Go.Ground.data }, { on := 16, ground := Go.Ground.data }, { on := 9, ground := Go.Ground.chain }, { on := 9, ground := Go.Ground.guard }], guard := some (9, false) }) rfl (by rfl) (fun K hK => ?_) ?_
                        · go_simp
                          rw [HTW.out, HRW.out]
                          refine (does_any (HTRV.out.pair pw hpw) (by unfold maxLen; omega) HWS.out).mono ?_
                          rintro e W7 ⟨rfl, hc7, f', hp7, ht7⟩
                          refine hK.out _ _ ?_ (fun hS => ?_)
                          · exact ⟨(HTRV.out.turn hpw hc7 hp7 ht7).ta, (HTRV.out.turn hpw hc7 hp7 ht7).ra, HYV2.out.chg hc7 (fun e => by obtain ⟨e1, e2⟩ := e; obtain ⟨x1, x2, x3⟩ := blk_far HYV2.out (by decide) (by decide) (HTRV.out.pair pw hpw) e1; omega)⟩
                          clear hK K
                          try simp only [Act.put, List.setIfInBounds_toArray, List.set_cons_zero, List.set_cons_succ]
                          have HTR7 := Lib.hid (HTRV.out.turn hpw hc7 hp7 ht7)
                          have HLOW7 := Lib.hid (HLOW9.out.turn ht7)
                          have HB7 := Lib.hid (HBV2.out.trans (hc7.below (B := w.heap.size) HBV2.out.size (fun k hk e => by obtain ⟨e1, e2⟩ := e; have := HLOW9.out pw hpw e1; omega)))
                          have hs7 := hc7.size
                          clear hc7 hp7 ht7
                          refine wpAnyF_take (i := 18) (oi := { dst := some 191, op := Go.Op.unOp Go.UnOp.not 4 (Go.Operand.tmp 190), type := 4, pos := "law.go:135", after := #[{ on := 17, ground := Go.Ground.data }, { on := 9, ground := Go.Ground.guard }], guard := some (9, false) }) (v := ?_) rfl (by kernel_rfl) (by kernel_rfl) (by kernel_rfl) (by kernel_rfl) (fun _ _ _ h => h) (Or.inl ⟨by rfl, ?_⟩) hS ?_
                          rotate_left
                          · intro w' hSw; obtain ⟨s1, s2, s3⟩ := hSw; have q0 := cell3 s1 hpw; have q1 := cell3 s1 hpt; have q2 := cell3 s2 hpw; have q3 := cell3 s2 hpt; rw [← HTW.out] at q0; rw [← HTT.out] at q1; rw [← HRW.out] at q2; rw [← HRT.out] at q3; have y0 : w'.cell? ⟨wr.heap.size, 0, none⟩ = some (.int .i64 s.kind) := s3.cell 0; have y1 : w'.cell? ⟨wr.heap.size, 1, none⟩ = some (.int .i64 s.who) := s3.cell 1; have y2 : w'.cell? ⟨wr.heap.size, 2, none⟩ = some (.int .i64 s.to) := s3.cell 2; have y3 : w'.cell? ⟨wr.heap.size, 3, none⟩ = some (.int .i64 s.lot) := s3.cell 3; have y4 : w'.cell? ⟨wr.heap.size, 4, none⟩ = some (.int .i64 s.coins) := s3.cell 4; clear s1 s2 s3; go_simp; try with_reducible rfl
                          try simp only [Act.put, List.setIfInBounds_toArray, List.set_cons_zero, List.set_cons_succ]
                          refine wpAnyF_take (i := 19) (oi := { dst := some 192, op := Go.Op.pick (Go.Operand.tmp 182) (Go.Operand.const (Go.Value.bool true)) (Go.Operand.tmp 191), type := 4, pos := "law.go:135", after := #[{ on := 9, ground := Go.Ground.data }, { on := 18, ground := Go.Ground.data }], guard := none }) (v := ?_) rfl (by kernel_rfl) (by kernel_rfl) (by kernel_rfl) (by kernel_rfl) (fun _ _ _ h => h) (Or.inl ⟨by rfl, ?_⟩) hS ?_
                          rotate_left
                          · intro w' hSw; obtain ⟨s1, s2, s3⟩ := hSw; have q0 := cell3 s1 hpw; have q1 := cell3 s1 hpt; have q2 := cell3 s2 hpw; have q3 := cell3 s2 hpt; rw [← HTW.out] at q0; rw [← HTT.out] at q1; rw [← HRW.out] at q2; rw [← HRT.out] at q3; have y0 : w'.cell? ⟨wr.heap.size, 0, none⟩ = some (.int .i64 s.kind) := s3.cell 0; have y1 : w'.cell? ⟨wr.heap.size, 1, none⟩ = some (.int .i64 s.who) := s3.cell 1; have y2 : w'.cell? ⟨wr.heap.size, 2, none⟩ = some (.int .i64 s.to) := s3.cell 2; have y3 : w'.cell? ⟨wr.heap.size, 3, none⟩ = some (.int .i64 s.lot) := s3.cell 3; have y4 : w'.cell? ⟨wr.heap.size, 4, none⟩ = some (.int .i64 s.coins) := s3.cell 4; clear s1 s2 s3; go_simp; try with_reducible rfl
                          try simp only [Act.put, List.setIfInBounds_toArray, List.set_cons_zero, List.set_cons_succ]
                          refine wpAnyF_take (i := 20) (oi := { dst := some 193, op := Go.Op.move (Go.Operand.tmp 192), type := 4, pos := "law.go:135", after := #[{ on := 19, ground := Go.Ground.data }, { on := 17, ground := Go.Ground.chain }], guard := none }) (v := ?_) rfl (by kernel_rfl) (by kernel_rfl) (by kernel_rfl) (by kernel_rfl) (fun _ _ _ h => h) (Or.inl ⟨by rfl, ?_⟩) hS ?_
                          rotate_left
                          · intro w' hSw; obtain ⟨s1, s2, s3⟩ := hSw; have q0 := cell3 s1 hpw; have q1 := cell3 s1 hpt; have q2 := cell3 s2 hpw; have q3 := cell3 s2 hpt; rw [← HTW.out] at q0; rw [← HTT.out] at q1; rw [← HRW.out] at q2; rw [← HRT.out] at q3; have y0 : w'.cell? ⟨wr.heap.size, 0, none⟩ = some (.int .i64 s.kind) := s3.cell 0; have y1 : w'.cell? ⟨wr.heap.size, 1, none⟩ = some (.int .i64 s.who) := s3.cell 1; have y2 : w'.cell? ⟨wr.heap.size, 2, none⟩ = some (.int .i64 s.to) := s3.cell 2; have y3 : w'.cell? ⟨wr.heap.size, 3, none⟩ = some (.int .i64 s.lot) := s3.cell 3; have y4 : w'.cell? ⟨wr.heap.size, 4, none⟩ = some (.int .i64 s.coins) := s3.cell 4; clear s1 s2 s3; go_simp; try with_reducible rfl
                          try simp only [Act.put, List.setIfInBounds_toArray, List.set_cons_zero, List.set_cons_succ]
                          refine wpAnyF_take (i := 21) (oi := { dst := some 194, op := Go.Op.move (Go.Operand.tmp 19), type := 3, pos := "law.go:135", after := #[{ on := 20, ground := Go.Ground.guard }], guard := some (20, false) }) (v := ?_) rfl (by kernel_rfl) (by kernel_rfl) (by kernel_rfl) (by kernel_rfl) (fun _ _ _ h => h) (Or.inl ⟨by rfl, ?_⟩) hS ?_
                          rotate_left
                          · intro w' hSw; obtain ⟨s1, s2, s3⟩ := hSw; have q0 := cell3 s1 hpw; have q1 := cell3 s1 hpt; have q2 := cell3 s2 hpw; have q3 := cell3 s2 hpt; rw [← HTW.out] at q0; rw [← HTT.out] at q1; rw [← HRW.out] at q2; rw [← HRT.out] at q3; have y0 : w'.cell? ⟨wr.heap.size, 0, none⟩ = some (.int .i64 s.kind) := s3.cell 0; have y1 : w'.cell? ⟨wr.heap.size, 1, none⟩ = some (.int .i64 s.who) := s3.cell 1; have y2 : w'.cell? ⟨wr.heap.size, 2, none⟩ = some (.int .i64 s.to) := s3.cell 2; have y3 : w'.cell? ⟨wr.heap.size, 3, none⟩ = some (.int .i64 s.lot) := s3.cell 3; have y4 : w'.cell? ⟨wr.heap.size, 4, none⟩ = some (.int .i64 s.coins) := s3.cell 4; clear s1 s2 s3; go_simp; try with_reducible rfl
                          try simp only [Act.put, List.setIfInBounds_toArray, List.set_cons_zero, List.set_cons_succ]
                          refine wpAnyF_take (i := 22) (oi := { dst := some 195, op := Go.Op.indexAddr 42 (Go.Operand.tmp 15) (Go.Operand.tmp 194), type := 0, pos := "law.go:135", after := #[{ on := 21, ground := Go.Ground.data }, { on := 20, ground := Go.Ground.guard }], guard := some (20, false) }) (v := ?_) rfl (by kernel_rfl) (by kernel_rfl) (by kernel_rfl) (by kernel_rfl) (fun _ _ _ h => h) (Or.inl ⟨by rfl, ?_⟩) hS ?_
                          rotate_left
                          · intro w' hSw; obtain ⟨s1, s2, s3⟩ := hSw; have q0 := cell3 s1 hpw; have q1 := cell3 s1 hpt; have q2 := cell3 s2 hpw; have q3 := cell3 s2 hpt; rw [← HTW.out] at q0; rw [← HTT.out] at q1; rw [← HRW.out] at q2; rw [← HRT.out] at q3; have y0 : w'.cell? ⟨wr.heap.size, 0, none⟩ = some (.int .i64 s.kind) := s3.cell 0; have y1 : w'.cell? ⟨wr.heap.size, 1, none⟩ = some (.int .i64 s.who) := s3.cell 1; have y2 : w'.cell? ⟨wr.heap.size, 2, none⟩ = some (.int .i64 s.to) := s3.cell 2; have y3 : w'.cell? ⟨wr.heap.size, 3, none⟩ = some (.int .i64 s.lot) := s3.cell 3; have y4 : w'.cell? ⟨wr.heap.size, 4, none⟩ = some (.int .i64 s.coins) := s3.cell 4; clear s1 s2 s3; go_simp; try with_reducible rfl
                          try simp only [Act.put, List.setIfInBounds_toArray, List.set_cons_zero, List.set_cons_succ]
                          refine wpAnyF_take (i := 23) (oi := { dst := some 196, op := Go.Op.load 23 (Go.Operand.tmp 195), type := 23, pos := "law.go:135", after := #[{ on := 22, ground := Go.Ground.data }, { on := 20, ground := Go.Ground.guard }], guard := some (20, false) }) (v := ?_) rfl (by kernel_rfl) (by kernel_rfl) (by kernel_rfl) (by kernel_rfl) (fun _ _ _ h => h) (Or.inl ⟨by rfl, ?_⟩) hS ?_
                          rotate_left
                          · intro w' hSw; obtain ⟨s1, s2, s3⟩ := hSw; have q0 := cell3 s1 hpw; have q1 := cell3 s1 hpt; have q2 := cell3 s2 hpw; have q3 := cell3 s2 hpt; rw [← HTW.out] at q0; rw [← HTT.out] at q1; rw [← HRW.out] at q2; rw [← HRT.out] at q3; have y0 : w'.cell? ⟨wr.heap.size, 0, none⟩ = some (.int .i64 s.kind) := s3.cell 0; have y1 : w'.cell? ⟨wr.heap.size, 1, none⟩ = some (.int .i64 s.who) := s3.cell 1; have y2 : w'.cell? ⟨wr.heap.size, 2, none⟩ = some (.int .i64 s.to) := s3.cell 2; have y3 : w'.cell? ⟨wr.heap.size, 3, none⟩ = some (.int .i64 s.lot) := s3.cell 3; have y4 : w'.cell? ⟨wr.heap.size, 4, none⟩ = some (.int .i64 s.coins) := s3.cell 4; clear s1 s2 s3; go_simp; try with_reducible rfl
                          try simp only [Act.put, List.setIfInBounds_toArray, List.set_cons_zero, List.set_cons_succ]
                          refine wpAnyF_take (i := 24) (oi := { dst := some 197, op := Go.Op.move (Go.Operand.tmp 19), type := 3, pos := "law.go:135", after := #[{ on := 20, ground := Go.Ground.guard }], guard := some (20, false) }) (v := ?_) rfl (by kernel_rfl) (by kernel_rfl) (by kernel_rfl) (by kernel_rfl) (fun _ _ _ h => h) (Or.inl ⟨by rfl, ?_⟩) hS ?_
                          rotate_left
                          · intro w' hSw; obtain ⟨s1, s2, s3⟩ := hSw; have q0 := cell3 s1 hpw; have q1 := cell3 s1 hpt; have q2 := cell3 s2 hpw; have q3 := cell3 s2 hpt; rw [← HTW.out] at q0; rw [← HTT.out] at q1; rw [← HRW.out] at q2; rw [← HRT.out] at q3; have y0 : w'.cell? ⟨wr.heap.size, 0, none⟩ = some (.int .i64 s.kind) := s3.cell 0; have y1 : w'.cell? ⟨wr.heap.size, 1, none⟩ = some (.int .i64 s.who) := s3.cell 1; have y2 : w'.cell? ⟨wr.heap.size, 2, none⟩ = some (.int .i64 s.to) := s3.cell 2; have y3 : w'.cell? ⟨wr.heap.size, 3, none⟩ = some (.int .i64 s.lot) := s3.cell 3; have y4 : w'.cell? ⟨wr.heap.size, 4, none⟩ = some (.int .i64 s.coins) := s3.cell 4; clear s1 s2 s3; go_simp; try with_reducible rfl
                          try simp only [Act.put, List.setIfInBounds_toArray, List.set_cons_zero, List.set_cons_succ]
                          refine wpAnyF_take (i := 25) (oi := { dst := some 198, op := Go.Op.indexAddr 43 (Go.Operand.tmp 16) (Go.Operand.tmp 197), type := 0, pos := "law.go:135", after := #[{ on := 24, ground := Go.Ground.data }, { on := 20, ground := Go.Ground.guard }], guard := some (20, false) }) (v := ?_) rfl (by kernel_rfl) (by kernel_rfl) (by kernel_rfl) (by kernel_rfl) (fun _ _ _ h => h) (Or.inl ⟨by rfl, ?_⟩) hS ?_
                          rotate_left
                          · intro w' hSw; obtain ⟨s1, s2, s3⟩ := hSw; have q0 := cell3 s1 hpw; have q1 := cell3 s1 hpt; have q2 := cell3 s2 hpw; have q3 := cell3 s2 hpt; rw [← HTW.out] at q0; rw [← HTT.out] at q1; rw [← HRW.out] at q2; rw [← HRT.out] at q3; have y0 : w'.cell? ⟨wr.heap.size, 0, none⟩ = some (.int .i64 s.kind) := s3.cell 0; have y1 : w'.cell? ⟨wr.heap.size, 1, none⟩ = some (.int .i64 s.who) := s3.cell 1; have y2 : w'.cell? ⟨wr.heap.size, 2, none⟩ = some (.int .i64 s.to) := s3.cell 2; have y3 : w'.cell? ⟨wr.heap.size, 3, none⟩ = some (.int .i64 s.lot) := s3.cell 3; have y4 : w'.cell? ⟨wr.heap.size, 4, none⟩ = some (.int .i64 s.coins) := s3.cell 4; clear s1 s2 s3; go_simp; try with_reducible rfl
                          try simp only [Act.put, List.setIfInBounds_toArray, List.set_cons_zero, List.set_cons_succ]
                          refine wpAnyF_take (i := 26) (oi := { dst := some 199, op := Go.Op.load 37 (Go.Operand.tmp 198), type := 37, pos := "law.go:135", after := #[{ on := 25, ground := Go.Ground.data }, { on := 20, ground := Go.Ground.guard }], guard := some (20, false) }) (v := ?_) rfl (by kernel_rfl) (by kernel_rfl) (by kernel_rfl) (by kernel_rfl) (fun _ _ _ h => h) (Or.inl ⟨by rfl, ?_⟩) hS ?_
                          rotate_left
                          · intro w' hSw; obtain ⟨s1, s2, s3⟩ := hSw; have q0 := cell3 s1 hpw; have q1 := cell3 s1 hpt; have q2 := cell3 s2 hpw; have q3 := cell3 s2 hpt; rw [← HTW.out] at q0; rw [← HTT.out] at q1; rw [← HRW.out] at q2; rw [← HRT.out] at q3; have y0 : w'.cell? ⟨wr.heap.size, 0, none⟩ = some (.int .i64 s.kind) := s3.cell 0; have y1 : w'.cell? ⟨wr.heap.size, 1, none⟩ = some (.int .i64 s.who) := s3.cell 1; have y2 : w'.cell? ⟨wr.heap.size, 2, none⟩ = some (.int .i64 s.to) := s3.cell 2; have y3 : w'.cell? ⟨wr.heap.size, 3, none⟩ = some (.int .i64 s.lot) := s3.cell 3; have y4 : w'.cell? ⟨wr.heap.size, 4, none⟩ = some (.int .i64 s.coins) := s3.cell 4; clear s1 s2 s3; go_simp; try with_reducible rfl
                          try simp only [Act.put, List.setIfInBounds_toArray, List.set_cons_zero, List.set_cons_succ]
                          refine wpAnyF_take (i := 27) (oi := { dst := some 200, op := Go.Op.fieldAddr 45 (Go.Operand.tmp 18) 3, type := 0, pos := "law.go:135", after := #[{ on := 20, ground := Go.Ground.guard }], guard := some (20, false) }) (v := ?_) rfl (by kernel_rfl) (by kernel_rfl) (by kernel_rfl) (by kernel_rfl) (fun _ _ _ h => h) (Or.inl ⟨by rfl, ?_⟩) hS ?_
                          rotate_left
                          · intro w' hSw; obtain ⟨s1, s2, s3⟩ := hSw; have q0 := cell3 s1 hpw; have q1 := cell3 s1 hpt; have q2 := cell3 s2 hpw; have q3 := cell3 s2 hpt; rw [← HTW.out] at q0; rw [← HTT.out] at q1; rw [← HRW.out] at q2; rw [← HRT.out] at q3; have y0 : w'.cell? ⟨wr.heap.size, 0, none⟩ = some (.int .i64 s.kind) := s3.cell 0; have y1 : w'.cell? ⟨wr.heap.size, 1, none⟩ = some (.int .i64 s.who) := s3.cell 1; have y2 : w'.cell? ⟨wr.heap.size, 2, none⟩ = some (.int .i64 s.to) := s3.cell 2; have y3 : w'.cell? ⟨wr.heap.size, 3, none⟩ = some (.int .i64 s.lot) := s3.cell 3; have y4 : w'.cell? ⟨wr.heap.size, 4, none⟩ = some (.int .i64 s.coins) := s3.cell 4; clear s1 s2 s3; go_simp; try with_reducible rfl
                          try simp only [Act.put, List.setIfInBounds_toArray, List.set_cons_zero, List.set_cons_succ]
                          refine wpAnyF_take (i := 28) (oi := { dst := some 201, op := Go.Op.load 3 (Go.Operand.tmp 200), type := 3, pos := "law.go:135", after := #[{ on := 27, ground := Go.Ground.data }, { on := 20, ground := Go.Ground.guard }], guard := some (20, false) }) (v := ?_) rfl (by kernel_rfl) (by kernel_rfl) (by kernel_rfl) (by kernel_rfl) (fun _ _ _ h => h) (Or.inl ⟨by rfl, ?_⟩) hS ?_
                          rotate_left
                          · intro w' hSw; obtain ⟨s1, s2, s3⟩ := hSw; have q0 := cell3 s1 hpw; have q1 := cell3 s1 hpt; have q2 := cell3 s2 hpw; have q3 := cell3 s2 hpt; rw [← HTW.out] at q0; rw [← HTT.out] at q1; rw [← HRW.out] at q2; rw [← HRT.out] at q3; have y0 : w'.cell? ⟨wr.heap.size, 0, none⟩ = some (.int .i64 s.kind) := s3.cell 0; have y1 : w'.cell? ⟨wr.heap.size, 1, none⟩ = some (.int .i64 s.who) := s3.cell 1; have y2 : w'.cell? ⟨wr.heap.size, 2, none⟩ = some (.int .i64 s.to) := s3.cell 2; have y3 : w'.cell? ⟨wr.heap.size, 3, none⟩ = some (.int .i64 s.lot) := s3.cell 3; have y4 : w'.cell? ⟨wr.heap.size, 4, none⟩ = some (.int .i64 s.coins) := s3.cell 4; clear s1 s2 s3; go_simp; try with_reducible rfl
                          try simp only [Act.put, List.setIfInBounds_toArray, List.set_cons_zero, List.set_cons_succ]
                          refine wpAnyF_ready (rs := [29]) (by kernel_rfl) (by simp) ?_
                          refine AllReadyF.cons (o := { dst := some 202, op := Go.Op.call { callee := Go.Callee.value (Go.Operand.func 20), args := #[Go.Operand.tmp 196, Go.Operand.tmp 199, Go.Operand.tmp 201], argTypes := #[23, 37, 3] }, type := 4, pos := "law.go:135", after := #[{ on := 23, ground := Go.Ground.data }, { on := 26, ground := Go.Ground.data }, { on := 28, ground := Go.Ground.data }, { on := 20, ground := Go.Ground.chain }, { on := 20, ground := Go.Ground.guard }], guard := some (20, false) }) rfl (by rfl) (fun K hK => ?_) ?_
                          · go_simp
                            rw [HTW.out, HRW.out]
                            refine (tells_any (HTR7.out.pair pw hpw) HWS.out.1).mono ?_
                            rintro e W8 ⟨rfl, hb8⟩
                            refine hK.out _ _ ?_ (fun hS => ?_)
                            · exact ⟨hS.1.grow hb8, hS.2.1.grow hb8, hS.2.2.grow hb8⟩
                            clear hK K
                            try simp only [Act.put, List.setIfInBounds_toArray, List.set_cons_zero, List.set_cons_succ]
                            have HTR8 := Lib.hid (HTR7.out.grow hb8)
                            have HB8' := Lib.hid (HB7.out.trans (hb8.mono HB7.out.size))
                            clear hb8
                            refine wpAnyF_take (i := 30) (oi := { dst := some 203, op := Go.Op.unOp Go.UnOp.not 4 (Go.Operand.tmp 202), type := 4, pos := "law.go:135", after := #[{ on := 29, ground := Go.Ground.data }, { on := 20, ground := Go.Ground.guard }], guard := some (20, false) }) (v := ?_) rfl (by kernel_rfl) (by kernel_rfl) (by kernel_rfl) (by kernel_rfl) (fun _ _ _ h => h) (Or.inl ⟨by rfl, ?_⟩) hS ?_
                            rotate_left
                            · intro w' hSw; obtain ⟨s1, s2, s3⟩ := hSw; have q0 := cell3 s1 hpw; have q1 := cell3 s1 hpt; have q2 := cell3 s2 hpw; have q3 := cell3 s2 hpt; rw [← HTW.out] at q0; rw [← HTT.out] at q1; rw [← HRW.out] at q2; rw [← HRT.out] at q3; have y0 : w'.cell? ⟨wr.heap.size, 0, none⟩ = some (.int .i64 s.kind) := s3.cell 0; have y1 : w'.cell? ⟨wr.heap.size, 1, none⟩ = some (.int .i64 s.who) := s3.cell 1; have y2 : w'.cell? ⟨wr.heap.size, 2, none⟩ = some (.int .i64 s.to) := s3.cell 2; have y3 : w'.cell? ⟨wr.heap.size, 3, none⟩ = some (.int .i64 s.lot) := s3.cell 3; have y4 : w'.cell? ⟨wr.heap.size, 4, none⟩ = some (.int .i64 s.coins) := s3.cell 4; clear s1 s2 s3; go_simp; try with_reducible rfl
                            try simp only [Act.put, List.setIfInBounds_toArray, List.set_cons_zero, List.set_cons_succ]
                            refine wpAnyF_take (i := 31) (oi := { dst := some 204, op := Go.Op.pick (Go.Operand.tmp 193) (Go.Operand.const (Go.Value.bool true)) (Go.Operand.tmp 203), type := 4, pos := "law.go:135", after := #[{ on := 20, ground := Go.Ground.data }, { on := 30, ground := Go.Ground.data }], guard := none }) (v := ?_) rfl (by kernel_rfl) (by kernel_rfl) (by kernel_rfl) (by kernel_rfl) (fun _ _ _ h => h) (Or.inl ⟨by rfl, ?_⟩) hS ?_
                            rotate_left
                            · intro w' hSw; obtain ⟨s1, s2, s3⟩ := hSw; have q0 := cell3 s1 hpw; have q1 := cell3 s1 hpt; have q2 := cell3 s2 hpw; have q3 := cell3 s2 hpt; rw [← HTW.out] at q0; rw [← HTT.out] at q1; rw [← HRW.out] at q2; rw [← HRT.out] at q3; have y0 : w'.cell? ⟨wr.heap.size, 0, none⟩ = some (.int .i64 s.kind) := s3.cell 0; have y1 : w'.cell? ⟨wr.heap.size, 1, none⟩ = some (.int .i64 s.who) := s3.cell 1; have y2 : w'.cell? ⟨wr.heap.size, 2, none⟩ = some (.int .i64 s.to) := s3.cell 2; have y3 : w'.cell? ⟨wr.heap.size, 3, none⟩ = some (.int .i64 s.lot) := s3.cell 3; have y4 : w'.cell? ⟨wr.heap.size, 4, none⟩ = some (.int .i64 s.coins) := s3.cell 4; clear s1 s2 s3; go_simp; try with_reducible rfl
                            try simp only [Act.put, List.setIfInBounds_toArray, List.set_cons_zero, List.set_cons_succ]
                            refine wpAnyF_done (by kernel_rfl) ?_ _
                            go_wp2_with fail
                            go_roundw
                            case rel => exact ⟨k + 1, _, _, _, _, _, _, by omega, by go_num, HTR8.out, HLOW7.out, HB8'.out⟩
                            case measure => simp [intOf]; omega
                          exact AllReadyF.nil
                        exact AllReadyF.nil
                      exact AllReadyF.nil
                    exact AllReadyF.nil
                  · have d8 : (s.kind == 8) = false := by simpa using k8
                    clear k7 k8
                    have HTR9 := HTR2
                    have HY9 := HY2
                    have HB9 := HB2
                    have HLOW9 := HLOW
                    go_wp2_with fail
                    obtain ⟨VV, hVV⟩ : ∃ W : World, W = V2.drew := ⟨_, rfl⟩
                    have htr := HTR9.out.grow (Below.refl _ _).drew
                    have hyb := HY9.out.grow (Below.refl _ _).drew
                    have hbb := HB9.out.trans ((Below.refl w.heap.size V2).drew)
                    rw [← hVV] at htr hyb hbb
                    have HTRV := Lib.hid htr
                    have HYV2 := Lib.hid hyb
                    have HBV2 := Lib.hid hbb
                    obtain ⟨zt, hzt⟩ : ∃ z, z = !(f pt).there := ⟨_, rfl⟩
                    have i0 : (tv pt).isNone = zt := (htr.none_ hpt).1.trans hzt.symm
                    have i1 : (rv pt).isNone = zt := (htr.none_ hpt).2.trans hzt.symm
                    have hS0 : Blk V2.drew wq.heap.size 42 #[.pointer (tv 0), .pointer (tv 1), .pointer (tv 2)] ∧ Blk V2.drew (wq.heap.size + 1) 43 #[.pointer (rv 0), .pointer (rv 1), .pointer (rv 2)] ∧ Blk V2.drew wr.heap.size 45 #[.int .i64 s.kind, .int .i64 s.who, .int .i64 s.to, .int .i64 s.lot, .int .i64 s.coins] := ⟨HTR9.out.ta.grow (Below.refl _ _).drew, HTR9.out.ra.grow (Below.refl _ _).drew, HY9.out.grow (Below.refl _ _).drew⟩
                    obtain ⟨tvw, htvw⟩ : ∃ z, z = tv pw := ⟨_, rfl⟩
                    obtain ⟨tvt, htvt⟩ : ∃ z, z = tv pt := ⟨_, rfl⟩
                    obtain ⟨rvw, hrvw⟩ : ∃ z, z = rv pw := ⟨_, rfl⟩
                    obtain ⟨rvt, hrvt⟩ : ∃ z, z = rv pt := ⟨_, rfl⟩
                    rw [← htvt] at i0
                    rw [← hrvt] at i1
                    have HS0 := Lib.hid hS0
                    have HTW := Lib.hid htvw
                    have HTT := Lib.hid htvt
                    have HRW := Lib.hid hrvw
                    have HRT := Lib.hid hrvt
                    clear htr hyb hbb hzt hS0 htvw htvt hrvw hrvt
                    refine wp_region_F (fun W => Blk W wq.heap.size 42 #[.pointer (tv 0), .pointer (tv 1), .pointer (tv 2)] ∧ Blk W (wq.heap.size + 1) 43 #[.pointer (rv 0), .pointer (rv 1), .pointer (rv 2)] ∧ Blk W wr.heap.size 45 #[.int .i64 s.kind, .int .i64 s.who, .int .i64 s.to, .int .i64 s.lot, .int .i64 s.coins]) [] (by kernel_rfl) HS0.out (fun hS => ?_)
                    rw [← hVV] at hS ⊢
                    clear hVV HS0
                    refine wpAnyF_take (i := 0) (oi := { dst := some 173, op := Go.Op.move (Go.Operand.tmp 20), type := 3, pos := "law.go:135", after := #[], guard := none }) (v := ?_) rfl (by kernel_rfl) (by kernel_rfl) (by kernel_rfl) (by kernel_rfl) (fun _ _ _ h => h) (Or.inl ⟨by rfl, ?_⟩) hS ?_
                    rotate_left
                    · intro w' hSw; obtain ⟨s1, s2, s3⟩ := hSw; have q0 := cell3 s1 hpw; have q1 := cell3 s1 hpt; have q2 := cell3 s2 hpw; have q3 := cell3 s2 hpt; rw [← HTW.out] at q0; rw [← HTT.out] at q1; rw [← HRW.out] at q2; rw [← HRT.out] at q3; have y0 : w'.cell? ⟨wr.heap.size, 0, none⟩ = some (.int .i64 s.kind) := s3.cell 0; have y1 : w'.cell? ⟨wr.heap.size, 1, none⟩ = some (.int .i64 s.who) := s3.cell 1; have y2 : w'.cell? ⟨wr.heap.size, 2, none⟩ = some (.int .i64 s.to) := s3.cell 2; have y3 : w'.cell? ⟨wr.heap.size, 3, none⟩ = some (.int .i64 s.lot) := s3.cell 3; have y4 : w'.cell? ⟨wr.heap.size, 4, none⟩ = some (.int .i64 s.coins) := s3.cell 4; clear s1 s2 s3; go_simp; try with_reducible rfl
                    try simp only [Act.put, List.setIfInBounds_toArray, List.set_cons_zero, List.set_cons_succ]
                    refine wpAnyF_take (i := 1) (oi := { dst := some 174, op := Go.Op.indexAddr 42 (Go.Operand.tmp 15) (Go.Operand.tmp 173), type := 0, pos := "law.go:135", after := #[{ on := 0, ground := Go.Ground.data }], guard := none }) (v := ?_) rfl (by kernel_rfl) (by kernel_rfl) (by kernel_rfl) (by kernel_rfl) (fun _ _ _ h => h) (Or.inl ⟨by rfl, ?_⟩) hS ?_
                    rotate_left
                    · intro w' hSw; obtain ⟨s1, s2, s3⟩ := hSw; have q0 := cell3 s1 hpw; have q1 := cell3 s1 hpt; have q2 := cell3 s2 hpw; have q3 := cell3 s2 hpt; rw [← HTW.out] at q0; rw [← HTT.out] at q1; rw [← HRW.out] at q2; rw [← HRT.out] at q3; have y0 : w'.cell? ⟨wr.heap.size, 0, none⟩ = some (.int .i64 s.kind) := s3.cell 0; have y1 : w'.cell? ⟨wr.heap.size, 1, none⟩ = some (.int .i64 s.who) := s3.cell 1; have y2 : w'.cell? ⟨wr.heap.size, 2, none⟩ = some (.int .i64 s.to) := s3.cell 2; have y3 : w'.cell? ⟨wr.heap.size, 3, none⟩ = some (.int .i64 s.lot) := s3.cell 3; have y4 : w'.cell? ⟨wr.heap.size, 4, none⟩ = some (.int .i64 s.coins) := s3.cell 4; clear s1 s2 s3; go_simp; try with_reducible rfl
                    try simp only [Act.put, List.setIfInBounds_toArray, List.set_cons_zero, List.set_cons_succ]
                    refine wpAnyF_take (i := 2) (oi := { dst := some 175, op := Go.Op.load 23 (Go.Operand.tmp 174), type := 23, pos := "law.go:135", after := #[{ on := 1, ground := Go.Ground.data }], guard := none }) (v := ?_) rfl (by kernel_rfl) (by kernel_rfl) (by kernel_rfl) (by kernel_rfl) (fun _ _ _ h => h) (Or.inl ⟨by rfl, ?_⟩) hS ?_
                    rotate_left
                    · intro w' hSw; obtain ⟨s1, s2, s3⟩ := hSw; have q0 := cell3 s1 hpw; have q1 := cell3 s1 hpt; have q2 := cell3 s2 hpw; have q3 := cell3 s2 hpt; rw [← HTW.out] at q0; rw [← HTT.out] at q1; rw [← HRW.out] at q2; rw [← HRT.out] at q3; have y0 : w'.cell? ⟨wr.heap.size, 0, none⟩ = some (.int .i64 s.kind) := s3.cell 0; have y1 : w'.cell? ⟨wr.heap.size, 1, none⟩ = some (.int .i64 s.who) := s3.cell 1; have y2 : w'.cell? ⟨wr.heap.size, 2, none⟩ = some (.int .i64 s.to) := s3.cell 2; have y3 : w'.cell? ⟨wr.heap.size, 3, none⟩ = some (.int .i64 s.lot) := s3.cell 3; have y4 : w'.cell? ⟨wr.heap.size, 4, none⟩ = some (.int .i64 s.coins) := s3.cell 4; clear s1 s2 s3; go_simp; try with_reducible rfl
                    try simp only [Act.put, List.setIfInBounds_toArray, List.set_cons_zero, List.set_cons_succ]
                    refine wpAnyF_take (i := 3) (oi := { dst := some 176, op := Go.Op.binOp Go.BinOp.eql 23 (Go.Operand.tmp 175) (Go.Operand.const (Go.Value.pointer none)) 23, type := 4, pos := "law.go:135", after := #[{ on := 2, ground := Go.Ground.data }], guard := none }) (v := ?_) rfl (by kernel_rfl) (by kernel_rfl) (by kernel_rfl) (by kernel_rfl) (fun _ _ _ h => h) (Or.inl ⟨by rfl, ?_⟩) hS ?_
                    rotate_left
                    · intro w' hSw; obtain ⟨s1, s2, s3⟩ := hSw; have q0 := cell3 s1 hpw; have q1 := cell3 s1 hpt; have q2 := cell3 s2 hpw; have q3 := cell3 s2 hpt; rw [← HTW.out] at q0; rw [← HTT.out] at q1; rw [← HRW.out] at q2; rw [← HRT.out] at q3; have y0 : w'.cell? ⟨wr.heap.size, 0, none⟩ = some (.int .i64 s.kind) := s3.cell 0; have y1 : w'.cell? ⟨wr.heap.size, 1, none⟩ = some (.int .i64 s.who) := s3.cell 1; have y2 : w'.cell? ⟨wr.heap.size, 2, none⟩ = some (.int .i64 s.to) := s3.cell 2; have y3 : w'.cell? ⟨wr.heap.size, 3, none⟩ = some (.int .i64 s.lot) := s3.cell 3; have y4 : w'.cell? ⟨wr.heap.size, 4, none⟩ = some (.int .i64 s.coins) := s3.cell 4; clear s1 s2 s3; go_simp; try with_reducible rfl
                    try simp only [Act.put, List.setIfInBounds_toArray, List.set_cons_zero, List.set_cons_succ]
                    refine wpAnyF_take (i := 4) (oi := { dst := some 177, op := Go.Op.move (Go.Operand.tmp 20), type := 3, pos := "law.go:135", after := #[], guard := none }) (v := ?_) rfl (by kernel_rfl) (by kernel_rfl) (by kernel_rfl) (by kernel_rfl) (fun _ _ _ h => h) (Or.inl ⟨by rfl, ?_⟩) hS ?_
                    rotate_left
                    · intro w' hSw; obtain ⟨s1, s2, s3⟩ := hSw; have q0 := cell3 s1 hpw; have q1 := cell3 s1 hpt; have q2 := cell3 s2 hpw; have q3 := cell3 s2 hpt; rw [← HTW.out] at q0; rw [← HTT.out] at q1; rw [← HRW.out] at q2; rw [← HRT.out] at q3; have y0 : w'.cell? ⟨wr.heap.size, 0, none⟩ = some (.int .i64 s.kind) := s3.cell 0; have y1 : w'.cell? ⟨wr.heap.size, 1, none⟩ = some (.int .i64 s.who) := s3.cell 1; have y2 : w'.cell? ⟨wr.heap.size, 2, none⟩ = some (.int .i64 s.to) := s3.cell 2; have y3 : w'.cell? ⟨wr.heap.size, 3, none⟩ = some (.int .i64 s.lot) := s3.cell 3; have y4 : w'.cell? ⟨wr.heap.size, 4, none⟩ = some (.int .i64 s.coins) := s3.cell 4; clear s1 s2 s3; go_simp; try with_reducible rfl
                    try simp only [Act.put, List.setIfInBounds_toArray, List.set_cons_zero, List.set_cons_succ]
                    refine wpAnyF_take (i := 5) (oi := { dst := some 178, op := Go.Op.indexAddr 43 (Go.Operand.tmp 16) (Go.Operand.tmp 177), type := 0, pos := "law.go:135", after := #[{ on := 4, ground := Go.Ground.data }], guard := none }) (v := ?_) rfl (by kernel_rfl) (by kernel_rfl) (by kernel_rfl) (by kernel_rfl) (fun _ _ _ h => h) (Or.inl ⟨by rfl, ?_⟩) hS ?_
                    rotate_left
                    · intro w' hSw; obtain ⟨s1, s2, s3⟩ := hSw; have q0 := cell3 s1 hpw; have q1 := cell3 s1 hpt; have q2 := cell3 s2 hpw; have q3 := cell3 s2 hpt; rw [← HTW.out] at q0; rw [← HTT.out] at q1; rw [← HRW.out] at q2; rw [← HRT.out] at q3; have y0 : w'.cell? ⟨wr.heap.size, 0, none⟩ = some (.int .i64 s.kind) := s3.cell 0; have y1 : w'.cell? ⟨wr.heap.size, 1, none⟩ = some (.int .i64 s.who) := s3.cell 1; have y2 : w'.cell? ⟨wr.heap.size, 2, none⟩ = some (.int .i64 s.to) := s3.cell 2; have y3 : w'.cell? ⟨wr.heap.size, 3, none⟩ = some (.int .i64 s.lot) := s3.cell 3; have y4 : w'.cell? ⟨wr.heap.size, 4, none⟩ = some (.int .i64 s.coins) := s3.cell 4; clear s1 s2 s3; go_simp; try with_reducible rfl
                    try simp only [Act.put, List.setIfInBounds_toArray, List.set_cons_zero, List.set_cons_succ]
                    refine wpAnyF_take (i := 6) (oi := { dst := some 179, op := Go.Op.load 37 (Go.Operand.tmp 178), type := 37, pos := "law.go:135", after := #[{ on := 5, ground := Go.Ground.data }], guard := none }) (v := ?_) rfl (by kernel_rfl) (by kernel_rfl) (by kernel_rfl) (by kernel_rfl) (fun _ _ _ h => h) (Or.inl ⟨by rfl, ?_⟩) hS ?_
                    rotate_left
                    · intro w' hSw; obtain ⟨s1, s2, s3⟩ := hSw; have q0 := cell3 s1 hpw; have q1 := cell3 s1 hpt; have q2 := cell3 s2 hpw; have q3 := cell3 s2 hpt; rw [← HTW.out] at q0; rw [← HTT.out] at q1; rw [← HRW.out] at q2; rw [← HRT.out] at q3; have y0 : w'.cell? ⟨wr.heap.size, 0, none⟩ = some (.int .i64 s.kind) := s3.cell 0; have y1 : w'.cell? ⟨wr.heap.size, 1, none⟩ = some (.int .i64 s.who) := s3.cell 1; have y2 : w'.cell? ⟨wr.heap.size, 2, none⟩ = some (.int .i64 s.to) := s3.cell 2; have y3 : w'.cell? ⟨wr.heap.size, 3, none⟩ = some (.int .i64 s.lot) := s3.cell 3; have y4 : w'.cell? ⟨wr.heap.size, 4, none⟩ = some (.int .i64 s.coins) := s3.cell 4; clear s1 s2 s3; go_simp; try with_reducible rfl
                    try simp only [Act.put, List.setIfInBounds_toArray, List.set_cons_zero, List.set_cons_succ]
                    refine wpAnyF_take (i := 7) (oi := { dst := some 180, op := Go.Op.binOp Go.BinOp.eql 37 (Go.Operand.tmp 179) (Go.Operand.const (Go.Value.pointer none)) 37, type := 4, pos := "law.go:135", after := #[{ on := 6, ground := Go.Ground.data }], guard := none }) (v := ?_) rfl (by kernel_rfl) (by kernel_rfl) (by kernel_rfl) (by kernel_rfl) (fun _ _ _ h => h) (Or.inl ⟨by rfl, ?_⟩) hS ?_
                    rotate_left
                    · intro w' hSw; obtain ⟨s1, s2, s3⟩ := hSw; have q0 := cell3 s1 hpw; have q1 := cell3 s1 hpt; have q2 := cell3 s2 hpw; have q3 := cell3 s2 hpt; rw [← HTW.out] at q0; rw [← HTT.out] at q1; rw [← HRW.out] at q2; rw [← HRT.out] at q3; have y0 : w'.cell? ⟨wr.heap.size, 0, none⟩ = some (.int .i64 s.kind) := s3.cell 0; have y1 : w'.cell? ⟨wr.heap.size, 1, none⟩ = some (.int .i64 s.who) := s3.cell 1; have y2 : w'.cell? ⟨wr.heap.size, 2, none⟩ = some (.int .i64 s.to) := s3.cell 2; have y3 : w'.cell? ⟨wr.heap.size, 3, none⟩ = some (.int .i64 s.lot) := s3.cell 3; have y4 : w'.cell? ⟨wr.heap.size, 4, none⟩ = some (.int .i64 s.coins) := s3.cell 4; clear s1 s2 s3; go_simp; try with_reducible rfl
                    try simp only [Act.put, List.setIfInBounds_toArray, List.set_cons_zero, List.set_cons_succ]
                    refine wpAnyF_take (i := 8) (oi := { dst := some 181, op := Go.Op.binOp Go.BinOp.neq 4 (Go.Operand.tmp 176) (Go.Operand.tmp 180) 4, type := 4, pos := "law.go:135", after := #[{ on := 3, ground := Go.Ground.data }, { on := 7, ground := Go.Ground.data }], guard := none }) (v := ?_) rfl (by kernel_rfl) (by kernel_rfl) (by kernel_rfl) (by kernel_rfl) (fun _ _ _ h => h) (Or.inl ⟨by rfl, ?_⟩) hS ?_
                    rotate_left
                    · intro w' hSw; obtain ⟨s1, s2, s3⟩ := hSw; have q0 := cell3 s1 hpw; have q1 := cell3 s1 hpt; have q2 := cell3 s2 hpw; have q3 := cell3 s2 hpt; rw [← HTW.out] at q0; rw [← HTT.out] at q1; rw [← HRW.out] at q2; rw [← HRT.out] at q3; have y0 : w'.cell? ⟨wr.heap.size, 0, none⟩ = some (.int .i64 s.kind) := s3.cell 0; have y1 : w'.cell? ⟨wr.heap.size, 1, none⟩ = some (.int .i64 s.who) := s3.cell 1; have y2 : w'.cell? ⟨wr.heap.size, 2, none⟩ = some (.int .i64 s.to) := s3.cell 2; have y3 : w'.cell? ⟨wr.heap.size, 3, none⟩ = some (.int .i64 s.lot) := s3.cell 3; have y4 : w'.cell? ⟨wr.heap.size, 4, none⟩ = some (.int .i64 s.coins) := s3.cell 4; clear s1 s2 s3; go_simp; try with_reducible rfl
                    try simp only [Act.put, List.setIfInBounds_toArray, List.set_cons_zero, List.set_cons_succ]
                    refine wpAnyF_take (i := 9) (oi := { dst := some 182, op := Go.Op.move (Go.Operand.tmp 181), type := 4, pos := "law.go:135", after := #[{ on := 8, ground := Go.Ground.data }], guard := none }) (v := ?_) rfl (by kernel_rfl) (by kernel_rfl) (by kernel_rfl) (by kernel_rfl) (fun _ _ _ h => h) (Or.inl ⟨by rfl, ?_⟩) hS ?_
                    rotate_left
                    · intro w' hSw; obtain ⟨s1, s2, s3⟩ := hSw; have q0 := cell3 s1 hpw; have q1 := cell3 s1 hpt; have q2 := cell3 s2 hpw; have q3 := cell3 s2 hpt; rw [← HTW.out] at q0; rw [← HTT.out] at q1; rw [← HRW.out] at q2; rw [← HRT.out] at q3; have y0 : w'.cell? ⟨wr.heap.size, 0, none⟩ = some (.int .i64 s.kind) := s3.cell 0; have y1 : w'.cell? ⟨wr.heap.size, 1, none⟩ = some (.int .i64 s.who) := s3.cell 1; have y2 : w'.cell? ⟨wr.heap.size, 2, none⟩ = some (.int .i64 s.to) := s3.cell 2; have y3 : w'.cell? ⟨wr.heap.size, 3, none⟩ = some (.int .i64 s.lot) := s3.cell 3; have y4 : w'.cell? ⟨wr.heap.size, 4, none⟩ = some (.int .i64 s.coins) := s3.cell 4; clear s1 s2 s3; go_simp; try with_reducible rfl
                    try simp only [Act.put, List.setIfInBounds_toArray, List.set_cons_zero, List.set_cons_succ]
                    refine wpAnyF_take (i := 10) (oi := { dst := some 183, op := Go.Op.move (Go.Operand.tmp 19), type := 3, pos := "law.go:135", after := #[{ on := 9, ground := Go.Ground.guard }], guard := some (9, false) }) (v := ?_) rfl (by kernel_rfl) (by kernel_rfl) (by kernel_rfl) (by kernel_rfl) (fun _ _ _ h => h) (Or.inl ⟨by rfl, ?_⟩) hS ?_
                    rotate_left
                    · intro w' hSw; obtain ⟨s1, s2, s3⟩ := hSw; have q0 := cell3 s1 hpw; have q1 := cell3 s1 hpt; have q2 := cell3 s2 hpw; have q3 := cell3 s2 hpt; rw [← HTW.out] at q0; rw [← HTT.out] at q1; rw [← HRW.out] at q2; rw [← HRT.out] at q3; have y0 : w'.cell? ⟨wr.heap.size, 0, none⟩ = some (.int .i64 s.kind) := s3.cell 0; have y1 : w'.cell? ⟨wr.heap.size, 1, none⟩ = some (.int .i64 s.who) := s3.cell 1; have y2 : w'.cell? ⟨wr.heap.size, 2, none⟩ = some (.int .i64 s.to) := s3.cell 2; have y3 : w'.cell? ⟨wr.heap.size, 3, none⟩ = some (.int .i64 s.lot) := s3.cell 3; have y4 : w'.cell? ⟨wr.heap.size, 4, none⟩ = some (.int .i64 s.coins) := s3.cell 4; clear s1 s2 s3; go_simp; try with_reducible rfl
                    try simp only [Act.put, List.setIfInBounds_toArray, List.set_cons_zero, List.set_cons_succ]
                    refine wpAnyF_take (i := 11) (oi := { dst := some 184, op := Go.Op.indexAddr 42 (Go.Operand.tmp 15) (Go.Operand.tmp 183), type := 0, pos := "law.go:135", after := #[{ on := 10, ground := Go.Ground.data }, { on := 9, ground := Go.Ground.guard }], guard := some (9, false) }) (v := ?_) rfl (by kernel_rfl) (by kernel_rfl) (by kernel_rfl) (by kernel_rfl) (fun _ _ _ h => h) (Or.inl ⟨by rfl, ?_⟩) hS ?_
                    rotate_left
                    · intro w' hSw; obtain ⟨s1, s2, s3⟩ := hSw; have q0 := cell3 s1 hpw; have q1 := cell3 s1 hpt; have q2 := cell3 s2 hpw; have q3 := cell3 s2 hpt; rw [← HTW.out] at q0; rw [← HTT.out] at q1; rw [← HRW.out] at q2; rw [← HRT.out] at q3; have y0 : w'.cell? ⟨wr.heap.size, 0, none⟩ = some (.int .i64 s.kind) := s3.cell 0; have y1 : w'.cell? ⟨wr.heap.size, 1, none⟩ = some (.int .i64 s.who) := s3.cell 1; have y2 : w'.cell? ⟨wr.heap.size, 2, none⟩ = some (.int .i64 s.to) := s3.cell 2; have y3 : w'.cell? ⟨wr.heap.size, 3, none⟩ = some (.int .i64 s.lot) := s3.cell 3; have y4 : w'.cell? ⟨wr.heap.size, 4, none⟩ = some (.int .i64 s.coins) := s3.cell 4; clear s1 s2 s3; go_simp; try with_reducible rfl
                    try simp only [Act.put, List.setIfInBounds_toArray, List.set_cons_zero, List.set_cons_succ]
                    refine wpAnyF_take (i := 12) (oi := { dst := some 185, op := Go.Op.load 23 (Go.Operand.tmp 184), type := 23, pos := "law.go:135", after := #[{ on := 11, ground := Go.Ground.data }, { on := 9, ground := Go.Ground.guard }], guard := some (9, false) }) (v := ?_) rfl (by kernel_rfl) (by kernel_rfl) (by kernel_rfl) (by kernel_rfl) (fun _ _ _ h => h) (Or.inl ⟨by rfl, ?_⟩) hS ?_
                    rotate_left
                    · intro w' hSw; obtain ⟨s1, s2, s3⟩ := hSw; have q0 := cell3 s1 hpw; have q1 := cell3 s1 hpt; have q2 := cell3 s2 hpw; have q3 := cell3 s2 hpt; rw [← HTW.out] at q0; rw [← HTT.out] at q1; rw [← HRW.out] at q2; rw [← HRT.out] at q3; have y0 : w'.cell? ⟨wr.heap.size, 0, none⟩ = some (.int .i64 s.kind) := s3.cell 0; have y1 : w'.cell? ⟨wr.heap.size, 1, none⟩ = some (.int .i64 s.who) := s3.cell 1; have y2 : w'.cell? ⟨wr.heap.size, 2, none⟩ = some (.int .i64 s.to) := s3.cell 2; have y3 : w'.cell? ⟨wr.heap.size, 3, none⟩ = some (.int .i64 s.lot) := s3.cell 3; have y4 : w'.cell? ⟨wr.heap.size, 4, none⟩ = some (.int .i64 s.coins) := s3.cell 4; clear s1 s2 s3; go_simp; try with_reducible rfl
                    try simp only [Act.put, List.setIfInBounds_toArray, List.set_cons_zero, List.set_cons_succ]
                    refine wpAnyF_take (i := 13) (oi := { dst := some 186, op := Go.Op.move (Go.Operand.tmp 19), type := 3, pos := "law.go:135", after := #[{ on := 9, ground := Go.Ground.guard }], guard := some (9, false) }) (v := ?_) rfl (by kernel_rfl) (by kernel_rfl) (by kernel_rfl) (by kernel_rfl) (fun _ _ _ h => h) (Or.inl ⟨by rfl, ?_⟩) hS ?_
                    rotate_left
                    · intro w' hSw; obtain ⟨s1, s2, s3⟩ := hSw; have q0 := cell3 s1 hpw; have q1 := cell3 s1 hpt; have q2 := cell3 s2 hpw; have q3 := cell3 s2 hpt; rw [← HTW.out] at q0; rw [← HTT.out] at q1; rw [← HRW.out] at q2; rw [← HRT.out] at q3; have y0 : w'.cell? ⟨wr.heap.size, 0, none⟩ = some (.int .i64 s.kind) := s3.cell 0; have y1 : w'.cell? ⟨wr.heap.size, 1, none⟩ = some (.int .i64 s.who) := s3.cell 1; have y2 : w'.cell? ⟨wr.heap.size, 2, none⟩ = some (.int .i64 s.to) := s3.cell 2; have y3 : w'.cell? ⟨wr.heap.size, 3, none⟩ = some (.int .i64 s.lot) := s3.cell 3; have y4 : w'.cell? ⟨wr.heap.size, 4, none⟩ = some (.int .i64 s.coins) := s3.cell 4; clear s1 s2 s3; go_simp; try with_reducible rfl
                    try simp only [Act.put, List.setIfInBounds_toArray, List.set_cons_zero, List.set_cons_succ]
                    refine wpAnyF_take (i := 14) (oi := { dst := some 187, op := Go.Op.indexAddr 43 (Go.Operand.tmp 16) (Go.Operand.tmp 186), type := 0, pos := "law.go:135", after := #[{ on := 13, ground := Go.Ground.data }, { on := 9, ground := Go.Ground.guard }], guard := some (9, false) }) (v := ?_) rfl (by kernel_rfl) (by kernel_rfl) (by kernel_rfl) (by kernel_rfl) (fun _ _ _ h => h) (Or.inl ⟨by rfl, ?_⟩) hS ?_
                    rotate_left
                    · intro w' hSw; obtain ⟨s1, s2, s3⟩ := hSw; have q0 := cell3 s1 hpw; have q1 := cell3 s1 hpt; have q2 := cell3 s2 hpw; have q3 := cell3 s2 hpt; rw [← HTW.out] at q0; rw [← HTT.out] at q1; rw [← HRW.out] at q2; rw [← HRT.out] at q3; have y0 : w'.cell? ⟨wr.heap.size, 0, none⟩ = some (.int .i64 s.kind) := s3.cell 0; have y1 : w'.cell? ⟨wr.heap.size, 1, none⟩ = some (.int .i64 s.who) := s3.cell 1; have y2 : w'.cell? ⟨wr.heap.size, 2, none⟩ = some (.int .i64 s.to) := s3.cell 2; have y3 : w'.cell? ⟨wr.heap.size, 3, none⟩ = some (.int .i64 s.lot) := s3.cell 3; have y4 : w'.cell? ⟨wr.heap.size, 4, none⟩ = some (.int .i64 s.coins) := s3.cell 4; clear s1 s2 s3; go_simp; try with_reducible rfl
                    try simp only [Act.put, List.setIfInBounds_toArray, List.set_cons_zero, List.set_cons_succ]
                    refine wpAnyF_take (i := 15) (oi := { dst := some 188, op := Go.Op.load 37 (Go.Operand.tmp 187), type := 37, pos := "law.go:135", after := #[{ on := 14, ground := Go.Ground.data }, { on := 9, ground := Go.Ground.guard }], guard := some (9, false) }) (v := ?_) rfl (by kernel_rfl) (by kernel_rfl) (by kernel_rfl) (by kernel_rfl) (fun _ _ _ h => h) (Or.inl ⟨by rfl, ?_⟩) hS ?_
                    rotate_left
                    · intro w' hSw; obtain ⟨s1, s2, s3⟩ := hSw; have q0 := cell3 s1 hpw; have q1 := cell3 s1 hpt; have q2 := cell3 s2 hpw; have q3 := cell3 s2 hpt; rw [← HTW.out] at q0; rw [← HTT.out] at q1; rw [← HRW.out] at q2; rw [← HRT.out] at q3; have y0 : w'.cell? ⟨wr.heap.size, 0, none⟩ = some (.int .i64 s.kind) := s3.cell 0; have y1 : w'.cell? ⟨wr.heap.size, 1, none⟩ = some (.int .i64 s.who) := s3.cell 1; have y2 : w'.cell? ⟨wr.heap.size, 2, none⟩ = some (.int .i64 s.to) := s3.cell 2; have y3 : w'.cell? ⟨wr.heap.size, 3, none⟩ = some (.int .i64 s.lot) := s3.cell 3; have y4 : w'.cell? ⟨wr.heap.size, 4, none⟩ = some (.int .i64 s.coins) := s3.cell 4; clear s1 s2 s3; go_simp; try with_reducible rfl
                    try simp only [Act.put, List.setIfInBounds_toArray, List.set_cons_zero, List.set_cons_succ]
                    refine wpAnyF_take (i := 16) (oi := { dst := some 189, op := Go.Op.load 45 (Go.Operand.tmp 18), type := 45, pos := "law.go:135", after := #[{ on := 9, ground := Go.Ground.guard }], guard := some (9, false) }) (v := ?_) rfl (by kernel_rfl) (by kernel_rfl) (by kernel_rfl) (by kernel_rfl) (fun _ _ _ h => h) (Or.inl ⟨by rfl, ?_⟩) hS ?_
                    rotate_left
                    · intro w' hSw; obtain ⟨s1, s2, s3⟩ := hSw; have q0 := cell3 s1 hpw; have q1 := cell3 s1 hpt; have q2 := cell3 s2 hpw; have q3 := cell3 s2 hpt; rw [← HTW.out] at q0; rw [← HTT.out] at q1; rw [← HRW.out] at q2; rw [← HRT.out] at q3; have y0 : w'.cell? ⟨wr.heap.size, 0, none⟩ = some (.int .i64 s.kind) := s3.cell 0; have y1 : w'.cell? ⟨wr.heap.size, 1, none⟩ = some (.int .i64 s.who) := s3.cell 1; have y2 : w'.cell? ⟨wr.heap.size, 2, none⟩ = some (.int .i64 s.to) := s3.cell 2; have y3 : w'.cell? ⟨wr.heap.size, 3, none⟩ = some (.int .i64 s.lot) := s3.cell 3; have y4 : w'.cell? ⟨wr.heap.size, 4, none⟩ = some (.int .i64 s.coins) := s3.cell 4; clear s1 s2 s3; go_simp; try with_reducible rfl
                    try simp only [Act.put, List.setIfInBounds_toArray, List.set_cons_zero, List.set_cons_succ]
                    refine wpAnyF_ready (rs := [17]) (by kernel_rfl) (by simp) ?_
                    refine AllReadyF.cons (o := { dst := some 190, op := Go.Op.call { callee := Go.Callee.value (Go.Operand.func 19), args := #[Go.Operand.tmp 185, Go.Operand.tmp 188, Go.Operand.tmp 189], argTypes := #[23, 37, 45] }, type := 4, pos := "law.go:135", after := #[{ on := 12, ground := Go.Ground.data }, { on := 15, ground := Go.Ground.data }, { on := 16, ground := Go.Ground.data }, { on := 9, ground := Go.Ground.chain }, { on := 9, ground := Go.Ground.guard }], guard := some (9, false) }) rfl (by rfl) (fun K hK => ?_) ?_
                    · go_simp
                      rw [HTW.out, HRW.out]
                      refine (does_any (HTRV.out.pair pw hpw) (by unfold maxLen; omega) HWS.out).mono ?_
                      rintro e W7 ⟨rfl, hc7, f', hp7, ht7⟩
                      refine hK.out _ _ ?_ (fun hS => ?_)
                      · exact ⟨(HTRV.out.turn hpw hc7 hp7 ht7).ta, (HTRV.out.turn hpw hc7 hp7 ht7).ra, HYV2.out.chg hc7 (fun e => by obtain ⟨e1, e2⟩ := e; obtain ⟨x1, x2, x3⟩ := blk_far HYV2.out (by decide) (by decide) (HTRV.out.pair pw hpw) e1; omega)⟩
                      clear hK K
                      try simp only [Act.put, List.setIfInBounds_toArray, List.set_cons_zero, List.set_cons_succ]
                      have HTR7 := Lib.hid (HTRV.out.turn hpw hc7 hp7 ht7)
                      have HLOW7 := Lib.hid (HLOW9.out.turn ht7)
                      have HB7 := Lib.hid (HBV2.out.trans (hc7.below (B := w.heap.size) HBV2.out.size (fun k hk e => by obtain ⟨e1, e2⟩ := e; have := HLOW9.out pw hpw e1; omega)))
                      have hs7 := hc7.size
                      clear hc7 hp7 ht7
                      refine wpAnyF_take (i := 18) (oi := { dst := some 191, op := Go.Op.unOp Go.UnOp.not 4 (Go.Operand.tmp 190), type := 4, pos := "law.go:135", after := #[{ on := 17, ground := Go.Ground.data }, { on := 9, ground := Go.Ground.guard }], guard := some (9, false) }) (v := ?_) rfl (by kernel_rfl) (by kernel_rfl) (by kernel_rfl) (by kernel_rfl) (fun _ _ _ h => h) (Or.inl ⟨by rfl, ?_⟩) hS ?_
                      rotate_left
                      · intro w' hSw; obtain ⟨s1, s2, s3⟩ := hSw; have q0 := cell3 s1 hpw; have q1 := cell3 s1 hpt; have q2 := cell3 s2 hpw; have q3 := cell3 s2 hpt; rw [← HTW.out] at q0; rw [← HTT.out] at q1; rw [← HRW.out] at q2; rw [← HRT.out] at q3; have y0 : w'.cell? ⟨wr.heap.size, 0, none⟩ = some (.int .i64 s.kind) := s3.cell 0; have y1 : w'.cell? ⟨wr.heap.size, 1, none⟩ = some (.int .i64 s.who) := s3.cell 1; have y2 : w'.cell? ⟨wr.heap.size, 2, none⟩ = some (.int .i64 s.to) := s3.cell 2; have y3 : w'.cell? ⟨wr.heap.size, 3, none⟩ = some (.int .i64 s.lot) := s3.cell 3; have y4 : w'.cell? ⟨wr.heap.size, 4, none⟩ = some (.int .i64 s.coins) := s3.cell 4; clear s1 s2 s3; go_simp; try with_reducible rfl
                      try simp only [Act.put, List.setIfInBounds_toArray, List.set_cons_zero, List.set_cons_succ]
                      refine wpAnyF_take (i := 19) (oi := { dst := some 192, op := Go.Op.pick (Go.Operand.tmp 182) (Go.Operand.const (Go.Value.bool true)) (Go.Operand.tmp 191), type := 4, pos := "law.go:135", after := #[{ on := 9, ground := Go.Ground.data }, { on := 18, ground := Go.Ground.data }], guard := none }) (v := ?_) rfl (by kernel_rfl) (by kernel_rfl) (by kernel_rfl) (by kernel_rfl) (fun _ _ _ h => h) (Or.inl ⟨by rfl, ?_⟩) hS ?_
                      rotate_left
                      · intro w' hSw; obtain ⟨s1, s2, s3⟩ := hSw; have q0 := cell3 s1 hpw; have q1 := cell3 s1 hpt; have q2 := cell3 s2 hpw; have q3 := cell3 s2 hpt; rw [← HTW.out] at q0; rw [← HTT.out] at q1; rw [← HRW.out] at q2; rw [← HRT.out] at q3; have y0 : w'.cell? ⟨wr.heap.size, 0, none⟩ = some (.int .i64 s.kind) := s3.cell 0; have y1 : w'.cell? ⟨wr.heap.size, 1, none⟩ = some (.int .i64 s.who) := s3.cell 1; have y2 : w'.cell? ⟨wr.heap.size, 2, none⟩ = some (.int .i64 s.to) := s3.cell 2; have y3 : w'.cell? ⟨wr.heap.size, 3, none⟩ = some (.int .i64 s.lot) := s3.cell 3; have y4 : w'.cell? ⟨wr.heap.size, 4, none⟩ = some (.int .i64 s.coins) := s3.cell 4; clear s1 s2 s3; go_simp; try with_reducible rfl
                      try simp only [Act.put, List.setIfInBounds_toArray, List.set_cons_zero, List.set_cons_succ]
                      refine wpAnyF_take (i := 20) (oi := { dst := some 193, op := Go.Op.move (Go.Operand.tmp 192), type := 4, pos := "law.go:135", after := #[{ on := 19, ground := Go.Ground.data }, { on := 17, ground := Go.Ground.chain }], guard := none }) (v := ?_) rfl (by kernel_rfl) (by kernel_rfl) (by kernel_rfl) (by kernel_rfl) (fun _ _ _ h => h) (Or.inl ⟨by rfl, ?_⟩) hS ?_
                      rotate_left
                      · intro w' hSw; obtain ⟨s1, s2, s3⟩ := hSw; have q0 := cell3 s1 hpw; have q1 := cell3 s1 hpt; have q2 := cell3 s2 hpw; have q3 := cell3 s2 hpt; rw [← HTW.out] at q0; rw [← HTT.out] at q1; rw [← HRW.out] at q2; rw [← HRT.out] at q3; have y0 : w'.cell? ⟨wr.heap.size, 0, none⟩ = some (.int .i64 s.kind) := s3.cell 0; have y1 : w'.cell? ⟨wr.heap.size, 1, none⟩ = some (.int .i64 s.who) := s3.cell 1; have y2 : w'.cell? ⟨wr.heap.size, 2, none⟩ = some (.int .i64 s.to) := s3.cell 2; have y3 : w'.cell? ⟨wr.heap.size, 3, none⟩ = some (.int .i64 s.lot) := s3.cell 3; have y4 : w'.cell? ⟨wr.heap.size, 4, none⟩ = some (.int .i64 s.coins) := s3.cell 4; clear s1 s2 s3; go_simp; try with_reducible rfl
                      try simp only [Act.put, List.setIfInBounds_toArray, List.set_cons_zero, List.set_cons_succ]
                      refine wpAnyF_take (i := 21) (oi := { dst := some 194, op := Go.Op.move (Go.Operand.tmp 19), type := 3, pos := "law.go:135", after := #[{ on := 20, ground := Go.Ground.guard }], guard := some (20, false) }) (v := ?_) rfl (by kernel_rfl) (by kernel_rfl) (by kernel_rfl) (by kernel_rfl) (fun _ _ _ h => h) (Or.inl ⟨by rfl, ?_⟩) hS ?_
                      rotate_left
                      · intro w' hSw; obtain ⟨s1, s2, s3⟩ := hSw; have q0 := cell3 s1 hpw; have q1 := cell3 s1 hpt; have q2 := cell3 s2 hpw; have q3 := cell3 s2 hpt; rw [← HTW.out] at q0; rw [← HTT.out] at q1; rw [← HRW.out] at q2; rw [← HRT.out] at q3; have y0 : w'.cell? ⟨wr.heap.size, 0, none⟩ = some (.int .i64 s.kind) := s3.cell 0; have y1 : w'.cell? ⟨wr.heap.size, 1, none⟩ = some (.int .i64 s.who) := s3.cell 1; have y2 : w'.cell? ⟨wr.heap.size, 2, none⟩ = some (.int .i64 s.to) := s3.cell 2; have y3 : w'.cell? ⟨wr.heap.size, 3, none⟩ = some (.int .i64 s.lot) := s3.cell 3; have y4 : w'.cell? ⟨wr.heap.size, 4, none⟩ = some (.int .i64 s.coins) := s3.cell 4; clear s1 s2 s3; go_simp; try with_reducible rfl
                      try simp only [Act.put, List.setIfInBounds_toArray, List.set_cons_zero, List.set_cons_succ]
                      refine wpAnyF_take (i := 22) (oi := { dst := some 195, op := Go.Op.indexAddr 42 (Go.Operand.tmp 15) (Go.Operand.tmp 194), type := 0, pos := "law.go:135", after := #[{ on := 21, ground := Go.Ground.data }, { on := 20, ground := Go.Ground.guard }], guard := some (20, false) }) (v := ?_) rfl (by kernel_rfl) (by kernel_rfl) (by kernel_rfl) (by kernel_rfl) (fun _ _ _ h => h) (Or.inl ⟨by rfl, ?_⟩) hS ?_
                      rotate_left
                      · intro w' hSw; obtain ⟨s1, s2, s3⟩ := hSw; have q0 := cell3 s1 hpw; have q1 := cell3 s1 hpt; have q2 := cell3 s2 hpw; have q3 := cell3 s2 hpt; rw [← HTW.out] at q0; rw [← HTT.out] at q1; rw [← HRW.out] at q2; rw [← HRT.out] at q3; have y0 : w'.cell? ⟨wr.heap.size, 0, none⟩ = some (.int .i64 s.kind) := s3.cell 0; have y1 : w'.cell? ⟨wr.heap.size, 1, none⟩ = some (.int .i64 s.who) := s3.cell 1; have y2 : w'.cell? ⟨wr.heap.size, 2, none⟩ = some (.int .i64 s.to) := s3.cell 2; have y3 : w'.cell? ⟨wr.heap.size, 3, none⟩ = some (.int .i64 s.lot) := s3.cell 3; have y4 : w'.cell? ⟨wr.heap.size, 4, none⟩ = some (.int .i64 s.coins) := s3.cell 4; clear s1 s2 s3; go_simp; try with_reducible rfl
                      try simp only [Act.put, List.setIfInBounds_toArray, List.set_cons_zero, List.set_cons_succ]
                      refine wpAnyF_take (i := 23) (oi := { dst := some 196, op := Go.Op.load 23 (Go.Operand.tmp 195), type := 23, pos := "law.go:135", after := #[{ on := 22, ground := Go.Ground.data }, { on := 20, ground := Go.Ground.guard }], guard := some (20, false) }) (v := ?_) rfl (by kernel_rfl) (by kernel_rfl) (by kernel_rfl) (by kernel_rfl) (fun _ _ _ h => h) (Or.inl ⟨by rfl, ?_⟩) hS ?_
                      rotate_left
                      · intro w' hSw; obtain ⟨s1, s2, s3⟩ := hSw; have q0 := cell3 s1 hpw; have q1 := cell3 s1 hpt; have q2 := cell3 s2 hpw; have q3 := cell3 s2 hpt; rw [← HTW.out] at q0; rw [← HTT.out] at q1; rw [← HRW.out] at q2; rw [← HRT.out] at q3; have y0 : w'.cell? ⟨wr.heap.size, 0, none⟩ = some (.int .i64 s.kind) := s3.cell 0; have y1 : w'.cell? ⟨wr.heap.size, 1, none⟩ = some (.int .i64 s.who) := s3.cell 1; have y2 : w'.cell? ⟨wr.heap.size, 2, none⟩ = some (.int .i64 s.to) := s3.cell 2; have y3 : w'.cell? ⟨wr.heap.size, 3, none⟩ = some (.int .i64 s.lot) := s3.cell 3; have y4 : w'.cell? ⟨wr.heap.size, 4, none⟩ = some (.int .i64 s.coins) := s3.cell 4; clear s1 s2 s3; go_simp; try with_reducible rfl
                      try simp only [Act.put, List.setIfInBounds_toArray, List.set_cons_zero, List.set_cons_succ]
                      refine wpAnyF_take (i := 24) (oi := { dst := some 197, op := Go.Op.move (Go.Operand.tmp 19), type := 3, pos := "law.go:135", after := #[{ on := 20, ground := Go.Ground.guard }], guard := some (20, false) }) (v := ?_) rfl (by kernel_rfl) (by kernel_rfl) (by kernel_rfl) (by kernel_rfl) (fun _ _ _ h => h) (Or.inl ⟨by rfl, ?_⟩) hS ?_
                      rotate_left
                      · intro w' hSw; obtain ⟨s1, s2, s3⟩ := hSw; have q0 := cell3 s1 hpw; have q1 := cell3 s1 hpt; have q2 := cell3 s2 hpw; have q3 := cell3 s2 hpt; rw [← HTW.out] at q0; rw [← HTT.out] at q1; rw [← HRW.out] at q2; rw [← HRT.out] at q3; have y0 : w'.cell? ⟨wr.heap.size, 0, none⟩ = some (.int .i64 s.kind) := s3.cell 0; have y1 : w'.cell? ⟨wr.heap.size, 1, none⟩ = some (.int .i64 s.who) := s3.cell 1; have y2 : w'.cell? ⟨wr.heap.size, 2, none⟩ = some (.int .i64 s.to) := s3.cell 2; have y3 : w'.cell? ⟨wr.heap.size, 3, none⟩ = some (.int .i64 s.lot) := s3.cell 3; have y4 : w'.cell? ⟨wr.heap.size, 4, none⟩ = some (.int .i64 s.coins) := s3.cell 4; clear s1 s2 s3; go_simp; try with_reducible rfl
                      try simp only [Act.put, List.setIfInBounds_toArray, List.set_cons_zero, List.set_cons_succ]
                      refine wpAnyF_take (i := 25) (oi := { dst := some 198, op := Go.Op.indexAddr 43 (Go.Operand.tmp 16) (Go.Operand.tmp 197), type := 0, pos := "law.go:135", after := #[{ on := 24, ground := Go.Ground.data }, { on := 20, ground := Go.Ground.guard }], guard := some (20, false) }) (v := ?_) rfl (by kernel_rfl) (by kernel_rfl) (by kernel_rfl) (by kernel_rfl) (fun _ _ _ h => h) (Or.inl ⟨by rfl, ?_⟩) hS ?_
                      rotate_left
                      · intro w' hSw; obtain ⟨s1, s2, s3⟩ := hSw; have q0 := cell3 s1 hpw; have q1 := cell3 s1 hpt; have q2 := cell3 s2 hpw; have q3 := cell3 s2 hpt; rw [← HTW.out] at q0; rw [← HTT.out] at q1; rw [← HRW.out] at q2; rw [← HRT.out] at q3; have y0 : w'.cell? ⟨wr.heap.size, 0, none⟩ = some (.int .i64 s.kind) := s3.cell 0; have y1 : w'.cell? ⟨wr.heap.size, 1, none⟩ = some (.int .i64 s.who) := s3.cell 1; have y2 : w'.cell? ⟨wr.heap.size, 2, none⟩ = some (.int .i64 s.to) := s3.cell 2; have y3 : w'.cell? ⟨wr.heap.size, 3, none⟩ = some (.int .i64 s.lot) := s3.cell 3; have y4 : w'.cell? ⟨wr.heap.size, 4, none⟩ = some (.int .i64 s.coins) := s3.cell 4; clear s1 s2 s3; go_simp; try with_reducible rfl
                      try simp only [Act.put, List.setIfInBounds_toArray, List.set_cons_zero, List.set_cons_succ]
                      refine wpAnyF_take (i := 26) (oi := { dst := some 199, op := Go.Op.load 37 (Go.Operand.tmp 198), type := 37, pos := "law.go:135", after := #[{ on := 25, ground := Go.Ground.data }, { on := 20, ground := Go.Ground.guard }], guard := some (20, false) }) (v := ?_) rfl (by kernel_rfl) (by kernel_rfl) (by kernel_rfl) (by kernel_rfl) (fun _ _ _ h => h) (Or.inl ⟨by rfl, ?_⟩) hS ?_
                      rotate_left
                      · intro w' hSw; obtain ⟨s1, s2, s3⟩ := hSw; have q0 := cell3 s1 hpw; have q1 := cell3 s1 hpt; have q2 := cell3 s2 hpw; have q3 := cell3 s2 hpt; rw [← HTW.out] at q0; rw [← HTT.out] at q1; rw [← HRW.out] at q2; rw [← HRT.out] at q3; have y0 : w'.cell? ⟨wr.heap.size, 0, none⟩ = some (.int .i64 s.kind) := s3.cell 0; have y1 : w'.cell? ⟨wr.heap.size, 1, none⟩ = some (.int .i64 s.who) := s3.cell 1; have y2 : w'.cell? ⟨wr.heap.size, 2, none⟩ = some (.int .i64 s.to) := s3.cell 2; have y3 : w'.cell? ⟨wr.heap.size, 3, none⟩ = some (.int .i64 s.lot) := s3.cell 3; have y4 : w'.cell? ⟨wr.heap.size, 4, none⟩ = some (.int .i64 s.coins) := s3.cell 4; clear s1 s2 s3; go_simp; try with_reducible rfl
                      try simp only [Act.put, List.setIfInBounds_toArray, List.set_cons_zero, List.set_cons_succ]
                      refine wpAnyF_take (i := 27) (oi := { dst := some 200, op := Go.Op.fieldAddr 45 (Go.Operand.tmp 18) 3, type := 0, pos := "law.go:135", after := #[{ on := 20, ground := Go.Ground.guard }], guard := some (20, false) }) (v := ?_) rfl (by kernel_rfl) (by kernel_rfl) (by kernel_rfl) (by kernel_rfl) (fun _ _ _ h => h) (Or.inl ⟨by rfl, ?_⟩) hS ?_
                      rotate_left
                      · intro w' hSw; obtain ⟨s1, s2, s3⟩ := hSw; have q0 := cell3 s1 hpw; have q1 := cell3 s1 hpt; have q2 := cell3 s2 hpw; have q3 := cell3 s2 hpt; rw [← HTW.out] at q0; rw [← HTT.out] at q1; rw [← HRW.out] at q2; rw [← HRT.out] at q3; have y0 : w'.cell? ⟨wr.heap.size, 0, none⟩ = some (.int .i64 s.kind) := s3.cell 0; have y1 : w'.cell? ⟨wr.heap.size, 1, none⟩ = some (.int .i64 s.who) := s3.cell 1; have y2 : w'.cell? ⟨wr.heap.size, 2, none⟩ = some (.int .i64 s.to) := s3.cell 2; have y3 : w'.cell? ⟨wr.heap.size, 3, none⟩ = some (.int .i64 s.lot) := s3.cell 3; have y4 : w'.cell? ⟨wr.heap.size, 4, none⟩ = some (.int .i64 s.coins) := s3.cell 4; clear s1 s2 s3; go_simp; try with_reducible rfl
                      try simp only [Act.put, List.setIfInBounds_toArray, List.set_cons_zero, List.set_cons_succ]
                      refine wpAnyF_take (i := 28) (oi := { dst := some 201, op := Go.Op.load 3 (Go.Operand.tmp 200), type := 3, pos := "law.go:135", after := #[{ on := 27, ground := Go.Ground.data }, { on := 20, ground := Go.Ground.guard }], guard := some (20, false) }) (v := ?_) rfl (by kernel_rfl) (by kernel_rfl) (by kernel_rfl) (by kernel_rfl) (fun _ _ _ h => h) (Or.inl ⟨by rfl, ?_⟩) hS ?_
                      rotate_left
                      · intro w' hSw; obtain ⟨s1, s2, s3⟩ := hSw; have q0 := cell3 s1 hpw; have q1 := cell3 s1 hpt; have q2 := cell3 s2 hpw; have q3 := cell3 s2 hpt; rw [← HTW.out] at q0; rw [← HTT.out] at q1; rw [← HRW.out] at q2; rw [← HRT.out] at q3; have y0 : w'.cell? ⟨wr.heap.size, 0, none⟩ = some (.int .i64 s.kind) := s3.cell 0; have y1 : w'.cell? ⟨wr.heap.size, 1, none⟩ = some (.int .i64 s.who) := s3.cell 1; have y2 : w'.cell? ⟨wr.heap.size, 2, none⟩ = some (.int .i64 s.to) := s3.cell 2; have y3 : w'.cell? ⟨wr.heap.size, 3, none⟩ = some (.int .i64 s.lot) := s3.cell 3; have y4 : w'.cell? ⟨wr.heap.size, 4, none⟩ = some (.int .i64 s.coins) := s3.cell 4; clear s1 s2 s3; go_simp; try with_reducible rfl
                      try simp only [Act.put, List.setIfInBounds_toArray, List.set_cons_zero, List.set_cons_succ]
                      refine wpAnyF_ready (rs := [29]) (by kernel_rfl) (by simp) ?_
                      refine AllReadyF.cons (o := { dst := some 202, op := Go.Op.call { callee := Go.Callee.value (Go.Operand.func 20), args := #[Go.Operand.tmp 196, Go.Operand.tmp 199, Go.Operand.tmp 201], argTypes := #[23, 37, 3] }, type := 4, pos := "law.go:135", after := #[{ on := 23, ground := Go.Ground.data }, { on := 26, ground := Go.Ground.data }, { on := 28, ground := Go.Ground.data }, { on := 20, ground := Go.Ground.chain }, { on := 20, ground := Go.Ground.guard }], guard := some (20, false) }) rfl (by rfl) (fun K hK => ?_) ?_
                      · go_simp
                        rw [HTW.out, HRW.out]
                        refine (tells_any (HTR7.out.pair pw hpw) HWS.out.1).mono ?_
                        rintro e W8 ⟨rfl, hb8⟩
                        refine hK.out _ _ ?_ (fun hS => ?_)
                        · exact ⟨hS.1.grow hb8, hS.2.1.grow hb8, hS.2.2.grow hb8⟩
                        clear hK K
                        try simp only [Act.put, List.setIfInBounds_toArray, List.set_cons_zero, List.set_cons_succ]
                        have HTR8 := Lib.hid (HTR7.out.grow hb8)
                        have HB8' := Lib.hid (HB7.out.trans (hb8.mono HB7.out.size))
                        clear hb8
                        refine wpAnyF_take (i := 30) (oi := { dst := some 203, op := Go.Op.unOp Go.UnOp.not 4 (Go.Operand.tmp 202), type := 4, pos := "law.go:135", after := #[{ on := 29, ground := Go.Ground.data }, { on := 20, ground := Go.Ground.guard }], guard := some (20, false) }) (v := ?_) rfl (by kernel_rfl) (by kernel_rfl) (by kernel_rfl) (by kernel_rfl) (fun _ _ _ h => h) (Or.inl ⟨by rfl, ?_⟩) hS ?_
                        rotate_left
                        · intro w' hSw; obtain ⟨s1, s2, s3⟩ := hSw; have q0 := cell3 s1 hpw; have q1 := cell3 s1 hpt; have q2 := cell3 s2 hpw; have q3 := cell3 s2 hpt; rw [← HTW.out] at q0; rw [← HTT.out] at q1; rw [← HRW.out] at q2; rw [← HRT.out] at q3; have y0 : w'.cell? ⟨wr.heap.size, 0, none⟩ = some (.int .i64 s.kind) := s3.cell 0; have y1 : w'.cell? ⟨wr.heap.size, 1, none⟩ = some (.int .i64 s.who) := s3.cell 1; have y2 : w'.cell? ⟨wr.heap.size, 2, none⟩ = some (.int .i64 s.to) := s3.cell 2; have y3 : w'.cell? ⟨wr.heap.size, 3, none⟩ = some (.int .i64 s.lot) := s3.cell 3; have y4 : w'.cell? ⟨wr.heap.size, 4, none⟩ = some (.int .i64 s.coins) := s3.cell 4; clear s1 s2 s3; go_simp; try with_reducible rfl
                        try simp only [Act.put, List.setIfInBounds_toArray, List.set_cons_zero, List.set_cons_succ]
                        refine wpAnyF_take (i := 31) (oi := { dst := some 204, op := Go.Op.pick (Go.Operand.tmp 193) (Go.Operand.const (Go.Value.bool true)) (Go.Operand.tmp 203), type := 4, pos := "law.go:135", after := #[{ on := 20, ground := Go.Ground.data }, { on := 30, ground := Go.Ground.data }], guard := none }) (v := ?_) rfl (by kernel_rfl) (by kernel_rfl) (by kernel_rfl) (by kernel_rfl) (fun _ _ _ h => h) (Or.inl ⟨by rfl, ?_⟩) hS ?_
                        rotate_left
                        · intro w' hSw; obtain ⟨s1, s2, s3⟩ := hSw; have q0 := cell3 s1 hpw; have q1 := cell3 s1 hpt; have q2 := cell3 s2 hpw; have q3 := cell3 s2 hpt; rw [← HTW.out] at q0; rw [← HTT.out] at q1; rw [← HRW.out] at q2; rw [← HRT.out] at q3; have y0 : w'.cell? ⟨wr.heap.size, 0, none⟩ = some (.int .i64 s.kind) := s3.cell 0; have y1 : w'.cell? ⟨wr.heap.size, 1, none⟩ = some (.int .i64 s.who) := s3.cell 1; have y2 : w'.cell? ⟨wr.heap.size, 2, none⟩ = some (.int .i64 s.to) := s3.cell 2; have y3 : w'.cell? ⟨wr.heap.size, 3, none⟩ = some (.int .i64 s.lot) := s3.cell 3; have y4 : w'.cell? ⟨wr.heap.size, 4, none⟩ = some (.int .i64 s.coins) := s3.cell 4; clear s1 s2 s3; go_simp; try with_reducible rfl
                        try simp only [Act.put, List.setIfInBounds_toArray, List.set_cons_zero, List.set_cons_succ]
                        refine wpAnyF_done (by kernel_rfl) ?_ _
                        go_wp2_with fail
                        go_roundw
                        case rel => exact ⟨k + 1, _, _, _, _, _, _, by omega, by go_num, HTR8.out, HLOW7.out, HB8'.out⟩
                        case measure => simp [intOf]; omega
                      exact AllReadyF.nil
                    exact AllReadyF.nil
              exact AllReadyF.nil
            exact AllReadyF.nil
          · obtain rfl : k = script.length := by omega
            obtain ⟨wx, hwx⟩ : ∃ W : World, W = wr := ⟨_, rfl⟩
            have HTRX := Lib.hid htr
            have HBX := Lib.hid hb
            rw [← hwx] at HTRX HBX hsR hBBr ⊢
            clear htr hb hwx hlt hk
            go_wp2_with fail
            go_loopw [21] (fun i wy => ∃ k : Nat, k ≤ 3 ∧ i = .int .i64 k ∧ Below wx.heap.size wx wy) (fun i _ => 3 - (intOf i).toNat)
            case atStart => exact ⟨0, Nat.zero_le _, rfl, Below.refl _ _⟩
            case round =>
              obtain ⟨p, hp3, rfl, hb2⟩ := hrel
              have HTY := Lib.hid (HTRX.out.grow hb2)
              have HBY := Lib.hid hb2
              have hs2 := hb2.size
              clear hb2
              by_cases hlt2 : p < 3
              · have p1 : (0 : Int) ≤ (p : Int) := by omega
                have p2 : (p : Int) < 3 := by omega
                obtain ⟨tvw, htvw⟩ : ∃ z, z = tv p := ⟨_, rfl⟩
                obtain ⟨rvw, hrvw⟩ : ∃ z, z = rv p := ⟨_, rfl⟩
                have HTW := Lib.hid htvw
                have HRW := Lib.hid hrvw
                clear htvw hrvw
                go_wp2_with fail
                refine wp_region_F (Below wr.heap.size wr) [] (by kernel_rfl) ((Below.refl _ _).drew) (fun hS => ?_)
                refine wpAnyF_take (i := 0) (oi := { dst := some 209, op := Go.Op.move (Go.Operand.tmp 21), type := 3, pos := "law.go:140", after := #[], guard := none }) (v := ?_) rfl (by kernel_rfl) (by kernel_rfl) (by kernel_rfl) (by kernel_rfl) (fun _ _ _ h => h) (Or.inl ⟨by rfl, ?_⟩) hS ?_
                rotate_left
                · intro w' hSw; have s1 := HTY.out.ta.grow hSw; have s2 := HTY.out.ra.grow hSw; have q0 := cell3 s1 hlt2; have q2 := cell3 s2 hlt2; rw [← HTW.out] at q0; rw [← HRW.out] at q2; clear s1 s2; go_simp; try with_reducible rfl
                try simp only [Act.put, List.setIfInBounds_toArray, List.set_cons_zero, List.set_cons_succ]
                refine wpAnyF_take (i := 1) (oi := { dst := some 210, op := Go.Op.indexAddr 42 (Go.Operand.tmp 15) (Go.Operand.tmp 209), type := 0, pos := "law.go:140", after := #[{ on := 0, ground := Go.Ground.data }], guard := none }) (v := ?_) rfl (by kernel_rfl) (by kernel_rfl) (by kernel_rfl) (by kernel_rfl) (fun _ _ _ h => h) (Or.inl ⟨by rfl, ?_⟩) hS ?_
                rotate_left
                · intro w' hSw; have s1 := HTY.out.ta.grow hSw; have s2 := HTY.out.ra.grow hSw; have q0 := cell3 s1 hlt2; have q2 := cell3 s2 hlt2; rw [← HTW.out] at q0; rw [← HRW.out] at q2; clear s1 s2; go_simp; try with_reducible rfl
                try simp only [Act.put, List.setIfInBounds_toArray, List.set_cons_zero, List.set_cons_succ]
                refine wpAnyF_take (i := 2) (oi := { dst := some 211, op := Go.Op.load 23 (Go.Operand.tmp 210), type := 23, pos := "law.go:140", after := #[{ on := 1, ground := Go.Ground.data }], guard := none }) (v := ?_) rfl (by kernel_rfl) (by kernel_rfl) (by kernel_rfl) (by kernel_rfl) (fun _ _ _ h => h) (Or.inl ⟨by rfl, ?_⟩) hS ?_
                rotate_left
                · intro w' hSw; have s1 := HTY.out.ta.grow hSw; have s2 := HTY.out.ra.grow hSw; have q0 := cell3 s1 hlt2; have q2 := cell3 s2 hlt2; rw [← HTW.out] at q0; rw [← HRW.out] at q2; clear s1 s2; go_simp; try with_reducible rfl
                try simp only [Act.put, List.setIfInBounds_toArray, List.set_cons_zero, List.set_cons_succ]
                refine wpAnyF_take (i := 3) (oi := { dst := some 212, op := Go.Op.move (Go.Operand.tmp 21), type := 3, pos := "law.go:140", after := #[], guard := none }) (v := ?_) rfl (by kernel_rfl) (by kernel_rfl) (by kernel_rfl) (by kernel_rfl) (fun _ _ _ h => h) (Or.inl ⟨by rfl, ?_⟩) hS ?_
                rotate_left
                · intro w' hSw; have s1 := HTY.out.ta.grow hSw; have s2 := HTY.out.ra.grow hSw; have q0 := cell3 s1 hlt2; have q2 := cell3 s2 hlt2; rw [← HTW.out] at q0; rw [← HRW.out] at q2; clear s1 s2; go_simp; try with_reducible rfl
                try simp only [Act.put, List.setIfInBounds_toArray, List.set_cons_zero, List.set_cons_succ]
                refine wpAnyF_take (i := 4) (oi := { dst := some 213, op := Go.Op.indexAddr 43 (Go.Operand.tmp 16) (Go.Operand.tmp 212), type := 0, pos := "law.go:140", after := #[{ on := 3, ground := Go.Ground.data }], guard := none }) (v := ?_) rfl (by kernel_rfl) (by kernel_rfl) (by kernel_rfl) (by kernel_rfl) (fun _ _ _ h => h) (Or.inl ⟨by rfl, ?_⟩) hS ?_
                rotate_left
                · intro w' hSw; have s1 := HTY.out.ta.grow hSw; have s2 := HTY.out.ra.grow hSw; have q0 := cell3 s1 hlt2; have q2 := cell3 s2 hlt2; rw [← HTW.out] at q0; rw [← HRW.out] at q2; clear s1 s2; go_simp; try with_reducible rfl
                try simp only [Act.put, List.setIfInBounds_toArray, List.set_cons_zero, List.set_cons_succ]
                refine wpAnyF_take (i := 5) (oi := { dst := some 214, op := Go.Op.load 37 (Go.Operand.tmp 213), type := 37, pos := "law.go:140", after := #[{ on := 4, ground := Go.Ground.data }], guard := none }) (v := ?_) rfl (by kernel_rfl) (by kernel_rfl) (by kernel_rfl) (by kernel_rfl) (fun _ _ _ h => h) (Or.inl ⟨by rfl, ?_⟩) hS ?_
                rotate_left
                · intro w' hSw; have s1 := HTY.out.ta.grow hSw; have s2 := HTY.out.ra.grow hSw; have q0 := cell3 s1 hlt2; have q2 := cell3 s2 hlt2; rw [← HTW.out] at q0; rw [← HRW.out] at q2; clear s1 s2; go_simp; try with_reducible rfl
                try simp only [Act.put, List.setIfInBounds_toArray, List.set_cons_zero, List.set_cons_succ]
                refine wpAnyF_ready (rs := [6]) (by kernel_rfl) (by simp) ?_
                refine AllReadyF.cons (o := { dst := some 215, op := Go.Op.call { callee := Go.Callee.value (Go.Operand.func 20), args := #[Go.Operand.tmp 211, Go.Operand.tmp 214, Go.Operand.const (Go.Value.int Go.IntKind.i64 0)], argTypes := #[23, 37, 3] }, type := 4, pos := "law.go:140", after := #[{ on := 2, ground := Go.Ground.data }, { on := 5, ground := Go.Ground.data }], guard := none }) rfl (by rfl) (fun K hK => ?_) ?_
                · go_simp
                  rw [HTW.out, HRW.out]
                  refine (tells_any ((HTY.out.grow hS).pair p hlt2) (x := 0) (by decide)).mono ?_
                  rintro e W6 ⟨rfl, hb6⟩
                  refine hK.out _ _ ?_ (fun hS => ?_)
                  · exact hS.trans (hb6.mono hS.size)
                  clear hK K
                  try simp only [Act.put, List.setIfInBounds_toArray, List.set_cons_zero, List.set_cons_succ]
                  clear hb6
                  refine wpAnyF_take (i := 7) (oi := { dst := some 216, op := Go.Op.unOp Go.UnOp.not 4 (Go.Operand.tmp 215), type := 4, pos := "law.go:140", after := #[{ on := 6, ground := Go.Ground.data }], guard := none }) (v := ?_) rfl (by kernel_rfl) (by kernel_rfl) (by kernel_rfl) (by kernel_rfl) (fun _ _ _ h => h) (Or.inl ⟨by rfl, ?_⟩) hS ?_
                  rotate_left
                  · intro w' hSw; have s1 := HTY.out.ta.grow hSw; have s2 := HTY.out.ra.grow hSw; have q0 := cell3 s1 hlt2; have q2 := cell3 s2 hlt2; rw [← HTW.out] at q0; rw [← HRW.out] at q2; clear s1 s2; go_simp; try with_reducible rfl
                  try simp only [Act.put, List.setIfInBounds_toArray, List.set_cons_zero, List.set_cons_succ]
                  refine wpAnyF_take (i := 8) (oi := { dst := some 217, op := Go.Op.move (Go.Operand.tmp 216), type := 4, pos := "law.go:140", after := #[{ on := 7, ground := Go.Ground.data }, { on := 6, ground := Go.Ground.chain }], guard := none }) (v := ?_) rfl (by kernel_rfl) (by kernel_rfl) (by kernel_rfl) (by kernel_rfl) (fun _ _ _ h => h) (Or.inl ⟨by rfl, ?_⟩) hS ?_
                  rotate_left
                  · intro w' hSw; have s1 := HTY.out.ta.grow hSw; have s2 := HTY.out.ra.grow hSw; have q0 := cell3 s1 hlt2; have q2 := cell3 s2 hlt2; rw [← HTW.out] at q0; rw [← HRW.out] at q2; clear s1 s2; go_simp; try with_reducible rfl
                  try simp only [Act.put, List.setIfInBounds_toArray, List.set_cons_zero, List.set_cons_succ]
                  refine wpAnyF_take (i := 9) (oi := { dst := some 218, op := Go.Op.move (Go.Operand.tmp 21), type := 3, pos := "law.go:140", after := #[{ on := 8, ground := Go.Ground.guard }], guard := some (8, false) }) (v := ?_) rfl (by kernel_rfl) (by kernel_rfl) (by kernel_rfl) (by kernel_rfl) (fun _ _ _ h => h) (Or.inl ⟨by rfl, ?_⟩) hS ?_
                  rotate_left
                  · intro w' hSw; have s1 := HTY.out.ta.grow hSw; have s2 := HTY.out.ra.grow hSw; have q0 := cell3 s1 hlt2; have q2 := cell3 s2 hlt2; rw [← HTW.out] at q0; rw [← HRW.out] at q2; clear s1 s2; go_simp; try with_reducible rfl
                  try simp only [Act.put, List.setIfInBounds_toArray, List.set_cons_zero, List.set_cons_succ]
                  refine wpAnyF_take (i := 10) (oi := { dst := some 219, op := Go.Op.indexAddr 42 (Go.Operand.tmp 15) (Go.Operand.tmp 218), type := 0, pos := "law.go:140", after := #[{ on := 9, ground := Go.Ground.data }, { on := 8, ground := Go.Ground.guard }], guard := some (8, false) }) (v := ?_) rfl (by kernel_rfl) (by kernel_rfl) (by kernel_rfl) (by kernel_rfl) (fun _ _ _ h => h) (Or.inl ⟨by rfl, ?_⟩) hS ?_
                  rotate_left
                  · intro w' hSw; have s1 := HTY.out.ta.grow hSw; have s2 := HTY.out.ra.grow hSw; have q0 := cell3 s1 hlt2; have q2 := cell3 s2 hlt2; rw [← HTW.out] at q0; rw [← HRW.out] at q2; clear s1 s2; go_simp; try with_reducible rfl
                  try simp only [Act.put, List.setIfInBounds_toArray, List.set_cons_zero, List.set_cons_succ]
                  refine wpAnyF_take (i := 11) (oi := { dst := some 220, op := Go.Op.load 23 (Go.Operand.tmp 219), type := 23, pos := "law.go:140", after := #[{ on := 10, ground := Go.Ground.data }, { on := 8, ground := Go.Ground.guard }], guard := some (8, false) }) (v := ?_) rfl (by kernel_rfl) (by kernel_rfl) (by kernel_rfl) (by kernel_rfl) (fun _ _ _ h => h) (Or.inl ⟨by rfl, ?_⟩) hS ?_
                  rotate_left
                  · intro w' hSw; have s1 := HTY.out.ta.grow hSw; have s2 := HTY.out.ra.grow hSw; have q0 := cell3 s1 hlt2; have q2 := cell3 s2 hlt2; rw [← HTW.out] at q0; rw [← HRW.out] at q2; clear s1 s2; go_simp; try with_reducible rfl
                  try simp only [Act.put, List.setIfInBounds_toArray, List.set_cons_zero, List.set_cons_succ]
                  refine wpAnyF_take (i := 12) (oi := { dst := some 221, op := Go.Op.move (Go.Operand.tmp 21), type := 3, pos := "law.go:140", after := #[{ on := 8, ground := Go.Ground.guard }], guard := some (8, false) }) (v := ?_) rfl (by kernel_rfl) (by kernel_rfl) (by kernel_rfl) (by kernel_rfl) (fun _ _ _ h => h) (Or.inl ⟨by rfl, ?_⟩) hS ?_
                  rotate_left
                  · intro w' hSw; have s1 := HTY.out.ta.grow hSw; have s2 := HTY.out.ra.grow hSw; have q0 := cell3 s1 hlt2; have q2 := cell3 s2 hlt2; rw [← HTW.out] at q0; rw [← HRW.out] at q2; clear s1 s2; go_simp; try with_reducible rfl
                  try simp only [Act.put, List.setIfInBounds_toArray, List.set_cons_zero, List.set_cons_succ]
                  refine wpAnyF_take (i := 13) (oi := { dst := some 222, op := Go.Op.indexAddr 43 (Go.Operand.tmp 16) (Go.Operand.tmp 221), type := 0, pos := "law.go:140", after := #[{ on := 12, ground := Go.Ground.data }, { on := 8, ground := Go.Ground.guard }], guard := some (8, false) }) (v := ?_) rfl (by kernel_rfl) (by kernel_rfl) (by kernel_rfl) (by kernel_rfl) (fun _ _ _ h => h) (Or.inl ⟨by rfl, ?_⟩) hS ?_
                  rotate_left
                  · intro w' hSw; have s1 := HTY.out.ta.grow hSw; have s2 := HTY.out.ra.grow hSw; have q0 := cell3 s1 hlt2; have q2 := cell3 s2 hlt2; rw [← HTW.out] at q0; rw [← HRW.out] at q2; clear s1 s2; go_simp; try with_reducible rfl
                  try simp only [Act.put, List.setIfInBounds_toArray, List.set_cons_zero, List.set_cons_succ]
                  refine wpAnyF_take (i := 14) (oi := { dst := some 223, op := Go.Op.load 37 (Go.Operand.tmp 222), type := 37, pos := "law.go:140", after := #[{ on := 13, ground := Go.Ground.data }, { on := 8, ground := Go.Ground.guard }], guard := some (8, false) }) (v := ?_) rfl (by kernel_rfl) (by kernel_rfl) (by kernel_rfl) (by kernel_rfl) (fun _ _ _ h => h) (Or.inl ⟨by rfl, ?_⟩) hS ?_
                  rotate_left
                  · intro w' hSw; have s1 := HTY.out.ta.grow hSw; have s2 := HTY.out.ra.grow hSw; have q0 := cell3 s1 hlt2; have q2 := cell3 s2 hlt2; rw [← HTW.out] at q0; rw [← HRW.out] at q2; clear s1 s2; go_simp; try with_reducible rfl
                  try simp only [Act.put, List.setIfInBounds_toArray, List.set_cons_zero, List.set_cons_succ]
                  refine wpAnyF_ready (rs := [15]) (by kernel_rfl) (by simp) ?_
                  refine AllReadyF.cons (o := { dst := some 224, op := Go.Op.call { callee := Go.Callee.value (Go.Operand.func 21), args := #[Go.Operand.tmp 220, Go.Operand.tmp 223, Go.Operand.const (Go.Value.int Go.IntKind.i64 0)], argTypes := #[23, 37, 2] }, type := 4, pos := "law.go:140", after := #[{ on := 11, ground := Go.Ground.data }, { on := 14, ground := Go.Ground.data }, { on := 8, ground := Go.Ground.chain }, { on := 8, ground := Go.Ground.guard }], guard := some (8, false) }) rfl (by rfl) (fun K hK => ?_) ?_
                  · go_simp
                    rw [HTW.out, HRW.out]
                    refine (goes_any ((HTY.out.grow hS).pair p hlt2).at_ (Fm.Ok.h ((HTY.out.grow hS).pair p hlt2).ok) ((HTY.out.grow hS).pair p hlt2).wants).mono ?_
                    rintro e W7 ⟨rfl, hb7⟩
                    refine hK.out _ _ ?_ (fun hS => ?_)
                    · exact hS.trans (hb7.mono hS.size)
                    clear hK K
                    try simp only [Act.put, List.setIfInBounds_toArray, List.set_cons_zero, List.set_cons_succ]
                    clear hb7
                    refine wpAnyF_take (i := 16) (oi := { dst := some 225, op := Go.Op.unOp Go.UnOp.not 4 (Go.Operand.tmp 224), type := 4, pos := "law.go:140", after := #[{ on := 15, ground := Go.Ground.data }, { on := 8, ground := Go.Ground.guard }], guard := some (8, false) }) (v := ?_) rfl (by kernel_rfl) (by kernel_rfl) (by kernel_rfl) (by kernel_rfl) (fun _ _ _ h => h) (Or.inl ⟨by rfl, ?_⟩) hS ?_
                    rotate_left
                    · intro w' hSw; have s1 := HTY.out.ta.grow hSw; have s2 := HTY.out.ra.grow hSw; have q0 := cell3 s1 hlt2; have q2 := cell3 s2 hlt2; rw [← HTW.out] at q0; rw [← HRW.out] at q2; clear s1 s2; go_simp; try with_reducible rfl
                    try simp only [Act.put, List.setIfInBounds_toArray, List.set_cons_zero, List.set_cons_succ]
                    refine wpAnyF_take (i := 17) (oi := { dst := some 226, op := Go.Op.pick (Go.Operand.tmp 217) (Go.Operand.const (Go.Value.bool true)) (Go.Operand.tmp 225), type := 4, pos := "law.go:140", after := #[{ on := 8, ground := Go.Ground.data }, { on := 16, ground := Go.Ground.data }], guard := none }) (v := ?_) rfl (by kernel_rfl) (by kernel_rfl) (by kernel_rfl) (by kernel_rfl) (fun _ _ _ h => h) (Or.inl ⟨by rfl, ?_⟩) hS ?_
                    rotate_left
                    · intro w' hSw; have s1 := HTY.out.ta.grow hSw; have s2 := HTY.out.ra.grow hSw; have q0 := cell3 s1 hlt2; have q2 := cell3 s2 hlt2; rw [← HTW.out] at q0; rw [← HRW.out] at q2; clear s1 s2; go_simp; try with_reducible rfl
                    try simp only [Act.put, List.setIfInBounds_toArray, List.set_cons_zero, List.set_cons_succ]
                    refine wpAnyF_done (by kernel_rfl) ?_ _
                    have HB7 := Lib.hid (HBY.out.trans (hS.mono hs2))
                    clear hS HTW HRW
                    go_wp2_with fail
                    go_roundw
                    case rel => exact ⟨p + 1, by omega, by go_num, HB7.out⟩
                    case measure => simp [intOf]; omega
                  exact AllReadyF.nil
                exact AllReadyF.nil
              · obtain rfl : p = 3 := by omega
                go_wp2_with fail
                refine (known_any _).mono ?_
                rintro e wz ⟨rfl, hbz⟩
                go_wp2_with fail
                go_ret
                exact ⟨rfl, (HBX.out.trans (HBY.out.mono hsR)).trans (hbz.mono (by have := HBY.out.size; omega))⟩
  exact AllReadyF.nil
end Go.Proofs.Ytibhmgeckghoeaa.Ac

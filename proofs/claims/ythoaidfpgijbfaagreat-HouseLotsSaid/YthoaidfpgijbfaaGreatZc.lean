import Derived.Test.YthoaidfpgijbfaaGreatZb
namespace Go.Proofs.YthoaidfpgijbfaaGreat.Ho
open Go.RowKit
open Go.MapKept (IsKey)
open Go.Proofs.YthoaidfpgijbfaaGreat.Vb Go.Proofs.YthoaidfpgijbfaaGreat.Ac
def movV (g : Nat) : Value := .func (.func 156) #[] #[.pointer (some ⟨g, 0, none⟩)]
set_option maxRecDepth 100000 in
theorem moved_any {W : World} {p r g m : Nat} {now k i : Int} {F : Int → Option Int} (hp : Blk W p 200 #[.int .i64 now, .pointer (some ⟨r, 0, none⟩), .map (some m)]) (hg : Blk W g 84 #[.pointer (some ⟨p, 0, none⟩)]) (hm : MapK (.int .i64) (.int .i64) W m F) :
    Calls Tryz.prog 156 #[.int .i64 k, .int .i64 i, .pointer (some ⟨g, 0, none⟩)] W fun e W' => e = .returned (.tuple #[]) ∧ MapK (.int .i64) (.int .i64) W' m (upd F k (if i < 0 then none else some i)) ∧ Chg (· = m) W W' := by
  have g0 : W.cell? ⟨g, 0, none⟩ = some (.pointer (some ⟨p, 0, none⟩)) := hg.cell 0
  have p2 : W.cell? ⟨p, 2, none⟩ = some (.map (some m)) := hp.cell 2
  by_cases h : i < 0
  · rw [if_pos h]
    obtain ⟨W', h1, h2, h3⟩ := hm.del (P := Tryz.prog) (mty := 198) (kt := 2) (et := 3) key_i64 i64_inj Tryz.underlying198 Tryz.underlying2 k 0 2
    have H2 := Lib.hid h2
    have H3 := Lib.hid h3
    clear hp hg hm h2 h3
    go_enter Tryz.func156, Tryz.ntmps156
    go_wp2_with fail
    go_end0
    exact ⟨rfl, H2.out, H3.out⟩
  · rw [if_neg h]
    obtain ⟨W', h1, h2, h3⟩ := hm.put (P := Tryz.prog) (mty := 198) (kt := 2) (et := 3) key_i64 i64_inj Tryz.underlying198 Tryz.underlying2 k i
    have H2 := Lib.hid h2
    have H3 := Lib.hid h3
    clear hp hg hm h2 h3
    go_enter Tryz.func156, Tryz.ntmps156
    go_wp2_with fail
    go_end0
    exact ⟨rfl, H2.out, H3.out⟩
set_option maxRecDepth 100000 in
theorem rlen_any {W : World} {R : Nat → Prop} {p r g m : Nat} {now : Int} {v : Value} {F : Int → Option Int} {l : List Du} (h : TickI W R p r g m now v F l) :
    Calls Tryz.prog 176 #[.pointer (some ⟨r, 0, none⟩)] W fun e W' => e = .returned (.int .i64 l.length) ∧ W' = W := by
  obtain ⟨A, cap, rfl⟩ := h.row.form
  have r0 : W.cell? ⟨r, 0, none⟩ = some (.slice A l.length cap) := h.br.cell 0
  clear h
  go_enter Tryz.func176, Tryz.ntmps176
  go_wp2_with fail
  go_ret
  exact ⟨rfl, rfl⟩
set_option maxRecDepth 100000 in
set_option maxHeartbeats 2000000 in
theorem rless_any {W : World} {R : Nat → Prop} {p r g m : Nat} {now : Int} {v : Value} {F : Int → Option Int} {l : List Du} (h : TickI W R p r g m now v F l) {i j : Nat} {a b : Du} (hi : l[i]? = some a) (hj : l[j]? = some b) :
    Calls Tryz.prog 345 #[.pointer (some ⟨r, 0, none⟩), .int .i64 i, .int .i64 j] W fun e W' => e = .returned (.bool (ltD a b)) ∧ Below W.heap.size W W' := by
  obtain ⟨q, cap, rfl, hq, i0, i1, _, _, hcap⟩ := h.at_ hi
  obtain ⟨q', cap', hv', _, j0, j1, _, _, _⟩ := h.at_ hj
  injection hv' with hv' _ hv2
  injection hv' with hv'
  injection hv' with hv' _ _
  subst hv' hv2
  have r0 : W.cell? ⟨r, 0, none⟩ = some (.slice (some ⟨q, 0, none⟩) l.length cap) := h.br.cell 0
  have lr := h.br.lt
  have li := (List.getElem?_eq_some_iff.1 hi).1
  have lj := (List.getElem?_eq_some_iff.1 hj).1
  have e1 : (0 : Int) ≤ (i : Int) := by omega
  have e2 : (i : Int) < (l.length : Int) := by omega
  have e3 : (0 : Int) ≤ (j : Int) := by omega
  have e4 : (j : Int) < (l.length : Int) := by omega
  have HO := Lib.hid (ordI_lt a b)
  have HAB : ∀ w, Calls Tryz.prog 150 #[.agg #[.int .i64 a.1, .int .i64 a.2], .agg #[.int .i64 b.1, .int .i64 b.2]] w fun e w' => e = .returned (.int .i64 (ordI a b)) ∧ Below w.heap.size w w' := order_any a b
  have HAB := Lib.hid HAB
  obtain ⟨c, hc⟩ : ∃ c, c = ordI a b := ⟨_, rfl⟩
  rw [← hc] at HO HAB
  obtain ⟨a1, a2⟩ := a
  obtain ⟨b1, b2⟩ := b
  simp only at i0 i1 j0 j1 HAB
  clear h hi hj hc
  go_enter Tryz.func345, Tryz.ntmps345
  go_wp2_with fail
  refine wp_region_F (Below W.heap.size W) [] (by kernel_rfl) ((Below.refl _ _).drew) (fun hS => ?_)
  refine wpAnyF_take (i := 0) (oi := ⟨some 7, .move (.tmp 0), 197, "ticks.go:24", #[], none⟩) (v := ?_) rfl (by kernel_rfl) (by kernel_rfl) (by kernel_rfl) (by kernel_rfl) (fun _ _ _ h => h) (Or.inl ⟨by rfl, ?_⟩) hS ?_
  rotate_left
  · intro w' _; go_simp; try with_reducible rfl
  try simp only [Act.put, pb, pz, ps]
  refine wpAnyF_take (i := 1) (oi := ⟨some 8, .nilCheck (.tmp 7), 0, "ticks.go:24", #[⟨0, .data⟩], none⟩) (v := ?_) rfl (by kernel_rfl) (by kernel_rfl) (by kernel_rfl) (by kernel_rfl) (fun _ _ _ h => h) (Or.inl ⟨by rfl, ?_⟩) hS ?_
  rotate_left
  · intro w' _; go_simp; try with_reducible rfl
  try simp only [Act.put, pb, pz, ps]
  refine wpAnyF_take (i := 2) (oi := ⟨some 9, .fieldAddr 218 (.tmp 8) 0, 0, "ticks.go:24", #[⟨1, .data⟩], none⟩) (v := ?_) rfl (by kernel_rfl) (by kernel_rfl) (by kernel_rfl) (by kernel_rfl) (fun _ _ _ h => h) (Or.inl ⟨by rfl, ?_⟩) hS ?_
  rotate_left
  · intro w' _; go_simp; try with_reducible rfl
  try simp only [Act.put, pb, pz, ps]
  refine wpAnyF_take (i := 3) (oi := ⟨some 10, .load 173 (.tmp 9), 173, "ticks.go:24", #[⟨2, .data⟩], none⟩) (v := ?_) rfl (by kernel_rfl) (by kernel_rfl) (by kernel_rfl) (by kernel_rfl) (fun _ _ _ h => h) (Or.inl ⟨by rfl, ?_⟩) hS ?_
  rotate_left
  · intro w' hSw; have q0 := (hSw.cell (p := ⟨r, 0, none⟩) lr).trans r0; have q1 := (hSw.cell (p := ⟨q, i * 2, none⟩) hq).trans i0; have q2 := (hSw.cell (p := ⟨q, i * 2 + 1, none⟩) hq).trans i1; have q3 := (hSw.cell (p := ⟨q, j * 2, none⟩) hq).trans j0; have q4 := (hSw.cell (p := ⟨q, j * 2 + 1, none⟩) hq).trans j1; go_simp; try with_reducible rfl
  try simp only [Act.put, pb, pz, ps]
  refine wpAnyF_take (i := 4) (oi := ⟨some 11, .move (.tmp 1), 3, "ticks.go:24", #[], none⟩) (v := ?_) rfl (by kernel_rfl) (by kernel_rfl) (by kernel_rfl) (by kernel_rfl) (fun _ _ _ h => h) (Or.inl ⟨by rfl, ?_⟩) hS ?_
  rotate_left
  · intro w' _; go_simp; try with_reducible rfl
  try simp only [Act.put, pb, pz, ps]
  refine wpAnyF_take (i := 5) (oi := ⟨some 12, .indexAddr 173 (.tmp 10) (.tmp 11), 0, "ticks.go:24", #[⟨3, .data⟩, ⟨4, .data⟩], none⟩) (v := ?_) rfl (by kernel_rfl) (by kernel_rfl) (by kernel_rfl) (by kernel_rfl) (fun _ _ _ h => h) (Or.inl ⟨by rfl, ?_⟩) hS ?_
  rotate_left
  · intro w' _; go_simp; try with_reducible rfl
  try simp only [Act.put, pb, pz, ps]
  refine wpAnyF_take (i := 6) (oi := ⟨some 13, .load 177 (.tmp 12), 177, "ticks.go:24", #[⟨5, .data⟩], none⟩) (v := ?_) rfl (by kernel_rfl) (by kernel_rfl) (by kernel_rfl) (by kernel_rfl) (fun _ _ _ h => h) (Or.inl ⟨by rfl, ?_⟩) hS ?_
  rotate_left
  · intro w' hSw; have q0 := (hSw.cell (p := ⟨r, 0, none⟩) lr).trans r0; have q1 := (hSw.cell (p := ⟨q, i * 2, none⟩) hq).trans i0; have q2 := (hSw.cell (p := ⟨q, i * 2 + 1, none⟩) hq).trans i1; have q3 := (hSw.cell (p := ⟨q, j * 2, none⟩) hq).trans j0; have q4 := (hSw.cell (p := ⟨q, j * 2 + 1, none⟩) hq).trans j1; go_simp; try with_reducible rfl
  try simp only [Act.put, pb, pz, ps]
  refine wpAnyF_take (i := 7) (oi := ⟨some 14, .move (.tmp 0), 197, "ticks.go:24", #[], none⟩) (v := ?_) rfl (by kernel_rfl) (by kernel_rfl) (by kernel_rfl) (by kernel_rfl) (fun _ _ _ h => h) (Or.inl ⟨by rfl, ?_⟩) hS ?_
  rotate_left
  · intro w' _; go_simp; try with_reducible rfl
  try simp only [Act.put, pb, pz, ps]
  refine wpAnyF_take (i := 8) (oi := ⟨some 15, .nilCheck (.tmp 14), 0, "ticks.go:24", #[⟨7, .data⟩], none⟩) (v := ?_) rfl (by kernel_rfl) (by kernel_rfl) (by kernel_rfl) (by kernel_rfl) (fun _ _ _ h => h) (Or.inl ⟨by rfl, ?_⟩) hS ?_
  rotate_left
  · intro w' _; go_simp; try with_reducible rfl
  try simp only [Act.put, pb, pz, ps]
  refine wpAnyF_take (i := 9) (oi := ⟨some 16, .fieldAddr 218 (.tmp 15) 0, 0, "ticks.go:24", #[⟨8, .data⟩], none⟩) (v := ?_) rfl (by kernel_rfl) (by kernel_rfl) (by kernel_rfl) (by kernel_rfl) (fun _ _ _ h => h) (Or.inl ⟨by rfl, ?_⟩) hS ?_
  rotate_left
  · intro w' _; go_simp; try with_reducible rfl
  try simp only [Act.put, pb, pz, ps]
  refine wpAnyF_take (i := 10) (oi := ⟨some 17, .load 173 (.tmp 16), 173, "ticks.go:24", #[⟨9, .data⟩], none⟩) (v := ?_) rfl (by kernel_rfl) (by kernel_rfl) (by kernel_rfl) (by kernel_rfl) (fun _ _ _ h => h) (Or.inl ⟨by rfl, ?_⟩) hS ?_
  rotate_left
  · intro w' hSw; have q0 := (hSw.cell (p := ⟨r, 0, none⟩) lr).trans r0; have q1 := (hSw.cell (p := ⟨q, i * 2, none⟩) hq).trans i0; have q2 := (hSw.cell (p := ⟨q, i * 2 + 1, none⟩) hq).trans i1; have q3 := (hSw.cell (p := ⟨q, j * 2, none⟩) hq).trans j0; have q4 := (hSw.cell (p := ⟨q, j * 2 + 1, none⟩) hq).trans j1; go_simp; try with_reducible rfl
  try simp only [Act.put, pb, pz, ps]
  refine wpAnyF_take (i := 11) (oi := ⟨some 18, .move (.tmp 2), 3, "ticks.go:24", #[], none⟩) (v := ?_) rfl (by kernel_rfl) (by kernel_rfl) (by kernel_rfl) (by kernel_rfl) (fun _ _ _ h => h) (Or.inl ⟨by rfl, ?_⟩) hS ?_
  rotate_left
  · intro w' _; go_simp; try with_reducible rfl
  try simp only [Act.put, pb, pz, ps]
  refine wpAnyF_take (i := 12) (oi := ⟨some 19, .indexAddr 173 (.tmp 17) (.tmp 18), 0, "ticks.go:24", #[⟨10, .data⟩, ⟨11, .data⟩], none⟩) (v := ?_) rfl (by kernel_rfl) (by kernel_rfl) (by kernel_rfl) (by kernel_rfl) (fun _ _ _ h => h) (Or.inl ⟨by rfl, ?_⟩) hS ?_
  rotate_left
  · intro w' _; go_simp; try with_reducible rfl
  try simp only [Act.put, pb, pz, ps]
  refine wpAnyF_take (i := 13) (oi := ⟨some 20, .load 177 (.tmp 19), 177, "ticks.go:24", #[⟨12, .data⟩], none⟩) (v := ?_) rfl (by kernel_rfl) (by kernel_rfl) (by kernel_rfl) (by kernel_rfl) (fun _ _ _ h => h) (Or.inl ⟨by rfl, ?_⟩) hS ?_
  rotate_left
  · intro w' hSw; have q0 := (hSw.cell (p := ⟨r, 0, none⟩) lr).trans r0; have q1 := (hSw.cell (p := ⟨q, i * 2, none⟩) hq).trans i0; have q2 := (hSw.cell (p := ⟨q, i * 2 + 1, none⟩) hq).trans i1; have q3 := (hSw.cell (p := ⟨q, j * 2, none⟩) hq).trans j0; have q4 := (hSw.cell (p := ⟨q, j * 2 + 1, none⟩) hq).trans j1; go_simp; try with_reducible rfl
  try simp only [Act.put, pb, pz, ps]
  refine wpAnyF_ready (rs := [14]) (by kernel_rfl) (by simp) ?_
  refine AllReadyF.cons (o := ⟨some 21, .call { callee := .value (.func 150), args := #[.tmp 13, .tmp 20], argTypes := #[177, 177] }, 3, "ticks.go:24", #[⟨6, .data⟩, ⟨13, .data⟩], none⟩) rfl (by rfl) (fun K hK => ?_) ?_
  · go_simp
    refine (HAB.out _).mono ?_
    rintro e w7 ⟨rfl, hb7⟩
    refine hK.out _ _ ?_ (fun hS => ?_)
    · exact (Below.refl W.heap.size W).drew.trans (hb7.mono (by simp))
    clear hK K
    try simp only [Act.put, pb, pz, ps]
    have HB7 := Lib.hid ((Below.refl W.heap.size W).drew.trans (hb7.mono (by simp)))
    clear hb7
    refine wpAnyF_take (i := 15) (oi := ⟨some 22, .binOp .lss 3 (.tmp 21) (.const (.int .i64 0)) 3, 4, "ticks.go:24", #[⟨14, .data⟩], none⟩) (v := ?_) rfl (by kernel_rfl) (by kernel_rfl) (by kernel_rfl) (by kernel_rfl) (fun _ _ _ h => h) (Or.inl ⟨by rfl, ?_⟩) hS ?_
    rotate_left
    · intro w' _; go_simp; try with_reducible rfl
    try simp only [Act.put, pb, pz, ps]
    refine wpAnyF_take (i := 16) (oi := ⟨some 6, .assign (.tmp 22), 4, "ticks.go:24", #[⟨15, .data⟩, ⟨14, .chain⟩, ⟨0, .phase⟩, ⟨1, .phase⟩, ⟨2, .phase⟩, ⟨3, .phase⟩, ⟨4, .phase⟩, ⟨5, .phase⟩, ⟨6, .phase⟩, ⟨7, .phase⟩, ⟨8, .phase⟩, ⟨9, .phase⟩, ⟨10, .phase⟩, ⟨11, .phase⟩, ⟨12, .phase⟩, ⟨13, .phase⟩, ⟨14, .phase⟩, ⟨15, .phase⟩], none⟩) (v := ?_) rfl (by kernel_rfl) (by kernel_rfl) (by kernel_rfl) (by kernel_rfl) (fun _ _ _ h => h) (Or.inl ⟨by rfl, ?_⟩) hS ?_
    rotate_left
    · intro w' _; go_simp; try with_reducible rfl
    try simp only [Act.put, pb, pz, ps]
    refine wpAnyF_done (by kernel_rfl) ?_ _
    clear hS
    go_wp2_with fail
    go_ret
    exact ⟨by rw [← HO.out]; rfl, HB7.out⟩
  exact AllReadyF.nil
end Go.Proofs.YthoaidfpgijbfaaGreat.Ho
namespace Go.Proofs.YthoaidfpgijbfaaGreat.Ho
open Go.RowKit
open Go.MapKept (IsKey)
open Go.Proofs.YthoaidfpgijbfaaGreat.Vb Go.Proofs.YthoaidfpgijbfaaGreat.Ac
theorem swp_at {α : Type} {l : List α} {i j : Nat} {a b : α} (hi : l[i]? = some a) (hj : l[j]? = some b) : swp l i j = (l.set i b).set j a := by simp [swp, hi, hj]
theorem swp_getq {α : Type} {l : List α} {i j : Nat} {a b : α} (hi : l[i]? = some a) (hj : l[j]? = some b) (k : Nat) : (swp l i j)[k]? = if k = j then some a else if k = i then some b else l[k]? := by
  have li := (List.getElem?_eq_some_iff.1 hi).1
  have lj := (List.getElem?_eq_some_iff.1 hj).1
  rw [swp_at hi hj, List.getElem?_set, List.getElem?_set, List.length_set]
  by_cases e1 : j = k
  · subst e1; simp [lj]
  · by_cases e2 : i = k
    · subst e2; simp [e1, li, show ¬ i = j from fun h => e1 h.symm]
    · simp [e1, e2, show ¬ k = j from fun h => e1 h.symm, show ¬ k = i from fun h => e2 h.symm]
set_option maxRecDepth 100000 in
set_option maxHeartbeats 2000000 in
theorem rswap_any {W : World} {R : Nat → Prop} {p r g m : Nat} {now : Int} {v : Value} {F : Int → Option Int} {l : List Du} (h : TickI W R p r g m now v F l) {i j : Nat} {a b : Du} (hi : l[i]? = some a) (hj : l[j]? = some b) :
    Calls Tryz.prog 348 #[.pointer (some ⟨r, 0, none⟩), .int .i64 i, .int .i64 j] W fun e W' => e = .returned (.tuple #[]) ∧ (∃ F', TickI W' R p r g m now v F' (swp l i j)) ∧ Chg R W W' := by
  obtain ⟨q, cap, hv, hq, i0, i1, fi0, fi1, hcap⟩ := h.at_ hi
  obtain ⟨q', cap', hv', _, j0, j1, fj0, fj1, _⟩ := h.at_ hj
  rw [hv] at hv'
  injection hv' with hv' _ hv2
  injection hv' with hv'
  injection hv' with hv' _ _
  subst hv' hv2
  have r0 : W.cell? ⟨r, 0, none⟩ = some (.slice (some ⟨q, 0, none⟩) l.length cap) := (h.br.cell 0).trans (by rw [hv]; rfl)
  have lr := h.br.lt
  have li := (List.getElem?_eq_some_iff.1 hi).1
  have lj := (List.getElem?_eq_some_iff.1 hj).1
  have e1 : (0 : Int) ≤ (i : Int) := by omega
  have e2 : (i : Int) < (l.length : Int) := by omega
  have e3 : (0 : Int) ≤ (j : Int) := by omega
  have e4 : (j : Int) < (l.length : Int) := by omega
  have hrow := h.row
  rw [hv] at hrow
  have hRq := hrow.blk q rfl
  obtain ⟨V, hV1⟩ : ∃ V, V = (W.setCell ⟨q, i * 2, none⟩ (.int .i64 b.1)).setCell ⟨q, i * 2 + 1, none⟩ (.int .i64 b.2) := ⟨_, rfl⟩
  have hrowV : RowAt V (fun b => R b ∧ b ≠ p ∧ b ≠ r ∧ b ≠ g) 177 2 (.slice (some ⟨q, 0, none⟩) l.length cap) l.length (duAll (l.set i b)) := by
    rw [hV1, duAll_set]
    exact (hrow.set (i * 2) _).set (i * 2 + 1) _
  have vl : ∃ d, (l.set i b)[j]? = some d := ⟨_, List.getElem?_eq_getElem (by simpa using lj)⟩
  obtain ⟨d, hd⟩ := vl
  have v0 : V.cell? ⟨q, j * 2, none⟩ = some (.int .i64 d.1) := (hrowV.own.cellAt (j * 2) (by omega)).trans (duAll_at hd).1
  have v1 : V.cell? ⟨q, j * 2 + 1, none⟩ = some (.int .i64 d.2) := (hrowV.own.cellAt (j * 2 + 1) (by omega)).trans (duAll_at hd).2
  have fv0 : V.frozen? ⟨q, j * 2, none⟩ = false := hrowV.own.frozenAt _
  have fv1 : V.frozen? ⟨q, j * 2 + 1, none⟩ = false := hrowV.own.frozenAt _
  obtain ⟨U, hU⟩ : ∃ U, U = ((V.setCell ⟨q, j * 2, none⟩ (.int .i64 a.1)).setCell ⟨q, j * 2 + 1, none⟩ (.int .i64 a.2)).drew := ⟨_, rfl⟩
  have hcU : Chg (· = q) W U := by
    rw [hU, hV1]
    exact ((((Chg.set W ⟨q, i * 2, none⟩ _).trans (Chg.set _ ⟨q, i * 2 + 1, none⟩ _)).trans (Chg.set _ ⟨q, j * 2, none⟩ _)).trans (Chg.set _ ⟨q, j * 2 + 1, none⟩ _)).grow (Below.refl _ _).drew
  have hrowU : RowAt U (fun b => R b ∧ b ≠ p ∧ b ≠ r ∧ b ≠ g) 177 2 v (swp l i j).length (duAll (swp l i j)) := by
    have h1 := hrowV.set (j * 2) (.int .i64 a.1)
    have h2 := RowAt.grow (h1.set (j * 2 + 1) (.int .i64 a.2)) (Below.refl _ _).drew
    rw [swp_len, hv, hU, swp_at hi hj, duAll_set]
    exact h2
  have hneq : q ≠ p ∧ q ≠ r ∧ q ≠ g := hRq.2
  have hnm : q ≠ m := h.map.not_row (hv ▸ hrow) (by rw [hv]; rfl)
  have hbpU := h.bp.chg hcU (Ne.symm hneq.1)
  have hbrU := h.br.chg hcU (Ne.symm hneq.2.1)
  have hbgU := h.bg.chg hcU (Ne.symm hneq.2.2)
  have hmU := h.map.chg hcU (Ne.symm hnm)
  have ai : (swp l i j)[i]? = some b := by rw [swp_getq hi hj]; by_cases e : i = j
                                           · subst e; rw [hi] at hj; cases hj; simp
                                           · simp [e]
  have aj : (swp l i j)[j]? = some a := by rw [swp_getq hi hj]; simp
  have HU := Lib.hid hU
  have HRU := Lib.hid hrowU
  have HPU := Lib.hid hbpU
  have HBU := Lib.hid hbrU
  have HGU := Lib.hid hbgU
  have HMU := Lib.hid hmU
  have HCU := Lib.hid hcU
  have HRq := Lib.hid hRq.1
  have HNM := Lib.hid hnm
  have HAI := Lib.hid ai
  have HAJ := Lib.hid aj
  have HV := Lib.hid hv
  have H := Lib.hid h
  have HI := Lib.hid hi
  have HJ := Lib.hid hj
  obtain ⟨a1, a2⟩ := a
  obtain ⟨b1, b2⟩ := b
  simp only at i0 i1 j0 j1 HU hV1
  have HV1 := Lib.hid hV1
  clear hd hrowV hV1 h hi hj hv hrow hRq hU hcU hrowU hneq hnm hbpU hbrU hbgU hmU ai aj
  go_enter Tryz.func348, Tryz.ntmps348
  go_wp2_with fail
  refine wp_region_F (Below W.heap.size W) [9, 25, 26, 27] (by kernel_rfl) ((Below.refl _ _).drew) (fun hS => ?_)
  refine wpAnyF_takeW (i := 9) (oi := ⟨some 15, .move (.tmp 2), 3, "ticks.go:26", #[⟨25, .gcOnly .lateStores⟩], none⟩) (v := ?_) rfl (by kernel_rfl) (by kernel_rfl) (by kernel_rfl) (by kernel_rfl) (fun _ _ _ h => h) (Or.inl ⟨by rfl, ?_⟩) ?_
  rotate_left
  · intro w' _; go_simp; try with_reducible rfl
  try simp only [Act.put, pb, pz, ps]
  refine wpAnyF_takeD [1, 2, 3, 24, 25, 26, 27] (i := 0) (oi := ⟨some 6, .move (.tmp 0), 197, "ticks.go:26", #[], none⟩) (v := ?_) rfl (by kernel_rfl) (by kernel_rfl) (by kernel_rfl) (by kernel_rfl) (fun _ _ _ h => h) (Or.inl ⟨by rfl, ?_⟩) hS ?_
  rotate_left
  · intro w' _; go_simp; try with_reducible rfl
  try simp only [Act.put, pb, pz, ps]
  refine wpAnyF_takeD [2, 3, 24, 25, 26, 27] (i := 1) (oi := ⟨some 7, .nilCheck (.tmp 6), 0, "ticks.go:26", #[⟨0, .data⟩], none⟩) (v := ?_) rfl (by kernel_rfl) (by kernel_rfl) (by kernel_rfl) (by kernel_rfl) (fun _ _ _ h => h) (Or.inl ⟨by rfl, ?_⟩) hS ?_
  rotate_left
  · intro w' _; go_simp; try with_reducible rfl
  try simp only [Act.put, pb, pz, ps]
  refine wpAnyF_takeD [3, 24, 25, 26, 27] (i := 2) (oi := ⟨some 8, .fieldAddr 218 (.tmp 7) 0, 0, "ticks.go:26", #[⟨1, .data⟩], none⟩) (v := ?_) rfl (by kernel_rfl) (by kernel_rfl) (by kernel_rfl) (by kernel_rfl) (fun _ _ _ h => h) (Or.inl ⟨by rfl, ?_⟩) hS ?_
  rotate_left
  · intro w' _; go_simp; try with_reducible rfl
  try simp only [Act.put, pb, pz, ps]
  refine wpAnyF_takeD [24, 25, 26, 27] (i := 3) (oi := ⟨some 9, .load 173 (.tmp 8), 173, "ticks.go:26", #[⟨2, .data⟩], none⟩) (v := ?_) rfl (by kernel_rfl) (by kernel_rfl) (by kernel_rfl) (by kernel_rfl) (fun _ _ _ h => h) (Or.inl ⟨by rfl, ?_⟩) hS ?_
  rotate_left
  · intro w' hSw; have q0 := (hSw.cell (p := ⟨r, 0, none⟩) lr).trans r0; have q1 := (hSw.cell (p := ⟨q, i * 2, none⟩) hq).trans i0; have q2 := (hSw.cell (p := ⟨q, i * 2 + 1, none⟩) hq).trans i1; have q3 := (hSw.cell (p := ⟨q, j * 2, none⟩) hq).trans j0; have q4 := (hSw.cell (p := ⟨q, j * 2 + 1, none⟩) hq).trans j1; go_simp; try with_reducible rfl
  try simp only [Act.put, pb, pz, ps]
  refine wpAnyF_takeD [24, 25, 26, 27] (i := 4) (oi := ⟨some 10, .move (.tmp 1), 3, "ticks.go:26", #[], none⟩) (v := ?_) rfl (by kernel_rfl) (by kernel_rfl) (by kernel_rfl) (by kernel_rfl) (fun _ _ _ h => h) (Or.inl ⟨by rfl, ?_⟩) hS ?_
  rotate_left
  · intro w' _; go_simp; try with_reducible rfl
  try simp only [Act.put, pb, pz, ps]
  refine wpAnyF_takeD [6, 7, 8, 24, 25, 26, 27] (i := 5) (oi := ⟨some 11, .move (.tmp 0), 197, "ticks.go:26", #[], none⟩) (v := ?_) rfl (by kernel_rfl) (by kernel_rfl) (by kernel_rfl) (by kernel_rfl) (fun _ _ _ h => h) (Or.inl ⟨by rfl, ?_⟩) hS ?_
  rotate_left
  · intro w' _; go_simp; try with_reducible rfl
  try simp only [Act.put, pb, pz, ps]
  refine wpAnyF_takeD [7, 8, 24, 25, 26, 27] (i := 6) (oi := ⟨some 12, .nilCheck (.tmp 11), 0, "ticks.go:26", #[⟨5, .data⟩], none⟩) (v := ?_) rfl (by kernel_rfl) (by kernel_rfl) (by kernel_rfl) (by kernel_rfl) (fun _ _ _ h => h) (Or.inl ⟨by rfl, ?_⟩) hS ?_
  rotate_left
  · intro w' _; go_simp; try with_reducible rfl
  try simp only [Act.put, pb, pz, ps]
  refine wpAnyF_takeD [8, 24, 25, 26, 27] (i := 7) (oi := ⟨some 13, .fieldAddr 218 (.tmp 12) 0, 0, "ticks.go:26", #[⟨6, .data⟩], none⟩) (v := ?_) rfl (by kernel_rfl) (by kernel_rfl) (by kernel_rfl) (by kernel_rfl) (fun _ _ _ h => h) (Or.inl ⟨by rfl, ?_⟩) hS ?_
  rotate_left
  · intro w' _; go_simp; try with_reducible rfl
  try simp only [Act.put, pb, pz, ps]
  refine wpAnyF_takeD [24, 25, 26, 27] (i := 8) (oi := ⟨some 14, .load 173 (.tmp 13), 173, "ticks.go:26", #[⟨7, .data⟩], none⟩) (v := ?_) rfl (by kernel_rfl) (by kernel_rfl) (by kernel_rfl) (by kernel_rfl) (fun _ _ _ h => h) (Or.inl ⟨by rfl, ?_⟩) hS ?_
  rotate_left
  · intro w' hSw; have q0 := (hSw.cell (p := ⟨r, 0, none⟩) lr).trans r0; have q1 := (hSw.cell (p := ⟨q, i * 2, none⟩) hq).trans i0; have q2 := (hSw.cell (p := ⟨q, i * 2 + 1, none⟩) hq).trans i1; have q3 := (hSw.cell (p := ⟨q, j * 2, none⟩) hq).trans j0; have q4 := (hSw.cell (p := ⟨q, j * 2 + 1, none⟩) hq).trans j1; go_simp; try with_reducible rfl
  try simp only [Act.put, pb, pz, ps]
  refine wpAnyF_takeD [11, 12, 13, 15, 16, 24, 25, 26, 27] (i := 10) (oi := ⟨some 16, .move (.tmp 0), 197, "ticks.go:26", #[], none⟩) (v := ?_) rfl (by kernel_rfl) (by kernel_rfl) (by kernel_rfl) (by kernel_rfl) (fun _ _ _ h => h) (Or.inl ⟨by rfl, ?_⟩) hS ?_
  rotate_left
  · intro w' _; go_simp; try with_reducible rfl
  try simp only [Act.put, pb, pz, ps]
  refine wpAnyF_takeD [12, 13, 15, 16, 24, 25, 26, 27] (i := 11) (oi := ⟨some 17, .nilCheck (.tmp 16), 0, "ticks.go:26", #[⟨10, .data⟩], none⟩) (v := ?_) rfl (by kernel_rfl) (by kernel_rfl) (by kernel_rfl) (by kernel_rfl) (fun _ _ _ h => h) (Or.inl ⟨by rfl, ?_⟩) hS ?_
  rotate_left
  · intro w' _; go_simp; try with_reducible rfl
  try simp only [Act.put, pb, pz, ps]
  refine wpAnyF_takeD [13, 15, 16, 24, 25, 26, 27] (i := 12) (oi := ⟨some 18, .fieldAddr 218 (.tmp 17) 0, 0, "ticks.go:26", #[⟨11, .data⟩], none⟩) (v := ?_) rfl (by kernel_rfl) (by kernel_rfl) (by kernel_rfl) (by kernel_rfl) (fun _ _ _ h => h) (Or.inl ⟨by rfl, ?_⟩) hS ?_
  rotate_left
  · intro w' _; go_simp; try with_reducible rfl
  try simp only [Act.put, pb, pz, ps]
  refine wpAnyF_takeD [15, 16, 24, 25, 26, 27] (i := 13) (oi := ⟨some 19, .load 173 (.tmp 18), 173, "ticks.go:26", #[⟨12, .data⟩], none⟩) (v := ?_) rfl (by kernel_rfl) (by kernel_rfl) (by kernel_rfl) (by kernel_rfl) (fun _ _ _ h => h) (Or.inl ⟨by rfl, ?_⟩) hS ?_
  rotate_left
  · intro w' hSw; have q0 := (hSw.cell (p := ⟨r, 0, none⟩) lr).trans r0; have q1 := (hSw.cell (p := ⟨q, i * 2, none⟩) hq).trans i0; have q2 := (hSw.cell (p := ⟨q, i * 2 + 1, none⟩) hq).trans i1; have q3 := (hSw.cell (p := ⟨q, j * 2, none⟩) hq).trans j0; have q4 := (hSw.cell (p := ⟨q, j * 2 + 1, none⟩) hq).trans j1; go_simp; try with_reducible rfl
  try simp only [Act.put, pb, pz, ps]
  refine wpAnyF_takeD [15, 16, 24, 25, 26, 27] (i := 14) (oi := ⟨some 20, .move (.tmp 2), 3, "ticks.go:26", #[], none⟩) (v := ?_) rfl (by kernel_rfl) (by kernel_rfl) (by kernel_rfl) (by kernel_rfl) (fun _ _ _ h => h) (Or.inl ⟨by rfl, ?_⟩) hS ?_
  rotate_left
  · intro w' _; go_simp; try with_reducible rfl
  try simp only [Act.put, pb, pz, ps]
  refine wpAnyF_takeD [16, 24, 25, 26, 27] (i := 15) (oi := ⟨some 21, .indexAddr 173 (.tmp 19) (.tmp 20), 0, "ticks.go:26", #[⟨13, .data⟩, ⟨14, .data⟩], none⟩) (v := ?_) rfl (by kernel_rfl) (by kernel_rfl) (by kernel_rfl) (by kernel_rfl) (fun _ _ _ h => h) (Or.inl ⟨by rfl, ?_⟩) hS ?_
  rotate_left
  · intro w' _; go_simp; try with_reducible rfl
  try simp only [Act.put, pb, pz, ps]
  refine wpAnyF_takeD [24, 25, 26, 27] (i := 16) (oi := ⟨some 22, .load 177 (.tmp 21), 177, "ticks.go:26", #[⟨15, .data⟩], none⟩) (v := ?_) rfl (by kernel_rfl) (by kernel_rfl) (by kernel_rfl) (by kernel_rfl) (fun _ _ _ h => h) (Or.inl ⟨by rfl, ?_⟩) hS ?_
  rotate_left
  · intro w' hSw; have q0 := (hSw.cell (p := ⟨r, 0, none⟩) lr).trans r0; have q1 := (hSw.cell (p := ⟨q, i * 2, none⟩) hq).trans i0; have q2 := (hSw.cell (p := ⟨q, i * 2 + 1, none⟩) hq).trans i1; have q3 := (hSw.cell (p := ⟨q, j * 2, none⟩) hq).trans j0; have q4 := (hSw.cell (p := ⟨q, j * 2 + 1, none⟩) hq).trans j1; go_simp; try with_reducible rfl
  try simp only [Act.put, pb, pz, ps]
  refine wpAnyF_takeD [18, 19, 20, 22, 23, 24, 25, 26, 27] (i := 17) (oi := ⟨some 23, .move (.tmp 0), 197, "ticks.go:26", #[], none⟩) (v := ?_) rfl (by kernel_rfl) (by kernel_rfl) (by kernel_rfl) (by kernel_rfl) (fun _ _ _ h => h) (Or.inl ⟨by rfl, ?_⟩) hS ?_
  rotate_left
  · intro w' _; go_simp; try with_reducible rfl
  try simp only [Act.put, pb, pz, ps]
  refine wpAnyF_takeD [19, 20, 22, 23, 24, 25, 26, 27] (i := 18) (oi := ⟨some 24, .nilCheck (.tmp 23), 0, "ticks.go:26", #[⟨17, .data⟩], none⟩) (v := ?_) rfl (by kernel_rfl) (by kernel_rfl) (by kernel_rfl) (by kernel_rfl) (fun _ _ _ h => h) (Or.inl ⟨by rfl, ?_⟩) hS ?_
  rotate_left
  · intro w' _; go_simp; try with_reducible rfl
  try simp only [Act.put, pb, pz, ps]
  refine wpAnyF_takeD [20, 22, 23, 24, 25, 26, 27] (i := 19) (oi := ⟨some 25, .fieldAddr 218 (.tmp 24) 0, 0, "ticks.go:26", #[⟨18, .data⟩], none⟩) (v := ?_) rfl (by kernel_rfl) (by kernel_rfl) (by kernel_rfl) (by kernel_rfl) (fun _ _ _ h => h) (Or.inl ⟨by rfl, ?_⟩) hS ?_
  rotate_left
  · intro w' _; go_simp; try with_reducible rfl
  try simp only [Act.put, pb, pz, ps]
  refine wpAnyF_takeD [22, 23, 24, 25, 26, 27] (i := 20) (oi := ⟨some 26, .load 173 (.tmp 25), 173, "ticks.go:26", #[⟨19, .data⟩], none⟩) (v := ?_) rfl (by kernel_rfl) (by kernel_rfl) (by kernel_rfl) (by kernel_rfl) (fun _ _ _ h => h) (Or.inl ⟨by rfl, ?_⟩) hS ?_
  rotate_left
  · intro w' hSw; have q0 := (hSw.cell (p := ⟨r, 0, none⟩) lr).trans r0; have q1 := (hSw.cell (p := ⟨q, i * 2, none⟩) hq).trans i0; have q2 := (hSw.cell (p := ⟨q, i * 2 + 1, none⟩) hq).trans i1; have q3 := (hSw.cell (p := ⟨q, j * 2, none⟩) hq).trans j0; have q4 := (hSw.cell (p := ⟨q, j * 2 + 1, none⟩) hq).trans j1; go_simp; try with_reducible rfl
  try simp only [Act.put, pb, pz, ps]
  refine wpAnyF_takeD [22, 23, 24, 25, 26, 27] (i := 21) (oi := ⟨some 27, .move (.tmp 1), 3, "ticks.go:26", #[], none⟩) (v := ?_) rfl (by kernel_rfl) (by kernel_rfl) (by kernel_rfl) (by kernel_rfl) (fun _ _ _ h => h) (Or.inl ⟨by rfl, ?_⟩) hS ?_
  rotate_left
  · intro w' _; go_simp; try with_reducible rfl
  try simp only [Act.put, pb, pz, ps]
  refine wpAnyF_takeD [23, 24, 25, 26, 27] (i := 22) (oi := ⟨some 28, .indexAddr 173 (.tmp 26) (.tmp 27), 0, "ticks.go:26", #[⟨20, .data⟩, ⟨21, .data⟩], none⟩) (v := ?_) rfl (by kernel_rfl) (by kernel_rfl) (by kernel_rfl) (by kernel_rfl) (fun _ _ _ h => h) (Or.inl ⟨by rfl, ?_⟩) hS ?_
  rotate_left
  · intro w' _; go_simp; try with_reducible rfl
  try simp only [Act.put, pb, pz, ps]
  refine wpAnyF_takeD [24, 25, 26, 27] (i := 23) (oi := ⟨some 29, .load 177 (.tmp 28), 177, "ticks.go:26", #[⟨22, .data⟩], none⟩) (v := ?_) rfl (by kernel_rfl) (by kernel_rfl) (by kernel_rfl) (by kernel_rfl) (fun _ _ _ h => h) (Or.inl ⟨by rfl, ?_⟩) hS ?_
  rotate_left
  · intro w' hSw; have q0 := (hSw.cell (p := ⟨r, 0, none⟩) lr).trans r0; have q1 := (hSw.cell (p := ⟨q, i * 2, none⟩) hq).trans i0; have q2 := (hSw.cell (p := ⟨q, i * 2 + 1, none⟩) hq).trans i1; have q3 := (hSw.cell (p := ⟨q, j * 2, none⟩) hq).trans j0; have q4 := (hSw.cell (p := ⟨q, j * 2 + 1, none⟩) hq).trans j1; go_simp; try with_reducible rfl
  try simp only [Act.put, pb, pz, ps]
  refine wpAnyF_takeD [25, 26, 27] (i := 24) (oi := ⟨some 30, .indexAddr 173 (.tmp 9) (.tmp 10), 0, "ticks.go:26", #[⟨3, .data⟩, ⟨4, .data⟩, ⟨0, .phase⟩, ⟨1, .phase⟩, ⟨2, .phase⟩, ⟨3, .phase⟩, ⟨4, .phase⟩, ⟨5, .textOnly .lateStores⟩, ⟨6, .textOnly .lateStoresUnsure⟩, ⟨7, .textOnly .lateStoresUnsure⟩, ⟨8, .phase⟩, ⟨9, .textOnly .lateStores⟩, ⟨10, .phase⟩, ⟨11, .phase⟩, ⟨12, .phase⟩, ⟨13, .phase⟩, ⟨14, .phase⟩, ⟨15, .phase⟩, ⟨16, .phase⟩, ⟨17, .textOnly .lateStores⟩, ⟨18, .textOnly .lateStoresUnsure⟩, ⟨19, .textOnly .lateStoresUnsure⟩, ⟨20, .phase⟩, ⟨21, .textOnly .lateStores⟩, ⟨22, .textOnly .lateStoresUnsure⟩, ⟨23, .phase⟩], none⟩) (v := ?_) rfl (by kernel_rfl) (by kernel_rfl) (by kernel_rfl) (by kernel_rfl) (fun _ _ _ h => h) (Or.inl ⟨by rfl, ?_⟩) hS ?_
  rotate_left
  · intro w' _; go_simp; try with_reducible rfl
  try simp only [Act.put, pb, pz, ps]
  refine wpAnyF_ready (rs := [25]) (by kernel_rfl) (by simp) ?_
  refine AllReadyF.fin (o := ⟨none, .store 177 (.tmp 30) (.tmp 22), 0, "ticks.go:26", #[⟨24, .data⟩, ⟨16, .data⟩, ⟨0, .phase⟩, ⟨1, .phase⟩, ⟨2, .phase⟩, ⟨3, .phase⟩, ⟨4, .phase⟩, ⟨5, .textOnly .lateStores⟩, ⟨6, .textOnly .lateStoresUnsure⟩, ⟨7, .textOnly .lateStoresUnsure⟩, ⟨8, .phase⟩, ⟨9, .textOnly .lateStores⟩, ⟨10, .phase⟩, ⟨11, .phase⟩, ⟨12, .phase⟩, ⟨13, .phase⟩, ⟨14, .phase⟩, ⟨15, .phase⟩, ⟨16, .phase⟩, ⟨17, .textOnly .lateStores⟩, ⟨18, .textOnly .lateStoresUnsure⟩, ⟨19, .textOnly .lateStoresUnsure⟩, ⟨20, .phase⟩, ⟨21, .textOnly .lateStores⟩, ⟨22, .textOnly .lateStoresUnsure⟩, ⟨23, .phase⟩], none⟩) rfl (by rfl) (fun K hK => ?_) ?_
  · go_simp
    refine hK.out _ _ ?_
    clear hK K
    try simp only [Act.put, pb, pz, ps]
    refine wpAnyF_takeW (i := 26) (oi := ⟨some 31, .indexAddr 173 (.tmp 14) (.tmp 15), 0, "ticks.go:26", #[⟨8, .data⟩, ⟨9, .data⟩, ⟨0, .phase⟩, ⟨1, .phase⟩, ⟨2, .phase⟩, ⟨3, .phase⟩, ⟨4, .phase⟩, ⟨5, .phase⟩, ⟨6, .phase⟩, ⟨7, .phase⟩, ⟨8, .phase⟩, ⟨9, .phase⟩, ⟨10, .phase⟩, ⟨11, .phase⟩, ⟨12, .phase⟩, ⟨13, .phase⟩, ⟨14, .phase⟩, ⟨15, .phase⟩, ⟨16, .phase⟩, ⟨17, .phase⟩, ⟨18, .phase⟩, ⟨19, .phase⟩, ⟨20, .phase⟩, ⟨21, .phase⟩, ⟨22, .phase⟩, ⟨23, .phase⟩, ⟨24, .phase⟩, ⟨25, .phase⟩], none⟩) (v := ?_) rfl (by kernel_rfl) (by kernel_rfl) (by kernel_rfl) (by kernel_rfl) (fun _ _ _ h => h) (Or.inl ⟨by rfl, ?_⟩) ?_
    rotate_left
    · intro w' _; go_simp; try with_reducible rfl
    try simp only [Act.put, pb, pz, ps]
    refine wpAnyF_ready (rs := [27]) (by kernel_rfl) (by simp) ?_
    refine AllReadyF.fin (o := ⟨none, .store 177 (.tmp 31) (.tmp 29), 0, "ticks.go:26", #[⟨26, .data⟩, ⟨23, .data⟩, ⟨25, .chain⟩, ⟨0, .phase⟩, ⟨1, .phase⟩, ⟨2, .phase⟩, ⟨3, .phase⟩, ⟨4, .phase⟩, ⟨5, .phase⟩, ⟨6, .phase⟩, ⟨7, .phase⟩, ⟨8, .phase⟩, ⟨9, .phase⟩, ⟨10, .phase⟩, ⟨11, .phase⟩, ⟨12, .phase⟩, ⟨13, .phase⟩, ⟨14, .phase⟩, ⟨15, .phase⟩, ⟨16, .phase⟩, ⟨17, .phase⟩, ⟨18, .phase⟩, ⟨19, .phase⟩, ⟨20, .phase⟩, ⟨21, .phase⟩, ⟨22, .phase⟩, ⟨23, .phase⟩, ⟨24, .phase⟩, ⟨25, .phase⟩], none⟩) rfl (by rfl) (fun K hK => ?_) ?_
    · rw [← HV1.out]
      clear hS
      go_simp
      rw [← HU.out]
      refine hK.out _ _ ?_
      clear hK K
      try simp only [Act.put, pb, pz, ps]
      refine wpAnyF_done (by kernel_rfl) ?_ _
      clear v0 v1 fv0 fv1 fi0 fi1 r0 i0 i1 j0 j1
      have r0 : U.cell? ⟨r, 0, none⟩ = some (.slice (some ⟨q, 0, none⟩) l.length cap) := (HBU.out.cell 0).trans (by rw [HV.out]; rfl)
      have r1 : U.cell? ⟨r, 1, none⟩ = some (movV g) := HBU.out.cell 1
      have lrU := HBU.out.lt
      have hlen : (swp l i j).length = l.length := swp_len l i j
      have HRU' := HRU.out
      rw [HV.out, hlen] at HRU'
      have qi : U.cell? ⟨q, i * 2 + 1, none⟩ = some (.int .i64 b2) := (HRU'.own.cellAt (i * 2 + 1) (by omega)).trans (duAll_at HAI.out).2
      have qj : U.cell? ⟨q, j * 2 + 1, none⟩ = some (.int .i64 a2) := (HRU'.own.cellAt (j * 2 + 1) (by omega)).trans (duAll_at HAJ.out).2
      have lq : q < U.heap.size := HRU'.lt rfl
      have HQJ := Lib.hid qj
      clear HRU' hlen qj
      go_wp2_with fail
      refine wp_region_F (Below U.heap.size U) [13] (by kernel_rfl) ((Below.refl _ _).drew) (fun hS => ?_)
      refine wpAnyF_takeD [1, 2, 3, 13] (i := 0) (oi := ⟨some 32, .move (.tmp 0), 197, "ticks.go:27", #[], none⟩) (v := ?_) rfl (by kernel_rfl) (by kernel_rfl) (by kernel_rfl) (by kernel_rfl) (fun _ _ _ h => h) (Or.inl ⟨by rfl, ?_⟩) hS ?_
      rotate_left
      · intro w' _; go_simp; try with_reducible rfl
      try simp only [Act.put, pb, pz, ps]
      refine wpAnyF_takeD [2, 3, 13] (i := 1) (oi := ⟨some 33, .nilCheck (.tmp 32), 0, "ticks.go:27", #[⟨0, .data⟩], none⟩) (v := ?_) rfl (by kernel_rfl) (by kernel_rfl) (by kernel_rfl) (by kernel_rfl) (fun _ _ _ h => h) (Or.inl ⟨by rfl, ?_⟩) hS ?_
      rotate_left
      · intro w' _; go_simp; try with_reducible rfl
      try simp only [Act.put, pb, pz, ps]
      refine wpAnyF_takeD [3, 13] (i := 2) (oi := ⟨some 34, .fieldAddr 218 (.tmp 33) 1, 0, "ticks.go:27", #[⟨1, .data⟩], none⟩) (v := ?_) rfl (by kernel_rfl) (by kernel_rfl) (by kernel_rfl) (by kernel_rfl) (fun _ _ _ h => h) (Or.inl ⟨by rfl, ?_⟩) hS ?_
      rotate_left
      · intro w' _; go_simp; try with_reducible rfl
      try simp only [Act.put, pb, pz, ps]
      refine wpAnyF_take (i := 3) (oi := ⟨some 35, .load 216 (.tmp 34), 216, "ticks.go:27", #[⟨2, .data⟩], none⟩) (v := ?_) rfl (by kernel_rfl) (by kernel_rfl) (by kernel_rfl) (by kernel_rfl) (fun _ _ _ h => h) (Or.inl ⟨by rfl, ?_⟩) hS ?_
      rotate_left
      · intro w' hSw; have q0 := (hSw.cell (p := ⟨r, 0, none⟩) lrU).trans r0; have q1 := (hSw.cell (p := ⟨r, 1, none⟩) lrU).trans r1; have q2 := (hSw.cell (p := ⟨q, i * 2 + 1, none⟩) lq).trans qi; unfold movV at q1; go_simp; try with_reducible rfl
      try simp only [Act.put, pb, pz, ps]
      refine wpAnyF_takeD [5, 6, 7, 9, 10, 11, 13] (i := 4) (oi := ⟨some 36, .move (.tmp 0), 197, "ticks.go:27", #[], none⟩) (v := ?_) rfl (by kernel_rfl) (by kernel_rfl) (by kernel_rfl) (by kernel_rfl) (fun _ _ _ h => h) (Or.inl ⟨by rfl, ?_⟩) hS ?_
      rotate_left
      · intro w' _; go_simp; try with_reducible rfl
      try simp only [Act.put, pb, pz, ps]
      refine wpAnyF_takeD [6, 7, 9, 10, 11, 13] (i := 5) (oi := ⟨some 37, .nilCheck (.tmp 36), 0, "ticks.go:27", #[⟨4, .data⟩], none⟩) (v := ?_) rfl (by kernel_rfl) (by kernel_rfl) (by kernel_rfl) (by kernel_rfl) (fun _ _ _ h => h) (Or.inl ⟨by rfl, ?_⟩) hS ?_
      rotate_left
      · intro w' _; go_simp; try with_reducible rfl
      try simp only [Act.put, pb, pz, ps]
      refine wpAnyF_takeD [7, 9, 10, 11, 13] (i := 6) (oi := ⟨some 38, .fieldAddr 218 (.tmp 37) 0, 0, "ticks.go:27", #[⟨5, .data⟩], none⟩) (v := ?_) rfl (by kernel_rfl) (by kernel_rfl) (by kernel_rfl) (by kernel_rfl) (fun _ _ _ h => h) (Or.inl ⟨by rfl, ?_⟩) hS ?_
      rotate_left
      · intro w' _; go_simp; try with_reducible rfl
      try simp only [Act.put, pb, pz, ps]
      refine wpAnyF_takeD [9, 10, 11, 13] (i := 7) (oi := ⟨some 39, .load 173 (.tmp 38), 173, "ticks.go:27", #[⟨6, .data⟩], none⟩) (v := ?_) rfl (by kernel_rfl) (by kernel_rfl) (by kernel_rfl) (by kernel_rfl) (fun _ _ _ h => h) (Or.inl ⟨by rfl, ?_⟩) hS ?_
      rotate_left
      · intro w' hSw; have q0 := (hSw.cell (p := ⟨r, 0, none⟩) lrU).trans r0; have q1 := (hSw.cell (p := ⟨r, 1, none⟩) lrU).trans r1; have q2 := (hSw.cell (p := ⟨q, i * 2 + 1, none⟩) lq).trans qi; unfold movV at q1; go_simp; try with_reducible rfl
      try simp only [Act.put, pb, pz, ps]
      refine wpAnyF_takeD [9, 10, 11, 13] (i := 8) (oi := ⟨some 40, .move (.tmp 1), 3, "ticks.go:27", #[], none⟩) (v := ?_) rfl (by kernel_rfl) (by kernel_rfl) (by kernel_rfl) (by kernel_rfl) (fun _ _ _ h => h) (Or.inl ⟨by rfl, ?_⟩) hS ?_
      rotate_left
      · intro w' _; go_simp; try with_reducible rfl
      try simp only [Act.put, pb, pz, ps]
      refine wpAnyF_takeD [10, 11, 13] (i := 9) (oi := ⟨some 41, .indexAddr 173 (.tmp 39) (.tmp 40), 0, "ticks.go:27", #[⟨7, .data⟩, ⟨8, .data⟩], none⟩) (v := ?_) rfl (by kernel_rfl) (by kernel_rfl) (by kernel_rfl) (by kernel_rfl) (fun _ _ _ h => h) (Or.inl ⟨by rfl, ?_⟩) hS ?_
      rotate_left
      · intro w' _; go_simp; try with_reducible rfl
      try simp only [Act.put, pb, pz, ps]
      refine wpAnyF_takeD [11, 13] (i := 10) (oi := ⟨some 42, .fieldAddr 177 (.tmp 41) 1, 0, "ticks.go:27", #[⟨9, .data⟩], none⟩) (v := ?_) rfl (by kernel_rfl) (by kernel_rfl) (by kernel_rfl) (by kernel_rfl) (fun _ _ _ h => h) (Or.inl ⟨by rfl, ?_⟩) hS ?_
      rotate_left
      · intro w' _; go_simp; try with_reducible rfl
      try simp only [Act.put, pb, pz, ps]
      refine wpAnyF_take (i := 11) (oi := ⟨some 43, .load 2 (.tmp 42), 2, "ticks.go:27", #[⟨10, .data⟩], none⟩) (v := ?_) rfl (by kernel_rfl) (by kernel_rfl) (by kernel_rfl) (by kernel_rfl) (fun _ _ _ h => h) (Or.inl ⟨by rfl, ?_⟩) hS ?_
      rotate_left
      · intro w' hSw; have q0 := (hSw.cell (p := ⟨r, 0, none⟩) lrU).trans r0; have q1 := (hSw.cell (p := ⟨r, 1, none⟩) lrU).trans r1; have q2 := (hSw.cell (p := ⟨q, i * 2 + 1, none⟩) lq).trans qi; unfold movV at q1; go_simp; try with_reducible rfl
      try simp only [Act.put, pb, pz, ps]
      refine wpAnyF_take (i := 12) (oi := ⟨some 44, .move (.tmp 1), 3, "ticks.go:27", #[], none⟩) (v := ?_) rfl (by kernel_rfl) (by kernel_rfl) (by kernel_rfl) (by kernel_rfl) (fun _ _ _ h => h) (Or.inl ⟨by rfl, ?_⟩) hS ?_
      rotate_left
      · intro w' _; go_simp; try with_reducible rfl
      try simp only [Act.put, pb, pz, ps]
      refine wpAnyF_ready (rs := [13]) (by kernel_rfl) (by simp) ?_
      refine AllReadyF.fin (o := ⟨some 45, .call { callee := .value (.tmp 35), args := #[.tmp 43, .tmp 44], argTypes := #[2, 3] }, 0, "ticks.go:27", #[⟨3, .data⟩, ⟨11, .data⟩, ⟨12, .data⟩], none⟩) rfl (by rfl) (fun K hK => ?_) ?_
      · go_simp
        refine (moved_any (W := U.drew) HPU.out HGU.out HMU.out).mono ?_
        rintro e Y ⟨rfl, hmY, hcY⟩
        rw [if_neg (show ¬ (i : Int) < 0 by omega)] at hmY
        have HMY := Lib.hid hmY
        have HCY := Lib.hid (show Chg (· = m) U Y from ((Chg.refl _ U).grow (Below.refl _ _).drew).trans hcY)
        clear hmY hcY
        refine hK.out _ _ ?_
        clear hK K
        try simp only [Act.put, pb, pz, ps]
        refine wpAnyF_done (by kernel_rfl) ?_ _
        have nq : q ≠ m := HNM.out
        have nr : r ≠ m := HMU.out.not_cells HBU.out
        have np : p ≠ m := HMU.out.not_cells HPU.out
        have ng : g ≠ m := HMU.out.not_cells HGU.out
        have s0 : Y.cell? ⟨r, 0, none⟩ = some (.slice (some ⟨q, 0, none⟩) l.length cap) := ((HBU.out.chg HCY.out nr).cell 0).trans (by rw [HV.out]; rfl)
        have s1 : Y.cell? ⟨r, 1, none⟩ = some (movV g) := (HBU.out.chg HCY.out nr).cell 1
        have lrY := (HBU.out.chg HCY.out nr).lt
        have lqY : q < Y.heap.size := Nat.lt_of_lt_of_le lq HCY.out.size
        have HRY := Lib.hid (HRU.out.chgB HCY.out (fun b hb => by rw [HV.out] at hb; cases hb; exact nq))
        have HRY' := HRY.out
        rw [HV.out, swp_len] at HRY'
        have yj : Y.cell? ⟨q, j * 2 + 1, none⟩ = some (.int .i64 a2) := (HRY'.own.cellAt (j * 2 + 1) (by omega)).trans (duAll_at HAJ.out).2
        have HPY := Lib.hid (HPU.out.chg HCY.out np)
        have HGY := Lib.hid (HGU.out.chg HCY.out ng)
        clear HRY'
        clear r0 r1 qi lrU lq hS
        go_wp2_with fail
        refine wp_region_F (Below Y.heap.size Y) [13] (by kernel_rfl) ((Below.refl _ _).drew) (fun hS => ?_)
        refine wpAnyF_takeD [1, 2, 3, 13] (i := 0) (oi := ⟨some 46, .move (.tmp 0), 197, "ticks.go:28", #[], none⟩) (v := ?_) rfl (by kernel_rfl) (by kernel_rfl) (by kernel_rfl) (by kernel_rfl) (fun _ _ _ h => h) (Or.inl ⟨by rfl, ?_⟩) hS ?_
        rotate_left
        · intro w' _; go_simp; try with_reducible rfl
        try simp only [Act.put, pb, pz, ps]
        refine wpAnyF_takeD [2, 3, 13] (i := 1) (oi := ⟨some 47, .nilCheck (.tmp 46), 0, "ticks.go:28", #[⟨0, .data⟩], none⟩) (v := ?_) rfl (by kernel_rfl) (by kernel_rfl) (by kernel_rfl) (by kernel_rfl) (fun _ _ _ h => h) (Or.inl ⟨by rfl, ?_⟩) hS ?_
        rotate_left
        · intro w' _; go_simp; try with_reducible rfl
        try simp only [Act.put, pb, pz, ps]
        refine wpAnyF_takeD [3, 13] (i := 2) (oi := ⟨some 48, .fieldAddr 218 (.tmp 47) 1, 0, "ticks.go:28", #[⟨1, .data⟩], none⟩) (v := ?_) rfl (by kernel_rfl) (by kernel_rfl) (by kernel_rfl) (by kernel_rfl) (fun _ _ _ h => h) (Or.inl ⟨by rfl, ?_⟩) hS ?_
        rotate_left
        · intro w' _; go_simp; try with_reducible rfl
        try simp only [Act.put, pb, pz, ps]
        refine wpAnyF_take (i := 3) (oi := ⟨some 49, .load 216 (.tmp 48), 216, "ticks.go:28", #[⟨2, .data⟩], none⟩) (v := ?_) rfl (by kernel_rfl) (by kernel_rfl) (by kernel_rfl) (by kernel_rfl) (fun _ _ _ h => h) (Or.inl ⟨by rfl, ?_⟩) hS ?_
        rotate_left
        · intro w' hSw; have q0 := (hSw.cell (p := ⟨r, 0, none⟩) lrY).trans s0; have q1 := (hSw.cell (p := ⟨r, 1, none⟩) lrY).trans s1; have q2 := (hSw.cell (p := ⟨q, j * 2 + 1, none⟩) lqY).trans yj; unfold movV at q1; go_simp; try with_reducible rfl
        try simp only [Act.put, pb, pz, ps]
        refine wpAnyF_takeD [5, 6, 7, 9, 10, 11, 13] (i := 4) (oi := ⟨some 50, .move (.tmp 0), 197, "ticks.go:28", #[], none⟩) (v := ?_) rfl (by kernel_rfl) (by kernel_rfl) (by kernel_rfl) (by kernel_rfl) (fun _ _ _ h => h) (Or.inl ⟨by rfl, ?_⟩) hS ?_
        rotate_left
        · intro w' _; go_simp; try with_reducible rfl
        try simp only [Act.put, pb, pz, ps]
        refine wpAnyF_takeD [6, 7, 9, 10, 11, 13] (i := 5) (oi := ⟨some 51, .nilCheck (.tmp 50), 0, "ticks.go:28", #[⟨4, .data⟩], none⟩) (v := ?_) rfl (by kernel_rfl) (by kernel_rfl) (by kernel_rfl) (by kernel_rfl) (fun _ _ _ h => h) (Or.inl ⟨by rfl, ?_⟩) hS ?_
        rotate_left
        · intro w' _; go_simp; try with_reducible rfl
        try simp only [Act.put, pb, pz, ps]
        refine wpAnyF_takeD [7, 9, 10, 11, 13] (i := 6) (oi := ⟨some 52, .fieldAddr 218 (.tmp 51) 0, 0, "ticks.go:28", #[⟨5, .data⟩], none⟩) (v := ?_) rfl (by kernel_rfl) (by kernel_rfl) (by kernel_rfl) (by kernel_rfl) (fun _ _ _ h => h) (Or.inl ⟨by rfl, ?_⟩) hS ?_
        rotate_left
        · intro w' _; go_simp; try with_reducible rfl
        try simp only [Act.put, pb, pz, ps]
        refine wpAnyF_takeD [9, 10, 11, 13] (i := 7) (oi := ⟨some 53, .load 173 (.tmp 52), 173, "ticks.go:28", #[⟨6, .data⟩], none⟩) (v := ?_) rfl (by kernel_rfl) (by kernel_rfl) (by kernel_rfl) (by kernel_rfl) (fun _ _ _ h => h) (Or.inl ⟨by rfl, ?_⟩) hS ?_
        rotate_left
        · intro w' hSw; have q0 := (hSw.cell (p := ⟨r, 0, none⟩) lrY).trans s0; have q1 := (hSw.cell (p := ⟨r, 1, none⟩) lrY).trans s1; have q2 := (hSw.cell (p := ⟨q, j * 2 + 1, none⟩) lqY).trans yj; unfold movV at q1; go_simp; try with_reducible rfl
        try simp only [Act.put, pb, pz, ps]
        refine wpAnyF_takeD [9, 10, 11, 13] (i := 8) (oi := ⟨some 54, .move (.tmp 2), 3, "ticks.go:28", #[], none⟩) (v := ?_) rfl (by kernel_rfl) (by kernel_rfl) (by kernel_rfl) (by kernel_rfl) (fun _ _ _ h => h) (Or.inl ⟨by rfl, ?_⟩) hS ?_
        rotate_left
        · intro w' _; go_simp; try with_reducible rfl
        try simp only [Act.put, pb, pz, ps]
        refine wpAnyF_takeD [10, 11, 13] (i := 9) (oi := ⟨some 55, .indexAddr 173 (.tmp 53) (.tmp 54), 0, "ticks.go:28", #[⟨7, .data⟩, ⟨8, .data⟩], none⟩) (v := ?_) rfl (by kernel_rfl) (by kernel_rfl) (by kernel_rfl) (by kernel_rfl) (fun _ _ _ h => h) (Or.inl ⟨by rfl, ?_⟩) hS ?_
        rotate_left
        · intro w' _; go_simp; try with_reducible rfl
        try simp only [Act.put, pb, pz, ps]
        refine wpAnyF_takeD [11, 13] (i := 10) (oi := ⟨some 56, .fieldAddr 177 (.tmp 55) 1, 0, "ticks.go:28", #[⟨9, .data⟩], none⟩) (v := ?_) rfl (by kernel_rfl) (by kernel_rfl) (by kernel_rfl) (by kernel_rfl) (fun _ _ _ h => h) (Or.inl ⟨by rfl, ?_⟩) hS ?_
        rotate_left
        · intro w' _; go_simp; try with_reducible rfl
        try simp only [Act.put, pb, pz, ps]
        refine wpAnyF_take (i := 11) (oi := ⟨some 57, .load 2 (.tmp 56), 2, "ticks.go:28", #[⟨10, .data⟩], none⟩) (v := ?_) rfl (by kernel_rfl) (by kernel_rfl) (by kernel_rfl) (by kernel_rfl) (fun _ _ _ h => h) (Or.inl ⟨by rfl, ?_⟩) hS ?_
        rotate_left
        · intro w' hSw; have q0 := (hSw.cell (p := ⟨r, 0, none⟩) lrY).trans s0; have q1 := (hSw.cell (p := ⟨r, 1, none⟩) lrY).trans s1; have q2 := (hSw.cell (p := ⟨q, j * 2 + 1, none⟩) lqY).trans yj; unfold movV at q1; go_simp; try with_reducible rfl
        try simp only [Act.put, pb, pz, ps]
        refine wpAnyF_take (i := 12) (oi := ⟨some 58, .move (.tmp 2), 3, "ticks.go:28", #[], none⟩) (v := ?_) rfl (by kernel_rfl) (by kernel_rfl) (by kernel_rfl) (by kernel_rfl) (fun _ _ _ h => h) (Or.inl ⟨by rfl, ?_⟩) hS ?_
        rotate_left
        · intro w' _; go_simp; try with_reducible rfl
        try simp only [Act.put, pb, pz, ps]
        refine wpAnyF_ready (rs := [13]) (by kernel_rfl) (by simp) ?_
        refine AllReadyF.fin (o := ⟨some 59, .call { callee := .value (.tmp 49), args := #[.tmp 57, .tmp 58], argTypes := #[2, 3] }, 0, "ticks.go:28", #[⟨3, .data⟩, ⟨11, .data⟩, ⟨12, .data⟩], none⟩) rfl (by rfl) (fun K hK => ?_) ?_
        · go_simp
          refine (moved_any (W := Y.drew) HPY.out HGY.out HMY.out).mono ?_
          rintro e Z ⟨rfl, hmZ, hcZ⟩
          rw [if_neg (show ¬ (j : Int) < 0 by omega)] at hmZ
          have HMZ := Lib.hid hmZ
          have HCZ := Lib.hid (show Chg (· = m) U Z from HCY.out.trans (((Chg.refl _ Y).grow (Below.refl _ _).drew).trans hcZ))
          clear hmZ hcZ
          refine hK.out _ _ ?_
          clear hK K
          try simp only [Act.put, pb, pz, ps]
          refine wpAnyF_done (by kernel_rfl) ?_ _
          clear hS s0 s1 yj lrY lqY
          go_wp2_with fail
          go_end0
          have h0 := H.out
          have hs := IdxF.swap h0.idx (i := i) (j := j) (a := a2) (b := b2) (ms := (swp l i j).map (·.2)) (by rw [List.getElem?_map, HI.out]; rfl) (by rw [List.getElem?_map, HJ.out]; rfl) (fun k => by rw [List.getElem?_map, swp_getq HI.out HJ.out]; (repeat' split) <;> simp)
          refine ⟨rfl, ⟨_, HPU.out.chg HCZ.out np, HBU.out.chg HCZ.out nr, HGU.out.chg HCZ.out ng, HRU.out.chgB HCZ.out (fun b hb => by rw [HV.out] at hb; cases hb; exact nq), HMZ.out, hs, h0.inR, fun d hd => h0.ok d ((swp_perm l i j).subset hd), h0.ne⟩, (HCU.out.mono fun b _ e => e ▸ HRq.out).step HCZ.out fun b _ e => e ▸ h0.inR.2.2.2⟩
        exact AllReadyF.nil
      exact AllReadyF.nil
    exact AllReadyF.nil
  exact AllReadyF.nil
end Go.Proofs.YthoaidfpgijbfaaGreat.Ho
namespace Go.Proofs.YthoaidfpgijbfaaGreat.Ho
open Go.RowKit
open Go.MapKept (IsKey)
open Go.Proofs.YthoaidfpgijbfaaGreat.Vb Go.Proofs.YthoaidfpgijbfaaGreat.Ac
theorem et_due : ElemT Tryz.prog 173 177 2 16 := elemT_of Tryz.underlying173 (by omega) (z := .agg #[.int .i64 0, .int .i64 0]) (by kernel_rfl) rfl
abbrev dueV (d : Du) : Value := .iface 177 (.agg #[.int .i64 d.1, .int .i64 d.2])
set_option maxRecDepth 100000 in
set_option maxHeartbeats 2000000 in
theorem rpush_any {W : World} {R : Nat → Prop} {p r g m : Nat} {now : Int} {v : Value} {F : Int → Option Int} {l : List Du} (h : TickI W R p r g m now v F l) {d : Du} (hd : duOk d) (hF : F d.2 = none) (hn : l.length ≤ 1099511627776) :
    Calls Tryz.prog 347 #[.pointer (some ⟨r, 0, none⟩), dueV d] W fun e W' => e = .returned (.tuple #[]) ∧ (∃ v' F', TickI W' (fun b => R b ∨ W.heap.size ≤ b) p r g m now v' F' (l ++ [d])) ∧ Chg R W W' := by
  obtain ⟨A, cap, hv⟩ := h.row.form
  obtain ⟨d1, d2⟩ := d
  unfold dueV
  have hta : ∀ w, (Instr.typeAssert (.iface 177 (.agg #[.int .i64 d1, .int .i64 d2])) 20 177 false).run Tryz.prog w = .ok (.agg #[.int .i64 d1, .int .i64 d2]) w := fun w => by kernel_rfl
  obtain ⟨W1, hW1⟩ : ∃ W1, W1 = W.alloc (.cells #[.int .i64 d1, .int .i64 d2] 177) := ⟨_, rfl⟩
  have hb1 : Below W.heap.size W W1 := by rw [hW1]; exact (Below.refl _ _).alloc (Nat.le_refl _) _
  have hD1 : Blk W1 W.heap.size 177 #[.int .i64 d1, .int .i64 d2] := by rw [hW1]; exact Blk.new _ _ _
  have h1 := h.grow hb1
  have nr : r ≠ m := h.map.not_cells h.br
  have np : p ≠ m := h.map.not_cells h.bp
  have ng : g ≠ m := h.map.not_cells h.bg
  have nD : W.heap.size ≠ m := by have := h.map.lt; omega
  have nv : ∀ b, v.ownBlock = some b → b ≠ m := fun b hb => h.map.not_row h.row hb
  have r0 : W1.cell? ⟨r, 0, none⟩ = some (.slice A l.length cap) := (h1.br.cell 0).trans (by rw [hv]; rfl)
  have r1 : W1.cell? ⟨r, 1, none⟩ = some (movV g) := h1.br.cell 1
  have x0 : W1.cell? ⟨W.heap.size, 0, none⟩ = some (.int .i64 d1) := hD1.cell 0
  have x1 : W1.cell? ⟨W.heap.size, 1, none⟩ = some (.int .i64 d2) := hD1.cell 1
  have lr := h1.br.lt
  have lx := hD1.lt
  have HV := Lib.hid hv
  have HD := Lib.hid hd
  have HF := Lib.hid hF
  have HH := Lib.hid h
  have H1 := Lib.hid h1
  have HD1 := Lib.hid hD1
  have HB1 := Lib.hid hb1
  have HW1 := Lib.hid hW1
  have HN := Lib.hid hn
  have NR := Lib.hid nr
  have NP := Lib.hid np
  have NG := Lib.hid ng
  have ND := Lib.hid nD
  have NV := Lib.hid nv
  clear hd hF h h1 hD1 hb1 nr np ng nD nv hn
  go_enter Tryz.func347, Tryz.ntmps347
  go_wp2_with fail
  rw [← hW1]
  clear hW1
  go_wp2_with fail
  refine wp_region_F (Below W1.heap.size W1) [11] (by kernel_rfl) ((Below.refl _ _).drew) (fun hS => ?_)
  refine wpAnyF_takeD [1, 2, 3, 11] (i := 0) (oi := ⟨some 7, .move (.tmp 0), 197, "ticks.go:32", #[], none⟩) (v := ?_) rfl (by kernel_rfl) (by kernel_rfl) (by kernel_rfl) (by kernel_rfl) (fun _ _ _ h => h) (Or.inl ⟨by rfl, ?_⟩) hS ?_
  rotate_left
  · intro w' _; go_simp; try with_reducible rfl
  try simp only [Act.put, pb, pz, ps]
  refine wpAnyF_takeD [2, 3, 11] (i := 1) (oi := ⟨some 8, .nilCheck (.tmp 7), 0, "ticks.go:32", #[⟨0, .data⟩], none⟩) (v := ?_) rfl (by kernel_rfl) (by kernel_rfl) (by kernel_rfl) (by kernel_rfl) (fun _ _ _ h => h) (Or.inl ⟨by rfl, ?_⟩) hS ?_
  rotate_left
  · intro w' _; go_simp; try with_reducible rfl
  try simp only [Act.put, pb, pz, ps]
  refine wpAnyF_takeD [3, 11] (i := 2) (oi := ⟨some 9, .fieldAddr 218 (.tmp 8) 1, 0, "ticks.go:32", #[⟨1, .data⟩], none⟩) (v := ?_) rfl (by kernel_rfl) (by kernel_rfl) (by kernel_rfl) (by kernel_rfl) (fun _ _ _ h => h) (Or.inl ⟨by rfl, ?_⟩) hS ?_
  rotate_left
  · intro w' _; go_simp; try with_reducible rfl
  try simp only [Act.put, pb, pz, ps]
  refine wpAnyF_take (i := 3) (oi := ⟨some 10, .load 216 (.tmp 9), 216, "ticks.go:32", #[⟨2, .data⟩], none⟩) (v := ?_) rfl (by kernel_rfl) (by kernel_rfl) (by kernel_rfl) (by kernel_rfl) (fun _ _ _ h => h) (Or.inl ⟨by rfl, ?_⟩) hS ?_
  rotate_left
  · intro w' hSw; have q0 := (hSw.cell (p := ⟨r, 0, none⟩) lr).trans r0; have q1 := (hSw.cell (p := ⟨r, 1, none⟩) lr).trans r1; have q2 := (hSw.cell (p := ⟨W.heap.size, 1, none⟩) lx).trans x1; unfold movV at q1; go_simp; try with_reducible rfl
  try simp only [Act.put, pb, pz, ps]
  refine wpAnyF_takeD [5, 11] (i := 4) (oi := ⟨some 11, .fieldAddr 177 (.tmp 4) 1, 0, "ticks.go:32", #[], none⟩) (v := ?_) rfl (by kernel_rfl) (by kernel_rfl) (by kernel_rfl) (by kernel_rfl) (fun _ _ _ h => h) (Or.inl ⟨by rfl, ?_⟩) hS ?_
  rotate_left
  · intro w' _; go_simp; try with_reducible rfl
  try simp only [Act.put, pb, pz, ps]
  refine wpAnyF_take (i := 5) (oi := ⟨some 12, .load 2 (.tmp 11), 2, "ticks.go:32", #[⟨4, .data⟩], none⟩) (v := ?_) rfl (by kernel_rfl) (by kernel_rfl) (by kernel_rfl) (by kernel_rfl) (fun _ _ _ h => h) (Or.inl ⟨by rfl, ?_⟩) hS ?_
  rotate_left
  · intro w' hSw; have q0 := (hSw.cell (p := ⟨r, 0, none⟩) lr).trans r0; have q1 := (hSw.cell (p := ⟨r, 1, none⟩) lr).trans r1; have q2 := (hSw.cell (p := ⟨W.heap.size, 1, none⟩) lx).trans x1; unfold movV at q1; go_simp; try with_reducible rfl
  try simp only [Act.put, pb, pz, ps]
  refine wpAnyF_takeD [7, 8, 9, 10, 11] (i := 6) (oi := ⟨some 13, .move (.tmp 0), 197, "ticks.go:32", #[], none⟩) (v := ?_) rfl (by kernel_rfl) (by kernel_rfl) (by kernel_rfl) (by kernel_rfl) (fun _ _ _ h => h) (Or.inl ⟨by rfl, ?_⟩) hS ?_
  rotate_left
  · intro w' _; go_simp; try with_reducible rfl
  try simp only [Act.put, pb, pz, ps]
  refine wpAnyF_takeD [8, 9, 10, 11] (i := 7) (oi := ⟨some 14, .nilCheck (.tmp 13), 0, "ticks.go:32", #[⟨6, .data⟩], none⟩) (v := ?_) rfl (by kernel_rfl) (by kernel_rfl) (by kernel_rfl) (by kernel_rfl) (fun _ _ _ h => h) (Or.inl ⟨by rfl, ?_⟩) hS ?_
  rotate_left
  · intro w' _; go_simp; try with_reducible rfl
  try simp only [Act.put, pb, pz, ps]
  refine wpAnyF_takeD [9, 10, 11] (i := 8) (oi := ⟨some 15, .fieldAddr 218 (.tmp 14) 0, 0, "ticks.go:32", #[⟨7, .data⟩], none⟩) (v := ?_) rfl (by kernel_rfl) (by kernel_rfl) (by kernel_rfl) (by kernel_rfl) (fun _ _ _ h => h) (Or.inl ⟨by rfl, ?_⟩) hS ?_
  rotate_left
  · intro w' _; go_simp; try with_reducible rfl
  try simp only [Act.put, pb, pz, ps]
  refine wpAnyF_takeD [10, 11] (i := 9) (oi := ⟨some 16, .load 173 (.tmp 15), 173, "ticks.go:32", #[⟨8, .data⟩], none⟩) (v := ?_) rfl (by kernel_rfl) (by kernel_rfl) (by kernel_rfl) (by kernel_rfl) (fun _ _ _ h => h) (Or.inl ⟨by rfl, ?_⟩) hS ?_
  rotate_left
  · intro w' hSw; have q0 := (hSw.cell (p := ⟨r, 0, none⟩) lr).trans r0; have q1 := (hSw.cell (p := ⟨r, 1, none⟩) lr).trans r1; have q2 := (hSw.cell (p := ⟨W.heap.size, 1, none⟩) lx).trans x1; unfold movV at q1; go_simp; try with_reducible rfl
  try simp only [Act.put, pb, pz, ps]
  refine wpAnyF_take (i := 10) (oi := ⟨some 17, .call { callee := .builtin .len, args := #[.tmp 16], argTypes := #[173] }, 3, "ticks.go:32", #[⟨9, .data⟩], none⟩) (v := ?_) rfl (by kernel_rfl) (by kernel_rfl) (by kernel_rfl) (by kernel_rfl) (fun _ _ _ h => h) (Or.inl ⟨by rfl, ?_⟩) hS ?_
  rotate_left
  · intro w' hSw; have q0 := (hSw.cell (p := ⟨r, 0, none⟩) lr).trans r0; have q1 := (hSw.cell (p := ⟨r, 1, none⟩) lr).trans r1; have q2 := (hSw.cell (p := ⟨W.heap.size, 1, none⟩) lx).trans x1; unfold movV at q1; go_simp; try with_reducible rfl
  try simp only [Act.put, pb, pz, ps]
  refine wpAnyF_ready (rs := [11]) (by kernel_rfl) (by simp) ?_
  refine AllReadyF.fin (o := ⟨some 18, .call { callee := .value (.tmp 10), args := #[.tmp 12, .tmp 17], argTypes := #[2, 3] }, 0, "ticks.go:32", #[⟨3, .data⟩, ⟨5, .data⟩, ⟨10, .data⟩], none⟩) rfl (by rfl) (fun K hK => ?_) ?_
  · go_simp
    refine (moved_any (W := W1.drew) H1.out.bp H1.out.bg H1.out.map).mono ?_
    rintro e Y ⟨rfl, hmY, hcY⟩
    rw [if_neg (show ¬ (l.length : Int) < 0 by omega)] at hmY
    have HMY := Lib.hid hmY
    have HCY := Lib.hid (show Chg (· = m) W1 Y from ((Chg.refl _ W1).grow (Below.refl _ _).drew).trans hcY)
    clear hmY hcY
    refine hK.out _ _ ?_
    clear hK K
    try simp only [Act.put, pb, pz, ps]
    refine wpAnyF_done (by kernel_rfl) ?_ _
    clear hS r0 r1 x0 x1 lr lx
    have r0 : Y.cell? ⟨r, 0, none⟩ = some (.slice A l.length cap) := ((H1.out.br.chg HCY.out NR.out).cell 0).trans (by rw [HV.out]; rfl)
    have rf : ∀ i, Y.frozen? ⟨r, i, none⟩ = false := (H1.out.br.chg HCY.out NR.out).frozen
    have x0 : Y.cell? ⟨W.heap.size, 0, none⟩ = some (.int .i64 d1) := (HD1.out.chg HCY.out ND.out).cell 0
    have x1 : Y.cell? ⟨W.heap.size, 1, none⟩ = some (.int .i64 d2) := (HD1.out.chg HCY.out ND.out).cell 1
    have lr := (H1.out.br.chg HCY.out NR.out).lt
    have lx := (HD1.out.chg HCY.out ND.out).lt
    have HRY := Lib.hid (H1.out.row.chgB HCY.out NV.out)
    have HRY' := HRY.out
    rw [HV.out] at HRY'
    have HRS := Lib.hid (RowAt.grow HRY' (((Below.refl _ _).alloc (Nat.le_refl _) (.cells #[.int .i64 d1, .int .i64 d2] 177)).drew))
    clear HRY'
    have HYL := Lib.hid (Nat.le_trans HB1.out.size HCY.out.size)
    have or1 : ¬ v.ownBlock = some r := fun e => (HH.out.row.blk r e).2.2.1 rfl
    have ox1 : ¬ v.ownBlock = some W.heap.size := fun e => by have := HH.out.row.lt e; omega
    go_wp2_with fail
    refine wp_region_F (Chg (fun b => v.ownBlock = some b) Y) [10] (by kernel_rfl) ((Chg.refl _ Y).grow (Below.refl _ _).drew) (fun hS => ?_)
    refine wpAnyF_take (i := 0) (oi := ⟨some 19, .move (.tmp 0), 197, "ticks.go:33", #[], none⟩) (v := ?_) rfl (by kernel_rfl) (by kernel_rfl) (by kernel_rfl) (by kernel_rfl) (fun _ _ _ h => h) (Or.inl ⟨by rfl, ?_⟩) hS ?_
    rotate_left
    · intro w' _; go_simp; try with_reducible rfl
    try simp only [Act.put, pb, pz, ps]
    refine wpAnyF_take (i := 1) (oi := ⟨some 20, .move (.tmp 0), 197, "ticks.go:33", #[], none⟩) (v := ?_) rfl (by kernel_rfl) (by kernel_rfl) (by kernel_rfl) (by kernel_rfl) (fun _ _ _ h => h) (Or.inl ⟨by rfl, ?_⟩) hS ?_
    rotate_left
    · intro w' _; go_simp; try with_reducible rfl
    try simp only [Act.put, pb, pz, ps]
    refine wpAnyF_take (i := 2) (oi := ⟨some 21, .nilCheck (.tmp 20), 0, "ticks.go:33", #[⟨1, .data⟩], none⟩) (v := ?_) rfl (by kernel_rfl) (by kernel_rfl) (by kernel_rfl) (by kernel_rfl) (fun _ _ _ h => h) (Or.inl ⟨by rfl, ?_⟩) hS ?_
    rotate_left
    · intro w' _; go_simp; try with_reducible rfl
    try simp only [Act.put, pb, pz, ps]
    refine wpAnyF_take (i := 3) (oi := ⟨some 22, .fieldAddr 218 (.tmp 21) 0, 0, "ticks.go:33", #[⟨2, .data⟩], none⟩) (v := ?_) rfl (by kernel_rfl) (by kernel_rfl) (by kernel_rfl) (by kernel_rfl) (fun _ _ _ h => h) (Or.inl ⟨by rfl, ?_⟩) hS ?_
    rotate_left
    · intro w' _; go_simp; try with_reducible rfl
    try simp only [Act.put, pb, pz, ps]
    refine wpAnyF_take (i := 4) (oi := ⟨some 23, .load 173 (.tmp 22), 173, "ticks.go:33", #[⟨3, .data⟩], none⟩) (v := ?_) rfl (by kernel_rfl) (by kernel_rfl) (by kernel_rfl) (by kernel_rfl) (fun _ _ _ h => h) (Or.inl ⟨by rfl, ?_⟩) hS ?_
    rotate_left
    · intro w' hSw; have q0 := (hSw.cell (p := ⟨r, 0, none⟩) lr or1).trans r0; have q1 := (hSw.cell (p := ⟨W.heap.size, 0, none⟩) lx ox1).trans x0; have q2 := (hSw.cell (p := ⟨W.heap.size, 1, none⟩) lx ox1).trans x1; go_simp; try with_reducible rfl
    try simp only [Act.put, pb, pz, ps]
    refine wpAnyF_take (i := 5) (oi := ⟨some 24, .load 177 (.tmp 4), 177, "ticks.go:33", #[], none⟩) (v := ?_) rfl (by kernel_rfl) (by kernel_rfl) (by kernel_rfl) (by kernel_rfl) (fun _ _ _ h => h) (Or.inl ⟨by rfl, ?_⟩) hS ?_
    rotate_left
    · intro w' hSw; have q0 := (hSw.cell (p := ⟨r, 0, none⟩) lr or1).trans r0; have q1 := (hSw.cell (p := ⟨W.heap.size, 0, none⟩) lx ox1).trans x0; have q2 := (hSw.cell (p := ⟨W.heap.size, 1, none⟩) lx ox1).trans x1; go_simp; try with_reducible rfl
    try simp only [Act.put, pb, pz, ps]
    refine wpAnyF_ready (rs := [6]) (by kernel_rfl) (by simp) ?_
    refine AllReadyF.cons (o := ⟨some 25, .buildSlice 173 1 #[(0, .tmp 24)], 173, "ticks.go:33", #[⟨5, .data⟩], none⟩) rfl (by rfl) (fun K hK => ?_) ?_
    · go_simp
      refine hK.out _ _ ?_ (fun hS => ?_)
      · exact hS.grow ((Below.refl _ _).alloc (Nat.le_refl _) _)
      clear hK K
      try simp only [Act.put, pb, pz, ps]
      refine wpAnyF_ready (rs := [7]) (by kernel_rfl) (by simp) ?_
      refine AllReadyF.cons (o := ⟨some 26, .call { callee := .builtin .append, args := #[.tmp 23, .tmp 25], argTypes := #[173, 173] }, 173, "ticks.go:33", #[⟨4, .data⟩, ⟨6, .data⟩], none⟩) rfl (by rfl) (fun K hK => ?_) ?_
      · refine step_row ((Y.alloc (.cells #[.int .i64 d1, .int .i64 d2] 177)).drew) (.tmp 23) (.tmp 25) rfl et_due rfl (.slice A l.length cap) l.length (duAll l) rfl HRS.out (.slice (some ⟨Y.heap.size, 0, none⟩) 1 1) 1 [.int .i64 d1, .int .i64 d2] rfl (Sl.lit1 (Blk.new Y 177 #[.int .i64 d1, .int .i64 d2]) rfl) (by simp [Value.oneCell']) (by have := HN.out; omega) (by have := HN.out; unfold maxLen; omega) ?_
        intro A3 c3 Z hrZ hcZ
        refine hK.out _ _ ?_ (fun hS => ?_)
        · exact (hS.step (Y := fun b => v.ownBlock = some b) (by rw [HV.out]; exact hcZ) fun _ _ h => h)
        clear hK K
        try simp only [Act.put, pb, pz, ps]
        have HZR := Lib.hid hrZ
        have HCZ := Lib.hid (show Chg (fun b => v.ownBlock = some b) Y Z from (((Chg.refl _ Y).grow ((Below.refl _ _).alloc (Nat.le_refl _) _)).grow (Below.refl _ _).drew).trans (by rw [HV.out]; exact hcZ))
        clear hrZ hcZ
        have HRZ := Lib.hid ((H1.out.br.chg HCY.out NR.out).chg HCZ.out or1)
        obtain ⟨U, hU⟩ : ∃ U, U = Z.setCell ⟨r, 0, none⟩ (.slice A3 (l.length + 1) c3) := ⟨_, rfl⟩
        have HTU := Lib.hid hU
        clear hU
        refine wpAnyF_takeD [9, 10] (i := 8) (oi := ⟨some 27, .nilCheck (.tmp 19), 0, "ticks.go:33", #[⟨0, .data⟩, ⟨0, .phase⟩, ⟨1, .phase⟩, ⟨2, .phase⟩, ⟨3, .phase⟩, ⟨4, .phase⟩, ⟨5, .phase⟩, ⟨6, .phase⟩, ⟨7, .phase⟩], none⟩) (v := ?_) rfl (by kernel_rfl) (by kernel_rfl) (by kernel_rfl) (by kernel_rfl) (fun _ _ _ h => h) (Or.inl ⟨by rfl, ?_⟩) hS ?_
        rotate_left
        · intro w' _; go_simp; try with_reducible rfl
        try simp only [Act.put, pb, pz, ps]
        refine wpAnyF_take (i := 9) (oi := ⟨some 28, .fieldAddr 218 (.tmp 27) 0, 0, "ticks.go:33", #[⟨8, .data⟩, ⟨0, .phase⟩, ⟨1, .phase⟩, ⟨2, .phase⟩, ⟨3, .phase⟩, ⟨4, .phase⟩, ⟨5, .phase⟩, ⟨6, .phase⟩, ⟨7, .phase⟩], none⟩) (v := ?_) rfl (by kernel_rfl) (by kernel_rfl) (by kernel_rfl) (by kernel_rfl) (fun _ _ _ h => h) (Or.inl ⟨by rfl, ?_⟩) hS ?_
        rotate_left
        · intro w' _; go_simp; try with_reducible rfl
        try simp only [Act.put, pb, pz, ps]
        refine wpAnyF_ready (rs := [10]) (by kernel_rfl) (by simp) ?_
        refine AllReadyF.fin (o := ⟨none, .store 173 (.tmp 28) (.tmp 26), 0, "ticks.go:33", #[⟨9, .data⟩, ⟨7, .data⟩, ⟨7, .chain⟩, ⟨0, .phase⟩, ⟨1, .phase⟩, ⟨2, .phase⟩, ⟨3, .phase⟩, ⟨4, .phase⟩, ⟨5, .phase⟩, ⟨6, .phase⟩, ⟨7, .phase⟩], none⟩) rfl (by rfl) (fun K hK => ?_) ?_
        · have f0 := HRZ.out.frozen 0
          have c0 := HRZ.out.cell 0
          go_simp
          rw [← HTU.out]
          refine hK.out _ _ ?_
          clear hK K
          try simp only [Act.put, pb, pz, ps]
          refine wpAnyF_done (by kernel_rfl) ?_ _
          clear hS r0 x0 x1 lr lx rf
          go_wp2_with fail
          go_end0
          have hU := HTU.out
          have h0 := HH.out
          have h1 := H1.out
          have hcU : Chg (· = r) Z U := by rw [hU]; exact Chg.set Z ⟨r, 0, none⟩ _
          have opv : ¬ v.ownBlock = some p := fun e => (h0.row.blk p e).2.1 rfl
          have ogv : ¬ v.ownBlock = some g := fun e => (h0.row.blk g e).2.2.2 rfl
          have omv : ¬ v.ownBlock = some m := fun e => NV.out m e rfl
          have hlW : W.heap.size ≤ ((Y.alloc (.cells #[.int .i64 d1, .int .i64 d2] 177)).drew).heap.size := Nat.le_trans HYL.out (by simp [World.drew])
          have lp := h0.bp.lt
          have lr := h0.br.lt
          have lg := h0.bg.lt
          have hrow := HZR.out.chgB hcU (fun b hb e => by
            rcases HZR.out.blk b hb with q | q
            · exact q.2.2.1 e
            · omega)
          refine ⟨rfl, ⟨.slice A3 (l.length + 1) c3, upd F d2 (some (l.length : Int)), ((h1.bp.chg HCY.out NP.out).chg HCZ.out opv).chg hcU h0.ne.1, ?_, ((h1.bg.chg HCY.out NG.out).chg HCZ.out ogv).chg hcU (fun e => h0.ne.2.2 e.symm), ?_, (HMY.out.chg HCZ.out omv).chg hcU (fun e => NR.out e.symm), ?_, ⟨.inl h0.inR.1, .inl h0.inR.2.1, .inl h0.inR.2.2.1, .inl h0.inR.2.2.2⟩, ?_, h0.ne⟩, ?_⟩
          · rw [hU]; exact HRZ.out.set_ 0 _
          · have := hrow.mono (R' := fun b => (R b ∨ W.heap.size ≤ b) ∧ b ≠ p ∧ b ≠ r ∧ b ≠ g) (fun b _ hb => by
              rcases hb with q | q
              · exact ⟨.inl q.1, q.2⟩
              · exact ⟨.inr (by omega), by omega, by omega, by omega⟩)
            rw [List.length_append, duAll_app]
            exact this
          · rw [List.map_append]
            have := h0.idx.snoc HF.out
            rwa [List.length_map] at this
          · intro x hx
            rcases List.mem_append.1 hx with hx | hx
            · exact h0.ok x hx
            · rw [List.mem_singleton.1 hx]; exact HD.out
          · exact (((Chg.of R HB1.out).step HCY.out fun b _ e => e ▸ h0.inR.2.2.2).step HCZ.out fun b _ e => (h0.row.blk b e).1).step hcU fun b _ e => e ▸ h0.inR.2.1
        exact AllReadyF.nil
      exact AllReadyF.nil
    exact AllReadyF.nil
  exact AllReadyF.nil
end Go.Proofs.YthoaidfpgijbfaaGreat.Ho

/- Joined by program: HoV HoX HoY. -/
import Derived.Test.YtckdpejdnejhfaaGreatZb
/- House: the calendar's row: moved, Len, Less. -/
set_option linter.all false
namespace Go.Proofs.YtckdpejdnejhfaaGreat.Ho
open Go.RowKit
open Go.MapKept (IsKey)
open Go.Proofs.YtckdpejdnejhfaaGreat.Vb Go.Proofs.YtckdpejdnejhfaaGreat.Ac

def movV (g : Nat) : Value := .func (.func 103) #[] #[.pointer (some ⟨g, 0, none⟩)]
set_option maxRecDepth 100000 in
theorem moved_any {W : World} {p r g m : Nat} {now k i : Int} {F : Int → Option Int} (hp : Blk W p 182 #[.int .i64 now, .pointer (some ⟨r, 0, none⟩), .map (some m)]) (hg : Blk W g 74 #[.pointer (some ⟨p, 0, none⟩)]) (hm : MapK (.int .i64) (.int .i64) W m F) :
    Calls Tryz.prog 103 #[.int .i64 k, .int .i64 i, .pointer (some ⟨g, 0, none⟩)] W fun e W' => e = .returned (.tuple #[]) ∧ MapK (.int .i64) (.int .i64) W' m (upd F k (if i < 0 then none else some i)) ∧ Chg (· = m) W W' := by
  have g0 : W.cell? ⟨g, 0, none⟩ = some (.pointer (some ⟨p, 0, none⟩)) := hg.cell 0
  have p2 : W.cell? ⟨p, 2, none⟩ = some (.map (some m)) := hp.cell 2
  by_cases h : i < 0
  · rw [if_pos h]
    obtain ⟨W', h1, h2, h3⟩ := hm.del (P := Tryz.prog) (mty := 180) (kt := 2) (et := 3) key_i64 i64_inj Tryz.underlying180 Tryz.underlying2 k 0 2
    have H2 := Lib.hid h2
    have H3 := Lib.hid h3
    clear hp hg hm h2 h3
    go_enter Tryz.func103, Tryz.ntmps103
    go_wp2_with fail
    go_end0
    exact ⟨rfl, H2.out, H3.out⟩
  · rw [if_neg h]
    obtain ⟨W', h1, h2, h3⟩ := hm.put (P := Tryz.prog) (mty := 180) (kt := 2) (et := 3) key_i64 i64_inj Tryz.underlying180 Tryz.underlying2 k i
    have H2 := Lib.hid h2
    have H3 := Lib.hid h3
    clear hp hg hm h2 h3
    go_enter Tryz.func103, Tryz.ntmps103
    go_wp2_with fail
    go_end0
    exact ⟨rfl, H2.out, H3.out⟩
set_option maxRecDepth 100000 in
theorem rlen_any {W : World} {R : Nat → Prop} {p r g m : Nat} {now : Int} {v : Value} {F : Int → Option Int} {l : List Du} (h : TickI W R p r g m now v F l) :
    Calls Tryz.prog 174 #[.pointer (some ⟨r, 0, none⟩)] W fun e W' => e = .returned (.int .i64 l.length) ∧ W' = W := by
  obtain ⟨A, cap, rfl⟩ := h.row.form
  have r0 : W.cell? ⟨r, 0, none⟩ = some (.slice A l.length cap) := h.br.cell 0
  clear h
  go_enter Tryz.func174, Tryz.ntmps174
  go_wp2_with fail
  go_ret
  exact ⟨rfl, rfl⟩
set_option maxRecDepth 100000 in
set_option maxHeartbeats 2000000 in
theorem rless_any {W : World} {R : Nat → Prop} {p r g m : Nat} {now : Int} {v : Value} {F : Int → Option Int} {l : List Du} (h : TickI W R p r g m now v F l) {i j : Nat} {a b : Du} (hi : l[i]? = some a) (hj : l[j]? = some b) :
    Calls Tryz.prog 210 #[.pointer (some ⟨r, 0, none⟩), .int .i64 i, .int .i64 j] W fun e W' => e = .returned (.bool (ltD a b)) ∧ Below W.heap.size W W' := by
  obtain ⟨q, cap, rfl, hq, i0, i1, _, _, hcap⟩ := h.at_ hi
  obtain ⟨q', cap', hv', _, j0, j1, _, _, _⟩ := h.at_ hj
  injection hv' with hv' _ hv2
  injection hv' with hv'
  injection hv' with hv' _ _
  subst hv' hv2
  have r0 : W.cell? ⟨r, 0, none⟩ = some (.slice (some ⟨q, 0, none⟩) l.length cap) := h.br.cell 0
  have lr := h.br.lt
  have li := (List.getElem?_eq_some_iff.1 hi).1
  have lj := (List.getElem?_eq_some_iff.1 hj).1
  have e1 : (0 : Int) ≤ (i : Int) := by omega
  have e2 : (i : Int) < (l.length : Int) := by omega
  have e3 : (0 : Int) ≤ (j : Int) := by omega
  have e4 : (j : Int) < (l.length : Int) := by omega
  have HO := Lib.hid (ordI_lt a b)
  have HAB : ∀ w, Calls Tryz.prog 111 #[.agg #[.int .i64 a.1, .int .i64 a.2], .agg #[.int .i64 b.1, .int .i64 b.2]] w fun e w' => e = .returned (.int .i64 (ordI a b)) ∧ Below w.heap.size w w' := order_any a b
  have HAB := Lib.hid HAB
  obtain ⟨c, hc⟩ : ∃ c, c = ordI a b := ⟨_, rfl⟩
  rw [← hc] at HO HAB
  obtain ⟨a1, a2⟩ := a
  obtain ⟨b1, b2⟩ := b
  simp only at i0 i1 j0 j1 HAB
  clear h hi hj hc
  go_enter Tryz.func210, Tryz.ntmps210
  go_wp2_with fail
  refine wp_region_F (Below W.heap.size W) [] (by kernel_rfl) ((Below.refl _ _).drew) (fun hS => ?_)
  refine tp 0 hS ?_
  refine tp 1 hS ?_
  refine tp 2 hS ?_
  have qq := Lib.hid fun (w' : World) (hSw : (Below W.heap.size W) w') => And.intro ((hSw.cell (p := ⟨r, 0, none⟩) lr).trans r0) <| And.intro ((hSw.cell (p := ⟨q, i * 2, none⟩) hq).trans i0) <| And.intro ((hSw.cell (p := ⟨q, i * 2 + 1, none⟩) hq).trans i1) <| And.intro ((hSw.cell (p := ⟨q, j * 2, none⟩) hq).trans j0) <| (hSw.cell (p := ⟨q, j * 2 + 1, none⟩) hq).trans j1
  refine tl 3 hS qq ?_
  refine tp 4 hS ?_
  refine tp 5 hS ?_
  refine tl 6 hS qq ?_
  refine tp 7 hS ?_
  refine tp 8 hS ?_
  refine tp 9 hS ?_
  refine tl 10 hS qq ?_
  refine tp 11 hS ?_
  refine tp 12 hS ?_
  refine tl 13 hS qq ?_
  refine stp 14 fun K hK => ?_
  go_simp
  refine (HAB.out _).mono ?_
  rintro e w7 ⟨rfl, hb7⟩
  refine hK.out _ _ ?_ (fun hS => ?_)
  · exact (Below.refl W.heap.size W).drew.trans (hb7.mono (by simp))
  clear hK K
  try simp only [Act.put, pb, pz, ps]
  have HB7 := Lib.hid ((Below.refl W.heap.size W).drew.trans (hb7.mono (by simp)))
  clear hb7
  refine tp 15 hS ?_
  refine tp 16 hS ?_
  refine wpAnyF_done (by kernel_rfl) ?_ _
  clear hS
  go_wp2_with fail
  go_ret
  exact ⟨by rw [← HO.out]; rfl, HB7.out⟩
end Go.Proofs.YtckdpejdnejhfaaGreat.Ho

/- House: the calendar's row: Swap. -/
namespace Go.Proofs.YtckdpejdnejhfaaGreat.Ho
open Go.RowKit
open Go.MapKept (IsKey)
open Go.Proofs.YtckdpejdnejhfaaGreat.Vb Go.Proofs.YtckdpejdnejhfaaGreat.Ac

theorem swp_at {α : Type} {l : List α} {i j : Nat} {a b : α} (hi : l[i]? = some a) (hj : l[j]? = some b) : swp l i j = (l.set i b).set j a := by simp [swp, hi, hj]
theorem swp_getq {α : Type} {l : List α} {i j : Nat} {a b : α} (hi : l[i]? = some a) (hj : l[j]? = some b) (k : Nat) : (swp l i j)[k]? = if k = j then some a else if k = i then some b else l[k]? := by
  have li := (List.getElem?_eq_some_iff.1 hi).1
  have lj := (List.getElem?_eq_some_iff.1 hj).1
  rw [swp_at hi hj, List.getElem?_set, List.getElem?_set, List.length_set]
  by_cases e1 : j = k
  · subst e1; simp [lj]
  · by_cases e2 : i = k
    · subst e2; simp [e1, li, show ¬ i = j from fun h => e1 h.symm]
    · simp [e1, e2, show ¬ k = j from fun h => e1 h.symm, show ¬ k = i from fun h => e2 h.symm]
set_option maxRecDepth 100000 in
set_option maxHeartbeats 2000000 in
theorem rswap_any {W : World} {R : Nat → Prop} {p r g m : Nat} {now : Int} {v : Value} {F : Int → Option Int} {l : List Du} (h : TickI W R p r g m now v F l) {i j : Nat} {a b : Du} (hi : l[i]? = some a) (hj : l[j]? = some b) :
    Calls Tryz.prog 213 #[.pointer (some ⟨r, 0, none⟩), .int .i64 i, .int .i64 j] W fun e W' => e = .returned (.tuple #[]) ∧ (∃ F', TickI W' R p r g m now v F' (swp l i j)) ∧ Chg R W W' := by
  obtain ⟨q, cap, hv, hq, i0, i1, fi0, fi1, hcap⟩ := h.at_ hi
  obtain ⟨q', cap', hv', _, j0, j1, fj0, fj1, _⟩ := h.at_ hj
  rw [hv] at hv'
  injection hv' with hv' _ hv2
  injection hv' with hv'
  injection hv' with hv' _ _
  subst hv' hv2
  have r0 : W.cell? ⟨r, 0, none⟩ = some (.slice (some ⟨q, 0, none⟩) l.length cap) := (h.br.cell 0).trans (by rw [hv]; rfl)
  have lr := h.br.lt
  have li := (List.getElem?_eq_some_iff.1 hi).1
  have lj := (List.getElem?_eq_some_iff.1 hj).1
  have e1 : (0 : Int) ≤ (i : Int) := by omega
  have e2 : (i : Int) < (l.length : Int) := by omega
  have e3 : (0 : Int) ≤ (j : Int) := by omega
  have e4 : (j : Int) < (l.length : Int) := by omega
  have hrow := h.row
  rw [hv] at hrow
  have hRq := hrow.blk q rfl
  obtain ⟨V, hV1⟩ : ∃ V, V = (W.setCell ⟨q, i * 2, none⟩ (.int .i64 b.1)).setCell ⟨q, i * 2 + 1, none⟩ (.int .i64 b.2) := ⟨_, rfl⟩
  have hrowV : RowAt V (fun b => R b ∧ b ≠ p ∧ b ≠ r ∧ b ≠ g) 161 2 (.slice (some ⟨q, 0, none⟩) l.length cap) l.length (duAll (l.set i b)) := by
    rw [hV1, duAll_set]
    exact (hrow.set (i * 2) _).set (i * 2 + 1) _
  have vl : ∃ d, (l.set i b)[j]? = some d := ⟨_, List.getElem?_eq_getElem (by simpa using lj)⟩
  obtain ⟨d, hd⟩ := vl
  have v0 : V.cell? ⟨q, j * 2, none⟩ = some (.int .i64 d.1) := (hrowV.own.cellAt (j * 2) (by omega)).trans (duAll_at hd).1
  have v1 : V.cell? ⟨q, j * 2 + 1, none⟩ = some (.int .i64 d.2) := (hrowV.own.cellAt (j * 2 + 1) (by omega)).trans (duAll_at hd).2
  have fv0 : V.frozen? ⟨q, j * 2, none⟩ = false := hrowV.own.frozenAt _
  have fv1 : V.frozen? ⟨q, j * 2 + 1, none⟩ = false := hrowV.own.frozenAt _
  obtain ⟨U, hU⟩ : ∃ U, U = ((V.setCell ⟨q, j * 2, none⟩ (.int .i64 a.1)).setCell ⟨q, j * 2 + 1, none⟩ (.int .i64 a.2)).drew := ⟨_, rfl⟩
  have hcU : Chg (· = q) W U := by
    rw [hU, hV1]
    exact ((((Chg.set W ⟨q, i * 2, none⟩ _).trans (Chg.set _ ⟨q, i * 2 + 1, none⟩ _)).trans (Chg.set _ ⟨q, j * 2, none⟩ _)).trans (Chg.set _ ⟨q, j * 2 + 1, none⟩ _)).grow (Below.refl _ _).drew
  have hrowU : RowAt U (fun b => R b ∧ b ≠ p ∧ b ≠ r ∧ b ≠ g) 161 2 v (swp l i j).length (duAll (swp l i j)) := by
    have h1 := hrowV.set (j * 2) (.int .i64 a.1)
    have h2 := RowAt.grow (h1.set (j * 2 + 1) (.int .i64 a.2)) (Below.refl _ _).drew
    rw [swp_len, hv, hU, swp_at hi hj, duAll_set]
    exact h2
  have hneq : q ≠ p ∧ q ≠ r ∧ q ≠ g := hRq.2
  have hnm : q ≠ m := h.map.not_row (hv ▸ hrow) (by rw [hv]; rfl)
  have hbpU := h.bp.chg hcU (Ne.symm hneq.1)
  have hbrU := h.br.chg hcU (Ne.symm hneq.2.1)
  have hbgU := h.bg.chg hcU (Ne.symm hneq.2.2)
  have hmU := h.map.chg hcU (Ne.symm hnm)
  have ai : (swp l i j)[i]? = some b := by
    rw [swp_getq hi hj]
    by_cases e : i = j
    · subst e; rw [hi] at hj; cases hj; simp
    · simp [e]
  have aj : (swp l i j)[j]? = some a := by rw [swp_getq hi hj]; simp
  have HU := Lib.hid hU
  have HRU := Lib.hid hrowU
  have HPU := Lib.hid hbpU
  have HBU := Lib.hid hbrU
  have HGU := Lib.hid hbgU
  have HMU := Lib.hid hmU
  have HCU := Lib.hid hcU
  have HRq := Lib.hid hRq.1
  have HNM := Lib.hid hnm
  have HAI := Lib.hid ai
  have HAJ := Lib.hid aj
  have HV := Lib.hid hv
  have H := Lib.hid h
  have HI := Lib.hid hi
  have HJ := Lib.hid hj
  obtain ⟨a1, a2⟩ := a
  obtain ⟨b1, b2⟩ := b
  simp only at i0 i1 j0 j1 HU hV1
  have HV1 := Lib.hid hV1
  clear hd hrowV hV1 h hi hj hv hrow hRq hU hcU hrowU hneq hnm hbpU hbrU hbgU hmU ai aj
  go_enter Tryz.func213, Tryz.ntmps213
  go_wp2_with fail
  refine wp_region_F (Below W.heap.size W) [9, 25, 26, 27] (by kernel_rfl) ((Below.refl _ _).drew) (fun hS => ?_)
  refine tpW 9 ?_
  refine tpD [1, 2, 3, 24, 25, 26, 27] 0 hS ?_
  refine tpD [2, 3, 24, 25, 26, 27] 1 hS ?_
  refine tpD [3, 24, 25, 26, 27] 2 hS ?_
  have qq := Lib.hid fun (w' : World) (hSw : (Below W.heap.size W) w') => And.intro ((hSw.cell (p := ⟨r, 0, none⟩) lr).trans r0) <| And.intro ((hSw.cell (p := ⟨q, i * 2, none⟩) hq).trans i0) <| And.intro ((hSw.cell (p := ⟨q, i * 2 + 1, none⟩) hq).trans i1) <| And.intro ((hSw.cell (p := ⟨q, j * 2, none⟩) hq).trans j0) <| (hSw.cell (p := ⟨q, j * 2 + 1, none⟩) hq).trans j1
  refine tlD [24, 25, 26, 27] 3 hS qq ?_
  refine tpD [24, 25, 26, 27] 4 hS ?_
  refine tpD [6, 7, 8, 24, 25, 26, 27] 5 hS ?_
  refine tpD [7, 8, 24, 25, 26, 27] 6 hS ?_
  refine tpD [8, 24, 25, 26, 27] 7 hS ?_
  refine tlD [24, 25, 26, 27] 8 hS qq ?_
  refine tpD [11, 12, 13, 15, 16, 24, 25, 26, 27] 10 hS ?_
  refine tpD [12, 13, 15, 16, 24, 25, 26, 27] 11 hS ?_
  refine tpD [13, 15, 16, 24, 25, 26, 27] 12 hS ?_
  refine tlD [15, 16, 24, 25, 26, 27] 13 hS qq ?_
  refine tpD [15, 16, 24, 25, 26, 27] 14 hS ?_
  refine tpD [16, 24, 25, 26, 27] 15 hS ?_
  refine tlD [24, 25, 26, 27] 16 hS qq ?_
  refine tpD [18, 19, 20, 22, 23, 24, 25, 26, 27] 17 hS ?_
  refine tpD [19, 20, 22, 23, 24, 25, 26, 27] 18 hS ?_
  refine tpD [20, 22, 23, 24, 25, 26, 27] 19 hS ?_
  refine tlD [22, 23, 24, 25, 26, 27] 20 hS qq ?_
  refine tpD [22, 23, 24, 25, 26, 27] 21 hS ?_
  refine tpD [23, 24, 25, 26, 27] 22 hS ?_
  refine tlD [24, 25, 26, 27] 23 hS qq ?_
  refine tpD [25, 26, 27] 24 hS ?_
  refine stf 25 fun K hK => ?_
  go_simp
  refine hK.out _ _ ?_
  clear hK K
  try simp only [Act.put, pb, pz, ps]
  refine tpW 26 ?_
  refine stf 27 fun K hK => ?_
  rw [← HV1.out]
  clear hS
  go_simp
  rw [← HU.out]
  refine hK.out _ _ ?_
  clear hK K
  try simp only [Act.put, pb, pz, ps]
  refine wpAnyF_done (by kernel_rfl) ?_ _
  clear v0 v1 fv0 fv1 fi0 fi1 r0 i0 i1 j0 j1
  have r0 : U.cell? ⟨r, 0, none⟩ = some (.slice (some ⟨q, 0, none⟩) l.length cap) := (HBU.out.cell 0).trans (by rw [HV.out]; rfl)
  have r1 : U.cell? ⟨r, 1, none⟩ = some (movV g) := HBU.out.cell 1
  have lrU := HBU.out.lt
  have hlen : (swp l i j).length = l.length := swp_len l i j
  have HRU' := HRU.out
  rw [HV.out, hlen] at HRU'
  have qi : U.cell? ⟨q, i * 2 + 1, none⟩ = some (.int .i64 b2) := (HRU'.own.cellAt (i * 2 + 1) (by omega)).trans (duAll_at HAI.out).2
  have qj : U.cell? ⟨q, j * 2 + 1, none⟩ = some (.int .i64 a2) := (HRU'.own.cellAt (j * 2 + 1) (by omega)).trans (duAll_at HAJ.out).2
  have lq : q < U.heap.size := HRU'.lt rfl
  have HQJ := Lib.hid qj
  clear HRU' hlen qj
  go_wp2_with fail
  refine wp_region_F (Below U.heap.size U) [13] (by kernel_rfl) ((Below.refl _ _).drew) (fun hS => ?_)
  refine tpD [1, 2, 3, 13] 0 hS ?_
  refine tpD [2, 3, 13] 1 hS ?_
  refine tpD [3, 13] 2 hS ?_
  refine tx 3 (v := ?_) hS ?_ ?_
  rotate_left
  · intro w' hSw; have q0 := (hSw.cell (p := ⟨r, 0, none⟩) lrU).trans r0; have q1 := (hSw.cell (p := ⟨r, 1, none⟩) lrU).trans r1; have q2 := (hSw.cell (p := ⟨q, i * 2 + 1, none⟩) lq).trans qi; unfold movV at q1; go_simp; try with_reducible rfl
  refine tpD [5, 6, 7, 9, 10, 11, 13] 4 hS ?_
  refine tpD [6, 7, 9, 10, 11, 13] 5 hS ?_
  refine tpD [7, 9, 10, 11, 13] 6 hS ?_
  refine txD [9, 10, 11, 13] 7 (v := ?_) hS ?_ ?_
  rotate_left
  · intro w' hSw; have q0 := (hSw.cell (p := ⟨r, 0, none⟩) lrU).trans r0; have q1 := (hSw.cell (p := ⟨r, 1, none⟩) lrU).trans r1; have q2 := (hSw.cell (p := ⟨q, i * 2 + 1, none⟩) lq).trans qi; unfold movV at q1; go_simp; try with_reducible rfl
  refine tpD [9, 10, 11, 13] 8 hS ?_
  refine tpD [10, 11, 13] 9 hS ?_
  refine tpD [11, 13] 10 hS ?_
  refine tx 11 (v := ?_) hS ?_ ?_
  rotate_left
  · intro w' hSw; have q0 := (hSw.cell (p := ⟨r, 0, none⟩) lrU).trans r0; have q1 := (hSw.cell (p := ⟨r, 1, none⟩) lrU).trans r1; have q2 := (hSw.cell (p := ⟨q, i * 2 + 1, none⟩) lq).trans qi; unfold movV at q1; go_simp; try with_reducible rfl
  refine tp 12 hS ?_
  refine stf 13 fun K hK => ?_
  go_simp
  refine (moved_any (W := U.drew) HPU.out HGU.out HMU.out).mono ?_
  rintro e Y ⟨rfl, hmY, hcY⟩
  rw [if_neg (show ¬ (i : Int) < 0 by omega)] at hmY
  have HMY := Lib.hid hmY
  have HCY := Lib.hid (show Chg (· = m) U Y from ((Chg.refl _ U).grow (Below.refl _ _).drew).trans hcY)
  clear hmY hcY
  refine hK.out _ _ ?_
  clear hK K
  try simp only [Act.put, pb, pz, ps]
  refine wpAnyF_done (by kernel_rfl) ?_ _
  have nq : q ≠ m := HNM.out
  have nr : r ≠ m := HMU.out.not_cells HBU.out
  have np : p ≠ m := HMU.out.not_cells HPU.out
  have ng : g ≠ m := HMU.out.not_cells HGU.out
  have s0 : Y.cell? ⟨r, 0, none⟩ = some (.slice (some ⟨q, 0, none⟩) l.length cap) := ((HBU.out.chg HCY.out nr).cell 0).trans (by rw [HV.out]; rfl)
  have s1 : Y.cell? ⟨r, 1, none⟩ = some (movV g) := (HBU.out.chg HCY.out nr).cell 1
  have lrY := (HBU.out.chg HCY.out nr).lt
  have lqY : q < Y.heap.size := Nat.lt_of_lt_of_le lq HCY.out.size
  have HRY := Lib.hid (HRU.out.chgB HCY.out (fun b hb => by rw [HV.out] at hb; cases hb; exact nq))
  have HRY' := HRY.out
  rw [HV.out, swp_len] at HRY'
  have yj : Y.cell? ⟨q, j * 2 + 1, none⟩ = some (.int .i64 a2) := (HRY'.own.cellAt (j * 2 + 1) (by omega)).trans (duAll_at HAJ.out).2
  have HPY := Lib.hid (HPU.out.chg HCY.out np)
  have HGY := Lib.hid (HGU.out.chg HCY.out ng)
  clear HRY'
  clear r0 r1 qi lrU lq hS
  go_wp2_with fail
  refine wp_region_F (Below Y.heap.size Y) [13] (by kernel_rfl) ((Below.refl _ _).drew) (fun hS => ?_)
  refine tpD [1, 2, 3, 13] 0 hS ?_
  refine tpD [2, 3, 13] 1 hS ?_
  refine tpD [3, 13] 2 hS ?_
  refine tx 3 (v := ?_) hS ?_ ?_
  rotate_left
  · intro w' hSw; have q0 := (hSw.cell (p := ⟨r, 0, none⟩) lrY).trans s0; have q1 := (hSw.cell (p := ⟨r, 1, none⟩) lrY).trans s1; have q2 := (hSw.cell (p := ⟨q, j * 2 + 1, none⟩) lqY).trans yj; unfold movV at q1; go_simp; try with_reducible rfl
  refine tpD [5, 6, 7, 9, 10, 11, 13] 4 hS ?_
  refine tpD [6, 7, 9, 10, 11, 13] 5 hS ?_
  refine tpD [7, 9, 10, 11, 13] 6 hS ?_
  refine txD [9, 10, 11, 13] 7 (v := ?_) hS ?_ ?_
  rotate_left
  · intro w' hSw; have q0 := (hSw.cell (p := ⟨r, 0, none⟩) lrY).trans s0; have q1 := (hSw.cell (p := ⟨r, 1, none⟩) lrY).trans s1; have q2 := (hSw.cell (p := ⟨q, j * 2 + 1, none⟩) lqY).trans yj; unfold movV at q1; go_simp; try with_reducible rfl
  refine tpD [9, 10, 11, 13] 8 hS ?_
  refine tpD [10, 11, 13] 9 hS ?_
  refine tpD [11, 13] 10 hS ?_
  refine tx 11 (v := ?_) hS ?_ ?_
  rotate_left
  · intro w' hSw; have q0 := (hSw.cell (p := ⟨r, 0, none⟩) lrY).trans s0; have q1 := (hSw.cell (p := ⟨r, 1, none⟩) lrY).trans s1; have q2 := (hSw.cell (p := ⟨q, j * 2 + 1, none⟩) lqY).trans yj; unfold movV at q1; go_simp; try with_reducible rfl
  refine tp 12 hS ?_
  refine stf 13 fun K hK => ?_
  go_simp
  refine (moved_any (W := Y.drew) HPY.out HGY.out HMY.out).mono ?_
  rintro e Z ⟨rfl, hmZ, hcZ⟩
  rw [if_neg (show ¬ (j : Int) < 0 by omega)] at hmZ
  have HMZ := Lib.hid hmZ
  have HCZ := Lib.hid (show Chg (· = m) U Z from HCY.out.trans (((Chg.refl _ Y).grow (Below.refl _ _).drew).trans hcZ))
  clear hmZ hcZ
  refine hK.out _ _ ?_
  clear hK K
  try simp only [Act.put, pb, pz, ps]
  refine wpAnyF_done (by kernel_rfl) ?_ _
  clear hS s0 s1 yj lrY lqY
  go_wp2_with fail
  go_end0
  have h0 := H.out
  have hs := IdxF.swap h0.idx (i := i) (j := j) (a := a2) (b := b2) (ms := (swp l i j).map (·.2)) (by rw [List.getElem?_map, HI.out]; rfl) (by rw [List.getElem?_map, HJ.out]; rfl) (fun k => by rw [List.getElem?_map, swp_getq HI.out HJ.out]; (repeat' split) <;> simp)
  refine ⟨rfl, ⟨_, HPU.out.chg HCZ.out np, HBU.out.chg HCZ.out nr, HGU.out.chg HCZ.out ng, HRU.out.chgB HCZ.out (fun b hb => by rw [HV.out] at hb; cases hb; exact nq), HMZ.out, hs, h0.inR, fun d hd => h0.ok d ((swp_perm l i j).subset hd), h0.ne⟩, (HCU.out.mono fun b _ e => e ▸ HRq.out).step HCZ.out fun b _ e => e ▸ h0.inR.2.2.2⟩
end Go.Proofs.YtckdpejdnejhfaaGreat.Ho

/- House: the calendar's row: Push. -/
namespace Go.Proofs.YtckdpejdnejhfaaGreat.Ho
open Go.RowKit
open Go.MapKept (IsKey)
open Go.Proofs.YtckdpejdnejhfaaGreat.Vb Go.Proofs.YtckdpejdnejhfaaGreat.Ac

theorem et_due : ElemT Tryz.prog 158 161 2 16 := elemT_of Tryz.underlying158 (by omega) (z := .agg #[.int .i64 0, .int .i64 0]) (by kernel_rfl) rfl
abbrev dueV (d : Du) : Value := .iface 161 (.agg #[.int .i64 d.1, .int .i64 d.2])
end Go.Proofs.YtckdpejdnejhfaaGreat.Ho

import Derived.Test.YthoaidfpgijbfaaGreatZk
import Derived.Test.YthoaidfpgijbfaaGreatZl
import Derived.Test.YthoaidfpgijbfaaGreatZj
namespace Go.Proofs.YthoaidfpgijbfaaGreat.Ho
open Go.RowKit
open Go.Proofs.YthoaidfpgijbfaaGreat.Vb Go.Proofs.YthoaidfpgijbfaaGreat.Ac
theorem below_nil {W Z : World} (h : Chg (fun b => (Value.slice none 0 0).ownBlock = some b) W Z) : Below W.heap.size W Z := h.below (Nat.le_refl _) fun b _ e => by cases e
theorem orderCells_one {os : List OrderR} {vo : Nat → Value} (h : ∀ k o, os[k]? = some o → ∃ A c, vo k = .slice A o.offers.length c) : ∀ u ∈ orderCells os vo, u.oneCell' = true := by
  intro u hu
  unfold orderCells at hu
  obtain ⟨y, hy, huy⟩ := List.mem_flatten.1 hu
  obtain ⟨k, hk, rfl⟩ := List.mem_mapIdx.1 hy
  obtain ⟨A, c, hv⟩ := h k os[k] (by simp [hk])
  rw [hv] at huy
  unfold OrderR.cells at huy
  simp at huy
  rcases huy with rfl | rfl | rfl | rfl | rfl | rfl | rfl | rfl | rfl | rfl | rfl | rfl | rfl | rfl | rfl | rfl | rfl | rfl <;> rfl
set_option maxRecDepth 100000 in
set_option maxHeartbeats 8000000 in
theorem rdo_err {W : World} {r : Nat} (o : OrderR) {A : Option Addr} {c : Nat} {v er : Int} (he : er ≠ 0)
    (hm : ∀ W1, Below W.heap.size W W1 → Calls Tryz.prog 43 #[.pointer (some ⟨r, 0, none⟩), o.agg (.slice A o.offers.length c)] W1 fun e W' => e = .returned (.tuple #[.int .i64 v, .int .i64 er]) ∧ Below W1.heap.size W1 W') :
    Calls Tryz.prog 14 #[.pointer (some ⟨r, 0, none⟩), o.agg (.slice A o.offers.length c)] W fun e W' => e = .returned (ansV 0 er 0) ∧ Below W.heap.size W W' := by
  have HM := Lib.hid hm
  clear hm
  obtain ⟨okind, oname, ocoins, obidder, olot, ⟨kind, opens, closes, start, step, extend, last, floor, fall, count, rule⟩, ooff, otick⟩ := o
  simp only [OrderR.agg, OrderR.cells, LotR.cells, List.cons_append, List.nil_append] at HM ⊢
  obtain ⟨W1, hW1⟩ : ∃ W1, W1 = (W.alloc (.cells #[.int .i64 okind, .string oname, .int .i64 ocoins, .int .i64 obidder, .int .i64 olot, .int .i64 kind, .int .i64 opens, .int .i64 closes, .int .i64 start, .int .i64 step, .int .i64 extend, .int .i64 last, .int .i64 floor, .int .i64 fall, .int .i64 count, .int .i64 rule, .slice A ooff.length c, .int .i64 otick] 36)).alloc (.cells #[.int .i64 0, .int .i64 0, .int .i64 0] 27) := ⟨_, rfl⟩
  have hb1 : Below W.heap.size W W1 := by rw [hW1]; exact ((Below.refl _ _).alloc (Nat.le_refl _) _).alloc (by simp) _
  have HX1 := Lib.hid (show Ac.Blk W1 W.heap.size 36 #[.int .i64 okind, .string oname, .int .i64 ocoins, .int .i64 obidder, .int .i64 olot, .int .i64 kind, .int .i64 opens, .int .i64 closes, .int .i64 start, .int .i64 step, .int .i64 extend, .int .i64 last, .int .i64 floor, .int .i64 fall, .int .i64 count, .int .i64 rule, .slice A ooff.length c, .int .i64 otick] by rw [hW1]; exact (Blk.new W _ _).alloc _)
  have HY1 := Lib.hid (show Ac.Blk W1 (W.heap.size + 1) 27 #[.int .i64 0, .int .i64 0, .int .i64 0] by rw [hW1]; exact Blk.new' _ _ (by simp))
  have HB1 := Lib.hid hb1
  clear hb1
  go_enter Tryz.func14, Tryz.ntmps14
  go_wp2_with (refine wpList_load_row rfl 36 (.tmp 3) rfl W.heap.size rfl 36 #[.int .i64 okind, .string oname, .int .i64 ocoins, .int .i64 obidder, .int .i64 olot, .int .i64 kind, .int .i64 opens, .int .i64 closes, .int .i64 start, .int .i64 step, .int .i64 extend, .int .i64 last, .int .i64 floor, .int .i64 fall, .int .i64 count, .int .i64 rule, .slice A ooff.length c, .int .i64 otick] (0, 0) _ (by rw [← hW1]; exact HX1.out) Tryz.underlying36 rfl (by kernel_rfl) ?_)
  rw [← hW1]
  clear hW1
  refine (HM.out W1 HB1.out).mono ?_
  rintro e W2 ⟨rfl, hb2⟩
  have hy2 := HY1.out.grow hb2
  have HY2 := Lib.hid hy2
  have HB2 := Lib.hid (HB1.out.trans (hb2.mono HB1.out.size))
  have y0 := hy2.cell 0
  have y1 := hy2.cell 1
  have y2 := hy2.cell 2
  have yf := hy2.frozen
  have he' : ¬ er = 0 := he
  clear hb2 he hy2
  go_wp2_with fail
  have hfin : Ac.Blk (((W2.setCell ⟨W.heap.size + 1, 0, none⟩ (.int .i64 0)).setCell ⟨W.heap.size + 1, 1, none⟩ (.int .i64 er)).setCell ⟨W.heap.size + 1, 2, none⟩ (.int .i64 0)) (W.heap.size + 1) 27 #[.int .i64 0, .int .i64 er, .int .i64 0] := ((HY2.out.set_ 0 _).set_ 1 _).set_ 2 _
  refine bodyPost_ret (results_cell_row rfl _ _ (W.heap.size + 1) 27 #[.int .i64 0, .int .i64 er, .int .i64 0] (0, 0) _ rfl hfin Tryz.underlying27 rfl (by kernel_rfl)) rfl ⟨rfl, ?_⟩
  exact ((HB2.out.setCell (p := ⟨W.heap.size + 1, 0, none⟩) (by simp) _).setCell (p := ⟨W.heap.size + 1, 1, none⟩) (by simp) _).setCell (p := ⟨W.heap.size + 1, 2, none⟩) (by simp) _
set_option maxRecDepth 100000 in
set_option maxHeartbeats 8000000 in
theorem rdo_ok {W : World} {R R0 : Nat → Prop} {r : Nat} (hrl : r < W.heap.size) (o : OrderR) {A : Option Addr} {c : Nat} (hO : Offs W R0 (.slice A o.offers.length c) o.offers) (hR0 : ∀ b, R0 b → b ≠ r) (hlo : o.offers.length ≤ 1099511627776) {v : Int} {H1 : House} (hbl : H1.book.length ≤ 1000000)
    (hm : ∀ W1, Below W.heap.size W W1 → Calls Tryz.prog 43 #[.pointer (some ⟨r, 0, none⟩), o.agg (.slice A o.offers.length c)] W1 fun e W' => e = .returned (.tuple #[.int .i64 v, .int .i64 0]) ∧ RefIn W' (fun b => (R b ∧ b < W.heap.size) ∨ W1.heap.size ≤ b) r H1 ∧ Chg (· = r) W1 W') :
    Calls Tryz.prog 14 #[.pointer (some ⟨r, 0, none⟩), o.agg (.slice A o.offers.length c)] W fun e W' => e = .returned (ansV H1.book.length 0 v) ∧ RefIn W' (fun b => R b ∨ W.heap.size ≤ b) r { H1 with book := H1.book ++ [o] } ∧ Chg (· = r) W W' := by
  have HM := Lib.hid hm
  have HLO := Lib.hid hlo
  have HBL := Lib.hid hbl
  clear hm hlo hbl
  obtain ⟨okind, oname, ocoins, obidder, olot, ⟨kind, opens, closes, start, step, extend, last, floor, fall, count, rule⟩, ooff, otick⟩ := o
  simp only at hO HLO
  simp only [OrderR.agg, OrderR.cells, LotR.cells, List.cons_append, List.nil_append] at HM ⊢
  obtain ⟨W1, hW1⟩ : ∃ W1, W1 = (W.alloc (.cells #[.int .i64 okind, .string oname, .int .i64 ocoins, .int .i64 obidder, .int .i64 olot, .int .i64 kind, .int .i64 opens, .int .i64 closes, .int .i64 start, .int .i64 step, .int .i64 extend, .int .i64 last, .int .i64 floor, .int .i64 fall, .int .i64 count, .int .i64 rule, .slice A ooff.length c, .int .i64 otick] 36)).alloc (.cells #[.int .i64 0, .int .i64 0, .int .i64 0] 27) := ⟨_, rfl⟩
  have hb1 : Below W.heap.size W W1 := by rw [hW1]; exact ((Below.refl _ _).alloc (Nat.le_refl _) _).alloc (by simp) _
  have HX1 := Lib.hid (show Ac.Blk W1 W.heap.size 36 #[.int .i64 okind, .string oname, .int .i64 ocoins, .int .i64 obidder, .int .i64 olot, .int .i64 kind, .int .i64 opens, .int .i64 closes, .int .i64 start, .int .i64 step, .int .i64 extend, .int .i64 last, .int .i64 floor, .int .i64 fall, .int .i64 count, .int .i64 rule, .slice A ooff.length c, .int .i64 otick] by rw [hW1]; exact (Blk.new W _ _).alloc _)
  have HY1 := Lib.hid (show Ac.Blk W1 (W.heap.size + 1) 27 #[.int .i64 0, .int .i64 0, .int .i64 0] by rw [hW1]; exact Blk.new' _ _ (by simp))
  have HB1 := Lib.hid hb1
  have HO1 := Lib.hid (Offs.grow hO hb1)
  have HR0 := Lib.hid hR0
  clear hb1 hO hR0
  go_enter Tryz.func14, Tryz.ntmps14
  go_wp2_with (refine wpList_load_row rfl 36 (.tmp 3) rfl W.heap.size rfl 36 #[.int .i64 okind, .string oname, .int .i64 ocoins, .int .i64 obidder, .int .i64 olot, .int .i64 kind, .int .i64 opens, .int .i64 closes, .int .i64 start, .int .i64 step, .int .i64 extend, .int .i64 last, .int .i64 floor, .int .i64 fall, .int .i64 count, .int .i64 rule, .slice A ooff.length c, .int .i64 otick] (0, 0) _ (by rw [← hW1]; exact HX1.out) Tryz.underlying36 rfl (by kernel_rfl) ?_)
  rw [← hW1]
  clear hW1
  refine (HM.out W1 HB1.out).mono ?_
  rintro e W2 ⟨rfl, hR2, hc2⟩
  have hx2 := HX1.out.chg hc2 (by omega)
  have x16 : W2.cell? ⟨W.heap.size, 16, none⟩ = some (.slice A ooff.length c) := hx2.cell 16
  have f16 := hx2.frozen 16
  have HX2 := Lib.hid hx2
  have HY2 := Lib.hid (HY1.out.chg hc2 (by omega))
  have HO2 := Lib.hid (Offs.chg HO1.out hc2 fun b _ hr e => HR0.out b hr e)
  have HR2 := Lib.hid hR2
  have HC2 := Lib.hid hc2
  have hs1 := HX1.out.lt
  have hs2 := HY1.out.lt
  have hs3 := hc2.size
  clear hx2 hc2 hR2
  go_wp2_with (at_builtin; go_must (refine wpList_row _ _ _ rfl et_off rfl (.slice none 0 0) 0 [] rfl (RowAt.nil (R := fun _ => False)) (.slice A ooff.length c) ooff.length (Off.all ooff) rfl HO2.out.1 (Off.all_one ooff) (by have := HLO.out; omega) (by have := HLO.out; unfold maxLen; omega) ?_); intro A3 c3 Z hrZ hcZ; have hz5 : 0 + ooff.length = ooff.length := Nat.zero_add _; rw [List.nil_append, hz5] at hrZ; rw [hz5]; have HRZ := Lib.hid hrZ; have HCZ := Lib.hid (below_nil hcZ); have g16 := (HX2.out.grow (below_nil hcZ)).cell 16; have gf16 := (HX2.out.grow (below_nil hcZ)).frozen 16; clear hrZ hcZ hz5)
  obtain ⟨U, hU⟩ : ∃ U, U = Z.setCell ⟨W.heap.size, 16, none⟩ (.slice A3 ooff.length c3) := ⟨_, rfl⟩
  have hcU : Chg (· = W.heap.size) Z U := by rw [hU]; exact Chg.set Z ⟨W.heap.size, 16, none⟩ _
  have HXU := Lib.hid (show Ac.Blk U W.heap.size 36 #[.int .i64 okind, .string oname, .int .i64 ocoins, .int .i64 obidder, .int .i64 olot, .int .i64 kind, .int .i64 opens, .int .i64 closes, .int .i64 start, .int .i64 step, .int .i64 extend, .int .i64 last, .int .i64 floor, .int .i64 fall, .int .i64 count, .int .i64 rule, .slice A3 ooff.length c3, .int .i64 otick] by rw [hU]; exact (HX2.out.grow HCZ.out).set_ 16 _)
  have HYU := Lib.hid ((HY2.out.grow HCZ.out).chg hcU (by omega))
  have hsZ := HCZ.out.size
  have HOU := Lib.hid (show Offs U (fun b => W1.heap.size ≤ b) (.slice A3 ooff.length c3) ooff from ⟨(Sl.of_own (HRZ.out.chgB hcU fun b hb e => by have := HRZ.out.blk b hb; rcases this with h | h; exact h; omega).own).mono fun b _ hb => by have := HRZ.out.blk b hb; rcases this with h | h; exact h.elim; omega, HO2.out.2⟩)
  have HCU := Lib.hid (show Chg (· = W.heap.size) W2 U from (Chg.of _ HCZ.out).trans hcU)
  have HRU := Lib.hid (HR2.out.step HCU.out (fun b hb hr e => by rcases hr with (hr | hr) | hr <;> omega) (fun _ _ h => h) (by obtain ⟨_, _, _, _, _, _, h⟩ := HR2.out; exact h.not))
  have hs4 := HCU.out.size
  rw [← hU]
  clear hU hcU g16 gf16 x16 f16
  obtain ⟨vn, vb, vp, vl, vs, vk, hRA⟩ := HRU.out
  have r5 := hRA.cells.2.2.2.2.2.1
  have rl := hRA.blk.lt
  obtain ⟨vo, hbk, hvo⟩ := hRA.book
  obtain ⟨Ab, cb, hvk⟩ := Sl.form hbk
  subst hvk
  obtain ⟨nb, hnb⟩ : ∃ n, n = H1.book.length := ⟨_, rfl⟩
  rw [← hnb] at r5 hbk
  have HNB := Lib.hid hnb
  have HBK := Lib.hid hbk
  have HVO := Lib.hid hvo
  have HONE := Lib.hid (orderCells_one (vo := vo) fun k o hk => (hvo k o hk).1)
  have HRA := Lib.hid hRA
  have HBD := Lib.hid (show nb ≤ 1000000 by rw [hnb]; exact HBL.out)
  clear hRA hbk hvo hnb
  go_wp2_with fail
  refine wp_region_F (Below U.heap.size U) [11] (by kernel_rfl) ((Below.refl _ _).drew) (fun hS => ?_)
  refine wpAnyF_take (i := 0) (oi := ⟨some 21, .move (.tmp 0), 47, "ref.go:136", #[], none⟩) (v := ?_) rfl (by kernel_rfl) (by kernel_rfl) (by kernel_rfl) (by kernel_rfl) (fun _ _ _ h => h) (Or.inl ⟨by rfl, ?_⟩) hS ?_
  rotate_left
  · intro w' _; go_simp; try with_reducible rfl
  try simp only [Act.put, pb, pz, ps]
  refine wpAnyF_take (i := 1) (oi := ⟨some 22, .move (.tmp 0), 47, "ref.go:136", #[], none⟩) (v := ?_) rfl (by kernel_rfl) (by kernel_rfl) (by kernel_rfl) (by kernel_rfl) (fun _ _ _ h => h) (Or.inl ⟨by rfl, ?_⟩) hS ?_
  rotate_left
  · intro w' _; go_simp; try with_reducible rfl
  try simp only [Act.put, pb, pz, ps]
  refine wpAnyF_take (i := 2) (oi := ⟨some 23, .nilCheck (.tmp 22), 0, "ref.go:136", #[⟨1, .data⟩], none⟩) (v := ?_) rfl (by kernel_rfl) (by kernel_rfl) (by kernel_rfl) (by kernel_rfl) (fun _ _ _ h => h) (Or.inl ⟨by rfl, ?_⟩) hS ?_
  rotate_left
  · intro w' _; go_simp; try with_reducible rfl
  try simp only [Act.put, pb, pz, ps]
  refine wpAnyF_take (i := 3) (oi := ⟨some 24, .fieldAddr 52 (.tmp 23) 5, 0, "ref.go:136", #[⟨2, .data⟩], none⟩) (v := ?_) rfl (by kernel_rfl) (by kernel_rfl) (by kernel_rfl) (by kernel_rfl) (fun _ _ _ h => h) (Or.inl ⟨by rfl, ?_⟩) hS ?_
  rotate_left
  · intro w' _; go_simp; try with_reducible rfl
  try simp only [Act.put, pb, pz, ps]
  refine wpAnyF_take (i := 4) (oi := ⟨some 25, .load 22 (.tmp 24), 22, "ref.go:136", #[⟨3, .data⟩], none⟩) (v := ?_) rfl (by kernel_rfl) (by kernel_rfl) (by kernel_rfl) (by kernel_rfl) (fun _ _ _ h => h) (Or.inl ⟨by rfl, ?_⟩) hS ?_
  rotate_left
  · intro w' hSw; have q5 := (hSw.cell (p := ⟨r, 5, none⟩) rl).trans r5; go_simp; try with_reducible rfl
  try simp only [Act.put, pb, pz, ps]
  refine wpAnyF_take (i := 6) (oi := ⟨some 27, .load 36 (.tmp 3), 36, "ref.go:136", #[], none⟩) (v := ?_) rfl (by kernel_rfl) (by kernel_rfl) (by kernel_rfl) (by kernel_rfl) (fun _ _ _ h => h) (Or.inl ⟨by rfl, ?_⟩) hS ?_
  rotate_left
  · intro w' hSw; refine Eq.trans (exec_load_row 36 (.tmp 3) (by rfl) W.heap.size (by rfl) 36 #[.int .i64 okind, .string oname, .int .i64 ocoins, .int .i64 obidder, .int .i64 olot, .int .i64 kind, .int .i64 opens, .int .i64 closes, .int .i64 start, .int .i64 step, .int .i64 extend, .int .i64 last, .int .i64 floor, .int .i64 fall, .int .i64 count, .int .i64 rule, .slice A3 ooff.length c3, .int .i64 otick] (0, 0) _ (HXU.out.grow hSw) Tryz.underlying36 rfl (by kernel_rfl)) ?_; with_reducible rfl
  try simp only [Act.put, pb, pz, ps]
  refine wpAnyF_ready (rs := [5, 7]) (by kernel_rfl) (by simp) ?_
  refine AllReadyF.cons (o := ⟨some 26, .call { callee := .builtin .append, args := #[.const (.slice none 0 0), .tmp 25], argTypes := #[22, 22] }, 22, "ref.go:136", #[⟨4, .data⟩], none⟩) rfl (by rfl) (fun K hK => ?_) ?_
  · refine step_row _ _ _ rfl et_order rfl (.slice none 0 0) 0 [] rfl (RowAt.nil (R := fun _ => False)) (.slice Ab nb cb) nb (orderCells H1.book vo) rfl (Sl.grow HBK.out hS) (HONE.out) (by have := HBD.out; omega) (by have := HBD.out; unfold maxLen; omega) ?_
    intro A5 c5 Z5 hr5 hc5
    have hz5 : 0 + nb = nb := Nat.zero_add _
    rw [List.nil_append, hz5] at hr5
    rw [hz5]
    have HC5 := Lib.hid (below_nil hc5)
    have HR5 := Lib.hid (show RowAt Z5 (fun b => U.heap.size ≤ b) 36 18 (.slice A5 nb c5) nb (orderCells H1.book vo) from hr5.mono fun b _ hb => hb.elim False.elim fun e => by have := hS.size; omega)
    clear hr5 hc5 hz5
    refine hK.out _ _ ?_ (fun hS => ?_)
    · exact hS.trans (HC5.out.mono hS.size)
    clear hK K
    try simp only [Act.put, pb, pz, ps]
    refine wpAnyF_ready (rs := [7]) (by kernel_rfl) (by simp) ?_
    refine AllReadyF.cons (o := ⟨some 28, .buildSlice 22 1 #[(0, .tmp 27)], 22, "ref.go:136", #[⟨6, .data⟩], none⟩) rfl (by rfl) (fun K hK => ?_) ?_
    · go_simp
      refine hK.out _ _ ?_ (fun hS => ?_)
      · exact hS.alloc hS.size _
      clear hK K
      try simp only [Act.put, pb, pz, ps]
      have HL7 := Lib.hid (show Ac.Blk (Z5.alloc (.cells #[.int .i64 okind, .string oname, .int .i64 ocoins, .int .i64 obidder, .int .i64 olot, .int .i64 kind, .int .i64 opens, .int .i64 closes, .int .i64 start, .int .i64 step, .int .i64 extend, .int .i64 last, .int .i64 floor, .int .i64 fall, .int .i64 count, .int .i64 rule, .slice A3 ooff.length c3, .int .i64 otick] 36)) Z5.heap.size 36 #[.int .i64 okind, .string oname, .int .i64 ocoins, .int .i64 obidder, .int .i64 olot, .int .i64 kind, .int .i64 opens, .int .i64 closes, .int .i64 start, .int .i64 step, .int .i64 extend, .int .i64 last, .int .i64 floor, .int .i64 fall, .int .i64 count, .int .i64 rule, .slice A3 ooff.length c3, .int .i64 otick] from Blk.new Z5 _ _)
      have HR5 := Lib.hid (HR5.out.grow ((Below.refl _ _).alloc (Nat.le_refl _) (.cells #[.int .i64 okind, .string oname, .int .i64 ocoins, .int .i64 obidder, .int .i64 olot, .int .i64 kind, .int .i64 opens, .int .i64 closes, .int .i64 start, .int .i64 step, .int .i64 extend, .int .i64 last, .int .i64 floor, .int .i64 fall, .int .i64 count, .int .i64 rule, .slice A3 ooff.length c3, .int .i64 otick] 36)))
      refine wpAnyF_ready (rs := [8]) (by kernel_rfl) (by simp) ?_
      refine AllReadyF.cons (o := ⟨some 29, .call { callee := .builtin .append, args := #[.tmp 26, .tmp 28], argTypes := #[22, 22] }, 22, "ref.go:136", #[⟨5, .data⟩, ⟨7, .data⟩, ⟨5, .chain⟩], none⟩) rfl (by rfl) (fun K hK => ?_) ?_
      · refine step_row _ _ _ rfl et_order rfl (.slice A5 nb c5) nb (orderCells H1.book vo) rfl HR5.out (.slice (some ⟨Z5.heap.size, 0, none⟩) 1 1) 1 [.int .i64 okind, .string oname, .int .i64 ocoins, .int .i64 obidder, .int .i64 olot, .int .i64 kind, .int .i64 opens, .int .i64 closes, .int .i64 start, .int .i64 step, .int .i64 extend, .int .i64 last, .int .i64 floor, .int .i64 fall, .int .i64 count, .int .i64 rule, .slice A3 ooff.length c3, .int .i64 otick] rfl (Sl.lit1 HL7.out rfl) (by simp [Value.oneCell']) (by have := HBD.out; omega) (by have := HBD.out; unfold maxLen; omega) ?_
        intro A8 c8 Z8 hr8 hc8
        have HB8 := Lib.hid (show Below U.heap.size U Z8 from hS.trans (hc8.below hS.size fun b hb e => by have := HR5.out.blk b e; omega))
        have HR8 := Lib.hid (show RowAt Z8 (fun b => U.heap.size ≤ b) 36 18 (.slice A8 (nb + 1) c8) (nb + 1) (orderCells H1.book vo ++ [.int .i64 okind, .string oname, .int .i64 ocoins, .int .i64 obidder, .int .i64 olot, .int .i64 kind, .int .i64 opens, .int .i64 closes, .int .i64 start, .int .i64 step, .int .i64 extend, .int .i64 last, .int .i64 floor, .int .i64 fall, .int .i64 count, .int .i64 rule, .slice A3 ooff.length c3, .int .i64 otick]) from hr8.mono fun b _ hb => hb.elim id fun e => by have := hS.size; omega)
        clear hr8 hc8
        refine hK.out _ _ ?_ (fun hS => ?_)
        · exact HB8.out
        clear hK K
        try simp only [Act.put, pb, pz, ps]
        refine wpAnyF_takeD [10, 11] (i := 9) (oi := ⟨some 30, .nilCheck (.tmp 21), 0, "ref.go:136", #[⟨0, .data⟩, ⟨0, .phase⟩, ⟨1, .phase⟩, ⟨2, .phase⟩, ⟨3, .phase⟩, ⟨4, .phase⟩, ⟨5, .phase⟩, ⟨6, .phase⟩, ⟨7, .phase⟩, ⟨8, .phase⟩], none⟩) (v := ?_) rfl (by kernel_rfl) (by kernel_rfl) (by kernel_rfl) (by kernel_rfl) (fun _ _ _ h => h) (Or.inl ⟨by rfl, ?_⟩) hS ?_
        rotate_left
        · intro w' _; go_simp; try with_reducible rfl
        try simp only [Act.put, pb, pz, ps]
        refine wpAnyF_take (i := 10) (oi := ⟨some 31, .fieldAddr 52 (.tmp 30) 5, 0, "ref.go:136", #[⟨9, .data⟩, ⟨0, .phase⟩, ⟨1, .phase⟩, ⟨2, .phase⟩, ⟨3, .phase⟩, ⟨4, .phase⟩, ⟨5, .phase⟩, ⟨6, .phase⟩, ⟨7, .phase⟩, ⟨8, .phase⟩], none⟩) (v := ?_) rfl (by kernel_rfl) (by kernel_rfl) (by kernel_rfl) (by kernel_rfl) (fun _ _ _ h => h) (Or.inl ⟨by rfl, ?_⟩) hS ?_
        rotate_left
        · intro w' _; go_simp; try with_reducible rfl
        try simp only [Act.put, pb, pz, ps]
        refine wpAnyF_ready (rs := [11]) (by kernel_rfl) (by simp) ?_
        refine AllReadyF.fin (o := ⟨none, .store 22 (.tmp 31) (.tmp 29), 0, "ref.go:136", #[⟨10, .data⟩, ⟨8, .data⟩, ⟨8, .chain⟩, ⟨0, .phase⟩, ⟨1, .phase⟩, ⟨2, .phase⟩, ⟨3, .phase⟩, ⟨4, .phase⟩, ⟨5, .phase⟩, ⟨6, .phase⟩, ⟨7, .phase⟩, ⟨8, .phase⟩], none⟩) rfl (by rfl) (fun K hK => ?_) ?_
        · have hrz := HRA.out.blk.grow HB8.out
          have f5 := hrz.frozen 5
          have d5 := hrz.cell 5
          clear hrz
          go_simp
          refine hK.out _ _ ?_
          clear hK K
          try simp only [Act.put, pb, pz, ps]
          refine wpAnyF_done (by kernel_rfl) ?_ _
          clear hS r5 rl
          obtain ⟨V, hV⟩ : ∃ V, V = Z8.setCell ⟨r, 5, none⟩ (.slice A8 (nb + 1) c8) := ⟨_, rfl⟩
          have hcV : Chg (· = r) Z8 V := by rw [hV]; exact Chg.set Z8 ⟨r, 5, none⟩ _
          have hrV : Ac.Blk V r 52 #[vn, vb, vp, vl, vs, .slice A8 (nb + 1) c8, .int .i64 H1.now] := by rw [hV]; exact (HRA.out.blk.grow HB8.out).set_ 5 _
          have hyV := (HYU.out.grow HB8.out).chg hcV (by omega)
          have d5 : V.cell? ⟨r, 5, none⟩ = some (.slice A8 (nb + 1) c8) := hrV.cell 5
          have lr := hrV.lt
          have y0 := hyV.cell 0
          have y1 := hyV.cell 1
          have y2 := hyV.cell 2
          have yf := hyV.frozen
          have hw1 : IntKind.i64.wrap (nb : Int) = (nb : Int) := IntWalk.i64_in _ (by have := HBD.out; omega)
          have HRV := Lib.hid hrV
          have HYV := Lib.hid hyV
          have HCV := Lib.hid hcV
          rw [← hV]
          clear hV hrV hyV hcV
          go_wp2_with fail
          obtain ⟨X, hX⟩ : ∃ X, X = ((V.setCell ⟨W.heap.size + 1, 0, none⟩ (.int .i64 nb)).setCell ⟨W.heap.size + 1, 1, none⟩ (.int .i64 0)).setCell ⟨W.heap.size + 1, 2, none⟩ (.int .i64 v) := ⟨_, rfl⟩
          have hfin : Ac.Blk X (W.heap.size + 1) 27 #[.int .i64 nb, .int .i64 0, .int .i64 v] := by rw [hX]; exact ((HYV.out.set_ 0 _).set_ 1 _).set_ 2 _
          have hcX : Chg (· = W.heap.size + 1) V X := by rw [hX]; exact ((Chg.set V ⟨W.heap.size + 1, 0, none⟩ _).trans (Chg.set _ ⟨W.heap.size + 1, 1, none⟩ _)).trans (Chg.set _ ⟨W.heap.size + 1, 2, none⟩ _)
          rw [← hX]
          refine bodyPost_ret (results_cell_row rfl _ _ (W.heap.size + 1) 27 #[.int .i64 nb, .int .i64 0, .int .i64 v] (0, 0) _ rfl hfin Tryz.underlying27 rfl (by kernel_rfl)) rfl ⟨by rw [HNB.out], ?_, ?_⟩
          · have hA := HRA.out
            have hbU := HB8.out
            have hcUX : Chg (fun b => b = r ∨ b = W.heap.size + 1) U X := ((Chg.of _ hbU).step HCV.out fun b _ e => .inl e).step hcX fun b _ e => .inr e
            have hsub : ∀ b, b < U.heap.size → ((R b ∧ b < W.heap.size) ∨ W1.heap.size ≤ b) → (R b ∨ W.heap.size ≤ b) := fun b _ h => h.elim (fun h => .inl h.1) fun h => .inr (by omega)
            have hnx : ∀ b, b < U.heap.size → ((R b ∧ b < W.heap.size) ∨ W1.heap.size ≤ b) → ¬ (b = r ∨ b = W.heap.size + 1) := fun b _ h e => by
              rcases e with e | e
              · exact hA.not (e ▸ h)
              · omega
            refine ⟨vn, vb, vp, vl, vs, .slice A8 (nb + 1) c8, HRV.out.chg hcX (by omega), fun h => ?_, Sl.step hA.names hcUX hnx hsub, Sl.step hA.buds hcUX hnx hsub, Sl.step hA.spent hcUX hnx hsub, hA.lots.step hcUX hnx hsub, Sl.step hA.sales hcUX hnx hsub, ?_⟩
            · exact hA.not (h.elim (fun h => .inl ⟨h, hrl⟩) fun h => by omega)
            · refine ⟨fun k => if k = nb then .slice A3 ooff.length c3 else vo k, ?_, fun k o hk => ?_⟩
              · show Sl X _ _ (H1.book ++ [_]).length 18 (orderCells (H1.book ++ [_]) _)
                have hsn := orderCells_snoc H1.book ⟨okind, oname, ocoins, obidder, olot, ⟨kind, opens, closes, start, step, extend, last, floor, fall, count, rule⟩, ooff, otick⟩ vo (.slice A3 ooff.length c3)
                rw [← HNB.out] at hsn
                rw [hsn, List.length_append, List.length_singleton, ← HNB.out]
                exact Sl.step HR8.out.sl (HCV.out.mono (Y := fun b => b = r ∨ b = W.heap.size + 1) (fun b _ e => .inl e) |>.step hcX fun b _ e => .inr e) (fun b _ h e => by rcases e with e | e <;> omega) fun b _ h => .inr (by omega)
              · by_cases hkn : k = nb
                · subst hkn
                  have : o = ⟨okind, oname, ocoins, obidder, olot, ⟨kind, opens, closes, start, step, extend, last, floor, fall, count, rule⟩, ooff, otick⟩ := by
                    have h1 : (H1.book ++ [(⟨okind, oname, ocoins, obidder, olot, ⟨kind, opens, closes, start, step, extend, last, floor, fall, count, rule⟩, ooff, otick⟩ : OrderR)])[k]? = some o := hk
                    rw [List.getElem?_append_right (by rw [← HNB.out]; exact Nat.le_refl _), ← HNB.out] at h1
                    simpa using h1.symm
                  subst this
                  simp only [if_true]
                  exact ⟨⟨A3, c3, rfl⟩, Offs.step HOU.out hcUX (fun b hb h => hnx b hb (.inr h)) fun b _ h => .inr (by omega)⟩
                · have hk2 : H1.book[k]? = some o := by
                    have h1 : (H1.book ++ [_])[k]? = some o := hk
                    have h2 := (List.getElem?_eq_some_iff.1 h1).1
                    rw [List.length_append, ← HNB.out] at h2
                    simp at h2
                    rwa [List.getElem?_append_left (by rw [← HNB.out]; omega)] at h1
                  simp only
                  rw [if_neg hkn]
                  exact ⟨(HVO.out k o hk2).1, Offs.step (HVO.out k o hk2).2 hcUX hnx hsub⟩
          · refine ((((Chg.of (· = r) HB1.out).step HC2.out fun b _ e => e).step HCU.out fun b hb e => by omega).step (Chg.of (fun _ => False) HB8.out) fun _ _ h => h.elim).step HCV.out (fun b _ e => e) |>.step hcX fun b hb e => by omega
        exact AllReadyF.nil
      exact AllReadyF.nil
    exact AllReadyF.nil
  refine AllReadyF.cons (o := ⟨some 28, .buildSlice 22 1 #[(0, .tmp 27)], 22, "ref.go:136", #[⟨6, .data⟩], none⟩) rfl (by rfl) (fun K hK => ?_) ?_
  · go_simp
    refine hK.out _ _ ?_ (fun hS => ?_)
    · exact hS.alloc hS.size _
    clear hK K
    try simp only [Act.put, pb, pz, ps]
    have HL7 := Lib.hid (show Ac.Blk (U.drew.alloc (.cells #[.int .i64 okind, .string oname, .int .i64 ocoins, .int .i64 obidder, .int .i64 olot, .int .i64 kind, .int .i64 opens, .int .i64 closes, .int .i64 start, .int .i64 step, .int .i64 extend, .int .i64 last, .int .i64 floor, .int .i64 fall, .int .i64 count, .int .i64 rule, .slice A3 ooff.length c3, .int .i64 otick] 36)) U.heap.size 36 #[.int .i64 okind, .string oname, .int .i64 ocoins, .int .i64 obidder, .int .i64 olot, .int .i64 kind, .int .i64 opens, .int .i64 closes, .int .i64 start, .int .i64 step, .int .i64 extend, .int .i64 last, .int .i64 floor, .int .i64 fall, .int .i64 count, .int .i64 rule, .slice A3 ooff.length c3, .int .i64 otick] from Blk.new U.drew _ _)
    refine wpAnyF_ready (rs := [5]) (by kernel_rfl) (by simp) ?_
    refine AllReadyF.cons (o := ⟨some 26, .call { callee := .builtin .append, args := #[.const (.slice none 0 0), .tmp 25], argTypes := #[22, 22] }, 22, "ref.go:136", #[⟨4, .data⟩], none⟩) rfl (by rfl) (fun K hK => ?_) ?_
    · refine step_row _ _ _ rfl et_order rfl (.slice none 0 0) 0 [] rfl (RowAt.nil (R := fun _ => False)) (.slice Ab nb cb) nb (orderCells H1.book vo) rfl (Sl.grow HBK.out hS) (HONE.out) (by have := HBD.out; omega) (by have := HBD.out; unfold maxLen; omega) ?_
      intro A5 c5 Z5 hr5 hc5
      have hz5 : 0 + nb = nb := Nat.zero_add _
      rw [List.nil_append, hz5] at hr5
      rw [hz5]
      have HC5 := Lib.hid (below_nil hc5)
      have HR5 := Lib.hid (show RowAt Z5 (fun b => U.heap.size ≤ b) 36 18 (.slice A5 nb c5) nb (orderCells H1.book vo) from hr5.mono fun b _ hb => hb.elim False.elim fun e => by have := hS.size; omega)
      clear hr5 hc5 hz5
      have HL7 := Lib.hid (HL7.out.grow HC5.out)
      refine hK.out _ _ ?_ (fun hS => ?_)
      · exact hS.trans (HC5.out.mono hS.size)
      clear hK K
      try simp only [Act.put, pb, pz, ps]
      refine wpAnyF_ready (rs := [8]) (by kernel_rfl) (by simp) ?_
      refine AllReadyF.cons (o := ⟨some 29, .call { callee := .builtin .append, args := #[.tmp 26, .tmp 28], argTypes := #[22, 22] }, 22, "ref.go:136", #[⟨5, .data⟩, ⟨7, .data⟩, ⟨5, .chain⟩], none⟩) rfl (by rfl) (fun K hK => ?_) ?_
      · refine step_row _ _ _ rfl et_order rfl (.slice A5 nb c5) nb (orderCells H1.book vo) rfl HR5.out (.slice (some ⟨U.heap.size, 0, none⟩) 1 1) 1 [.int .i64 okind, .string oname, .int .i64 ocoins, .int .i64 obidder, .int .i64 olot, .int .i64 kind, .int .i64 opens, .int .i64 closes, .int .i64 start, .int .i64 step, .int .i64 extend, .int .i64 last, .int .i64 floor, .int .i64 fall, .int .i64 count, .int .i64 rule, .slice A3 ooff.length c3, .int .i64 otick] rfl (Sl.lit1 HL7.out rfl) (by simp [Value.oneCell']) (by have := HBD.out; omega) (by have := HBD.out; unfold maxLen; omega) ?_
        intro A8 c8 Z8 hr8 hc8
        have HB8 := Lib.hid (show Below U.heap.size U Z8 from hS.trans (hc8.below hS.size fun b hb e => by have := HR5.out.blk b e; omega))
        have HR8 := Lib.hid (show RowAt Z8 (fun b => U.heap.size ≤ b) 36 18 (.slice A8 (nb + 1) c8) (nb + 1) (orderCells H1.book vo ++ [.int .i64 okind, .string oname, .int .i64 ocoins, .int .i64 obidder, .int .i64 olot, .int .i64 kind, .int .i64 opens, .int .i64 closes, .int .i64 start, .int .i64 step, .int .i64 extend, .int .i64 last, .int .i64 floor, .int .i64 fall, .int .i64 count, .int .i64 rule, .slice A3 ooff.length c3, .int .i64 otick]) from hr8.mono fun b _ hb => hb.elim id fun e => by have := hS.size; omega)
        clear hr8 hc8
        refine hK.out _ _ ?_ (fun hS => ?_)
        · exact HB8.out
        clear hK K
        try simp only [Act.put, pb, pz, ps]
        refine wpAnyF_takeD [10, 11] (i := 9) (oi := ⟨some 30, .nilCheck (.tmp 21), 0, "ref.go:136", #[⟨0, .data⟩, ⟨0, .phase⟩, ⟨1, .phase⟩, ⟨2, .phase⟩, ⟨3, .phase⟩, ⟨4, .phase⟩, ⟨5, .phase⟩, ⟨6, .phase⟩, ⟨7, .phase⟩, ⟨8, .phase⟩], none⟩) (v := ?_) rfl (by kernel_rfl) (by kernel_rfl) (by kernel_rfl) (by kernel_rfl) (fun _ _ _ h => h) (Or.inl ⟨by rfl, ?_⟩) hS ?_
        rotate_left
        · intro w' _; go_simp; try with_reducible rfl
        try simp only [Act.put, pb, pz, ps]
        refine wpAnyF_take (i := 10) (oi := ⟨some 31, .fieldAddr 52 (.tmp 30) 5, 0, "ref.go:136", #[⟨9, .data⟩, ⟨0, .phase⟩, ⟨1, .phase⟩, ⟨2, .phase⟩, ⟨3, .phase⟩, ⟨4, .phase⟩, ⟨5, .phase⟩, ⟨6, .phase⟩, ⟨7, .phase⟩, ⟨8, .phase⟩], none⟩) (v := ?_) rfl (by kernel_rfl) (by kernel_rfl) (by kernel_rfl) (by kernel_rfl) (fun _ _ _ h => h) (Or.inl ⟨by rfl, ?_⟩) hS ?_
        rotate_left
        · intro w' _; go_simp; try with_reducible rfl
        try simp only [Act.put, pb, pz, ps]
        refine wpAnyF_ready (rs := [11]) (by kernel_rfl) (by simp) ?_
        refine AllReadyF.fin (o := ⟨none, .store 22 (.tmp 31) (.tmp 29), 0, "ref.go:136", #[⟨10, .data⟩, ⟨8, .data⟩, ⟨8, .chain⟩, ⟨0, .phase⟩, ⟨1, .phase⟩, ⟨2, .phase⟩, ⟨3, .phase⟩, ⟨4, .phase⟩, ⟨5, .phase⟩, ⟨6, .phase⟩, ⟨7, .phase⟩, ⟨8, .phase⟩], none⟩) rfl (by rfl) (fun K hK => ?_) ?_
        · have hrz := HRA.out.blk.grow HB8.out
          have f5 := hrz.frozen 5
          have d5 := hrz.cell 5
          clear hrz
          go_simp
          refine hK.out _ _ ?_
          clear hK K
          try simp only [Act.put, pb, pz, ps]
          refine wpAnyF_done (by kernel_rfl) ?_ _
          clear hS r5 rl
          obtain ⟨V, hV⟩ : ∃ V, V = Z8.setCell ⟨r, 5, none⟩ (.slice A8 (nb + 1) c8) := ⟨_, rfl⟩
          have hcV : Chg (· = r) Z8 V := by rw [hV]; exact Chg.set Z8 ⟨r, 5, none⟩ _
          have hrV : Ac.Blk V r 52 #[vn, vb, vp, vl, vs, .slice A8 (nb + 1) c8, .int .i64 H1.now] := by rw [hV]; exact (HRA.out.blk.grow HB8.out).set_ 5 _
          have hyV := (HYU.out.grow HB8.out).chg hcV (by omega)
          have d5 : V.cell? ⟨r, 5, none⟩ = some (.slice A8 (nb + 1) c8) := hrV.cell 5
          have lr := hrV.lt
          have y0 := hyV.cell 0
          have y1 := hyV.cell 1
          have y2 := hyV.cell 2
          have yf := hyV.frozen
          have hw1 : IntKind.i64.wrap (nb : Int) = (nb : Int) := IntWalk.i64_in _ (by have := HBD.out; omega)
          have HRV := Lib.hid hrV
          have HYV := Lib.hid hyV
          have HCV := Lib.hid hcV
          rw [← hV]
          clear hV hrV hyV hcV
          go_wp2_with fail
          obtain ⟨X, hX⟩ : ∃ X, X = ((V.setCell ⟨W.heap.size + 1, 0, none⟩ (.int .i64 nb)).setCell ⟨W.heap.size + 1, 1, none⟩ (.int .i64 0)).setCell ⟨W.heap.size + 1, 2, none⟩ (.int .i64 v) := ⟨_, rfl⟩
          have hfin : Ac.Blk X (W.heap.size + 1) 27 #[.int .i64 nb, .int .i64 0, .int .i64 v] := by rw [hX]; exact ((HYV.out.set_ 0 _).set_ 1 _).set_ 2 _
          have hcX : Chg (· = W.heap.size + 1) V X := by rw [hX]; exact ((Chg.set V ⟨W.heap.size + 1, 0, none⟩ _).trans (Chg.set _ ⟨W.heap.size + 1, 1, none⟩ _)).trans (Chg.set _ ⟨W.heap.size + 1, 2, none⟩ _)
          rw [← hX]
          refine bodyPost_ret (results_cell_row rfl _ _ (W.heap.size + 1) 27 #[.int .i64 nb, .int .i64 0, .int .i64 v] (0, 0) _ rfl hfin Tryz.underlying27 rfl (by kernel_rfl)) rfl ⟨by rw [HNB.out], ?_, ?_⟩
          · have hA := HRA.out
            have hbU := HB8.out
            have hcUX : Chg (fun b => b = r ∨ b = W.heap.size + 1) U X := ((Chg.of _ hbU).step HCV.out fun b _ e => .inl e).step hcX fun b _ e => .inr e
            have hsub : ∀ b, b < U.heap.size → ((R b ∧ b < W.heap.size) ∨ W1.heap.size ≤ b) → (R b ∨ W.heap.size ≤ b) := fun b _ h => h.elim (fun h => .inl h.1) fun h => .inr (by omega)
            have hnx : ∀ b, b < U.heap.size → ((R b ∧ b < W.heap.size) ∨ W1.heap.size ≤ b) → ¬ (b = r ∨ b = W.heap.size + 1) := fun b _ h e => by
              rcases e with e | e
              · exact hA.not (e ▸ h)
              · omega
            refine ⟨vn, vb, vp, vl, vs, .slice A8 (nb + 1) c8, HRV.out.chg hcX (by omega), fun h => ?_, Sl.step hA.names hcUX hnx hsub, Sl.step hA.buds hcUX hnx hsub, Sl.step hA.spent hcUX hnx hsub, hA.lots.step hcUX hnx hsub, Sl.step hA.sales hcUX hnx hsub, ?_⟩
            · exact hA.not (h.elim (fun h => .inl ⟨h, hrl⟩) fun h => by omega)
            · refine ⟨fun k => if k = nb then .slice A3 ooff.length c3 else vo k, ?_, fun k o hk => ?_⟩
              · show Sl X _ _ (H1.book ++ [_]).length 18 (orderCells (H1.book ++ [_]) _)
                have hsn := orderCells_snoc H1.book ⟨okind, oname, ocoins, obidder, olot, ⟨kind, opens, closes, start, step, extend, last, floor, fall, count, rule⟩, ooff, otick⟩ vo (.slice A3 ooff.length c3)
                rw [← HNB.out] at hsn
                rw [hsn, List.length_append, List.length_singleton, ← HNB.out]
                exact Sl.step HR8.out.sl (HCV.out.mono (Y := fun b => b = r ∨ b = W.heap.size + 1) (fun b _ e => .inl e) |>.step hcX fun b _ e => .inr e) (fun b _ h e => by rcases e with e | e <;> omega) fun b _ h => .inr (by omega)
              · by_cases hkn : k = nb
                · subst hkn
                  have : o = ⟨okind, oname, ocoins, obidder, olot, ⟨kind, opens, closes, start, step, extend, last, floor, fall, count, rule⟩, ooff, otick⟩ := by
                    have h1 : (H1.book ++ [(⟨okind, oname, ocoins, obidder, olot, ⟨kind, opens, closes, start, step, extend, last, floor, fall, count, rule⟩, ooff, otick⟩ : OrderR)])[k]? = some o := hk
                    rw [List.getElem?_append_right (by rw [← HNB.out]; exact Nat.le_refl _), ← HNB.out] at h1
                    simpa using h1.symm
                  subst this
                  simp only [if_true]
                  exact ⟨⟨A3, c3, rfl⟩, Offs.step HOU.out hcUX (fun b hb h => hnx b hb (.inr h)) fun b _ h => .inr (by omega)⟩
                · have hk2 : H1.book[k]? = some o := by
                    have h1 : (H1.book ++ [_])[k]? = some o := hk
                    have h2 := (List.getElem?_eq_some_iff.1 h1).1
                    rw [List.length_append, ← HNB.out] at h2
                    simp at h2
                    rwa [List.getElem?_append_left (by rw [← HNB.out]; omega)] at h1
                  simp only
                  rw [if_neg hkn]
                  exact ⟨(HVO.out k o hk2).1, Offs.step (HVO.out k o hk2).2 hcUX hnx hsub⟩
          · refine ((((Chg.of (· = r) HB1.out).step HC2.out fun b _ e => e).step HCU.out fun b hb e => by omega).step (Chg.of (fun _ => False) HB8.out) fun _ _ h => h.elim).step HCV.out (fun b _ e => e) |>.step hcX fun b hb e => by omega
        exact AllReadyF.nil
      exact AllReadyF.nil
    exact AllReadyF.nil
  exact AllReadyF.nil
end Go.Proofs.YthoaidfpgijbfaaGreat.Ho
namespace Go.Proofs.YthoaidfpgijbfaaGreat.Ho
open Go.RowKit
open Go.Proofs.YthoaidfpgijbfaaGreat.Vb Go.Proofs.YthoaidfpgijbfaaGreat.Ac
theorem et_sales : ElemT Tryz.prog 38 44 7 56 := elemT_of Tryz.underlying38 (by omega) (z := .agg #[.int .i64 0, .int .i64 0, .int .i64 0, .int .i64 0, .int .u32 0, .int .i64 0, .int .i64 0]) (by kernel_rfl) rfl
theorem StandsAt.form {W : World} {T : Nat → Part} {R : Nat → Prop} {v : Value} {ss : List Stand} (h : StandsAt W T R v ss) : ∃ A c, v = .slice A ss.length c := by
  obtain ⟨_, h, _⟩ := h
  exact h.form
theorem sl_sale {W : World} {R : Nat → Prop} {A : Option Addr} {n c : Nat} {ss : List SaleR} (h : Sl W R (.slice A n c) n 7 (ss.flatMap SaleR.cells)) {k : Nat} {s : SaleR} (hk : ss[k]? = some s) (hkn : k < n) :
    ∃ b off, A = some ⟨b, off, none⟩ ∧ R b ∧ b < W.heap.size ∧ ∀ i u, s.cells[i]? = some u → W.cell? ⟨b, off + k * 7 + i, none⟩ = some u := by
  obtain ⟨_, A', c', hv, _, _, hcs⟩ := h
  injection hv with hA _ _
  subst hA
  obtain ⟨b, off, hA, hR, hlt2, hcc⟩ := hcs (by omega)
  refine ⟨b, off, hA, hR, hlt2, fun i u hu => ?_⟩
  rw [show off + k * 7 + i = off + (k * 7 + i) by omega]
  have hi : i < 7 := by
    have := (List.getElem?_eq_some_iff.1 hu).1
    simpa [SaleR.cells] using this
  exact hcc _ _ ((saleCells_at hk hi).trans hu)
theorem take_one {b m n : Nat} {a : Acc} {w : World} (h : AccAt w b m n a) (ho : a.Ok) (v : Int) : Calls Tryz.prog 135 #[.pointer (some ⟨b, 0, none⟩), .int .i64 v] w fun e w' =>
    (∃ er, e = .returned (.int .i64 er)) ∧ AccAt w' b m n (takeA a v) ∧ Chg (· = b) w w' := by
  refine (take_live h ho (v := v)).mono ?_
  rintro e w' (⟨h1, rfl, hb⟩ | ⟨h1, rfl, hA, hc⟩)
  · refine ⟨⟨_, rfl⟩, ?_, Chg.of _ hb⟩
    rw [takeA, if_neg h1]; exact h.grow hb
  · refine ⟨⟨_, rfl⟩, ?_, hc⟩
    rw [takeA, if_pos h1]; exact hA
def midH (H : House) (j : Nat) (l : LotS) (sales : List SaleR) (k : Nat) : House :=
  { H with accs := payAll (relAll j H.accs l.stands) (sales.take k), sales := H.sales ++ (sales.take k).map (stampS H j) }
set_option maxRecDepth 100000 in
set_option maxHeartbeats 8000000 in
theorem hclose_any {W : World} {T : Nat → Part} {h pn pc K : Nat} {va vl vb vs : Value} {H : House} (hH : HouseAt W T h pn pc va vl vb vs K H) {j : Nat} {l : LotS} (hl : H.lots[j]? = some l) (hst : ∀ s ∈ l.stands, 0 ≤ s.bidder ∧ s.bidder < H.accs.length)
    {sales : List SaleR} {R : Nat → Prop} {A : Option Addr} {c : Nat} (hx : Sl W R (.slice A sales.length c) sales.length 7 (sales.flatMap SaleR.cells)) (hR : ∀ b, R b → T b = .no) (hsa : ∀ s ∈ sales, 0 ≤ s.bidder ∧ s.bidder < H.accs.length)
    (hok : AccsOk H.accs) (hK : K + l.stands.length < maxLen) (hsm : H.sales.length + sales.length ≤ 1000000) (hjm : j ≤ 4096) :
    Calls Tryz.prog 90 #[.pointer (some ⟨h, 0, none⟩), .int .i64 j, .slice A sales.length c] W fun e W' => e = .returned (.tuple #[]) ∧ ∃ T', HouseIn W' T' h (K + l.stands.length) (closeH H j l sales) ∧ Moves W T W' T' := by
  obtain ⟨bl, hrow, hls⟩ := hH.lots
  have hjl := (List.getElem?_eq_some_iff.1 hl).1
  have c2 := hH.cells.2.2.1
  have hh := hH.cells.2.2.2.2.2.2
  obtain ⟨q, cap, hvl, _, hq, _⟩ := hrow.ex (by omega)
  have q0 : W.cell? ⟨q, j, none⟩ = some (.pointer (some ⟨bl j, 0, none⟩)) := by
    have := hrow.own
    rw [hvl] at this
    exact (this.cellAt j (by omega)).trans (ptrs_at hjl)
  rw [hvl] at c2
  obtain ⟨v, hTb, hblk, hsta⟩ := hls j l hl
  obtain ⟨sA, sc, hsv⟩ := hsta.form
  subst hsv
  have l14 : W.cell? ⟨bl j, 14, none⟩ = some (.slice sA l.stands.length sc) := hblk.cell 14
  have lb := hblk.lt
  have e1 : (0 : Int) ≤ (j : Int) := by omega
  obtain ⟨nl, hnl⟩ : ∃ z, z = H.lots.length := ⟨_, rfl⟩
  rw [← hnl] at c2 hjl
  have e2 : (j : Int) < (nl : Int) := by omega
  obtain ⟨n, hn⟩ : ∃ z, z = l.stands.length := ⟨_, rfl⟩
  obtain ⟨m, hm⟩ : ∃ z, z = sales.length := ⟨_, rfl⟩
  rw [← hn] at l14 hK hsta ⊢
  rw [← hm] at hx hsm ⊢
  have HH := Lib.hid hH
  have HL := Lib.hid hl
  have HST := Lib.hid hst
  have HX := Lib.hid hx
  have HRN := Lib.hid hR
  have HSA := Lib.hid hsa
  have HOK := Lib.hid hok
  have HK := Lib.hid hK
  have HSM := Lib.hid hsm
  have HJM := Lib.hid hjm
  have HROW := Lib.hid hrow
  have HLS := Lib.hid hls
  have HVL := Lib.hid hvl
  have HN := Lib.hid hn
  have HM := Lib.hid hm
  have HNL := Lib.hid hnl
  have HSTA := Lib.hid hsta
  have HTB := Lib.hid hTb
  have HBLK := Lib.hid hblk
  clear hH hl hst hx hR hsa hok hK hsm hjm hrow hls hvl hn hm hnl hsta hTb hblk hjl
  go_enter Tryz.func90, Tryz.ntmps90
  go_wp2_with fail
  have e4 : (0 : Int) ≤ (n : Int) := by omega
  go_loopw [24] (fun i wr => ∃ k : Nat, k ≤ n ∧ i = .int .i64 k ∧ AccsAt wr T va (K + k) (relAll j H.accs (l.stands.take k)) ∧ Chg (fun b => ∃ i, T b = .acc i) W wr) (fun i _ => n - (intOf i).toNat)
  case atStart => exact ⟨0, Nat.zero_le _, rfl, HH.out.accs, Chg.refl _ _⟩
  case round =>
    obtain ⟨k, hk, rfl, hac, hc⟩ := hrel
    by_cases hlt : k < n
    · obtain ⟨s, hs⟩ : ∃ s, l.stands[k]? = some s := ⟨_, List.getElem?_eq_getElem (by rw [← HN.out]; exact hlt)⟩
      have hsm := List.mem_of_getElem? hs
      obtain ⟨sq, scap, uA, uc, hsv, _, hsq, d0, d1, d2, _⟩ := StandsAt.at_ (HSTA.out.step (T' := T) hc (fun x hx => by rcases hx with e | e <;> rintro ⟨i, k⟩ <;> rw [e] at k <;> cases k) fun _ _ => rfl) hs
      injection hsv with hv1 hv2 hv3
      subst hv1 hv3
      clear hv2
      have e5 : (0 : Int) ≤ (k : Int) := by omega
      have e6 : (k : Int) < (n : Int) := by omega
      have hb := HST.out s hsm
      obtain ⟨i, hi⟩ : ∃ i : Nat, s.bidder = i := ⟨s.bidder.toNat, by omega⟩
      rw [hi] at d0 hb
      have hil : i < H.accs.length := by omega
      obtain ⟨acs, hacs⟩ : ∃ z, z = relAll j H.accs (l.stands.take k) := ⟨_, rfl⟩
      have hlen : acs.length = H.accs.length := by rw [hacs]; exact relAll_len _ _ _
      have hnx : relAll j H.accs (l.stands.take (k + 1)) = relAcc j acs s := by rw [take_succ' hs, relAll_snoc, ← hacs]
      rw [← hacs] at hac
      obtain ⟨a, ha⟩ : ∃ a, acs[i]? = some a := ⟨_, List.getElem?_eq_getElem (by omega)⟩
      have hnx2 : relAcc j acs s = acs.set i (a.set j 0) := by unfold relAcc; rw [hi]; exact modify_set _ ha
      obtain ⟨ba, ma, hro, has⟩ := hac
      obtain ⟨g, gcap, hva, _, hg, _⟩ := hro.ex (by omega)
      have g0 : wr.cell? ⟨g, i, none⟩ = some (.pointer (some ⟨ba i, 0, none⟩)) := by
        have := hro.own
        rw [hva] at this
        exact (this.cellAt i (by omega)).trans (ptrs_at (by omega))
      have c1 : wr.cell? ⟨h, 1, none⟩ = some va := (hc.cell (p := ⟨h, 1, none⟩) hh (fun ⟨i, e⟩ => by have := HH.out.top; rw [this] at e; cases e)).trans HH.out.cells.2.1
      rw [hva] at c1
      obtain ⟨na, hna⟩ : ∃ z, z = acs.length := ⟨_, rfl⟩
      rw [← hna] at c1
      have e7 : (0 : Int) ≤ (i : Int) := by omega
      have e8 : (i : Int) < (na : Int) := by omega
      have hhr : h < wr.heap.size := Nat.lt_of_lt_of_le hh hc.size
      have HC := Lib.hid hc
      have HNX := Lib.hid (hnx.trans hnx2)
      have HAC := Lib.hid (has i a ha)
      have HAS := Lib.hid has
      have HRO := Lib.hid hro
      have HVA := Lib.hid hva
      have HIL := Lib.hid (show i < acs.length by omega)
      clear hc hs hsm hi hb hil hacs hlen hnx hnx2 ha hro has hva hna
      obtain ⟨sh, hsh⟩ : ∃ z, z = s.held := ⟨_, rfl⟩
      rw [← hsh] at d2
      obtain ⟨un, hun⟩ : ∃ z, z = s.offers.length := ⟨_, rfl⟩
      rw [← hun] at d1
      clear hsh hun
      obtain ⟨w1, hw1⟩ : ∃ w1, w1 = wr.alloc (.cells #[.int .i64 i, .slice uA un uc, .int .i64 sh] 103) := ⟨_, rfl⟩
      have hb1 : Below wr.heap.size wr w1 := by rw [hw1]; exact (Below.refl _ _).alloc (Nat.le_refl _) _
      have HB1 := Lib.hid hb1
      have x0 : w1.cell? ⟨wr.heap.size, 0, none⟩ = some (.int .i64 i) := by
        have : Blk w1 wr.heap.size 103 #[.int .i64 i, .slice uA un uc, .int .i64 sh] := by rw [hw1]; exact Blk.new _ _ _
        exact this.cell 0
      have xl : wr.heap.size < w1.heap.size := by rw [hw1]; simp
      have g1 : w1.cell? ⟨g, i, none⟩ = some (.pointer (some ⟨ba i, 0, none⟩)) := (hb1.cell (p := ⟨g, i, none⟩) hg).trans g0
      have gl1 : g < w1.heap.size := Nat.lt_of_lt_of_le hg hb1.size
      have c11 : w1.cell? ⟨h, 1, none⟩ = some (.slice (some ⟨g, 0, none⟩) na gcap) := (hb1.cell (p := ⟨h, 1, none⟩) hhr).trans c1
      have hh1 : h < w1.heap.size := Nat.lt_of_lt_of_le hhr hb1.size
      clear hb1 g0 c1 hhr hg
      go_wp2_with fail
      rw [← hw1]
      clear hw1
      refine wp_region_F (Below w1.heap.size w1) [10] (by kernel_rfl) ((Below.refl _ _).drew) (fun hS => ?_)
      refine wpAnyF_takeD [1, 2, 3, 4, 7, 8, 10] (i := 0) (oi := ⟨some 28, .move (.tmp 0), 23, "house.go:213", #[], none⟩) (v := ?_) rfl (by kernel_rfl) (by kernel_rfl) (by kernel_rfl) (by kernel_rfl) (fun _ _ _ h => h) (Or.inl ⟨by rfl, ?_⟩) hS ?_
      rotate_left
      · intro w' _; go_simp; try with_reducible rfl
      try simp only [Act.put, pb, pz, ps]
      refine wpAnyF_takeD [2, 3, 4, 7, 8, 10] (i := 1) (oi := ⟨some 29, .nilCheck (.tmp 28), 0, "house.go:213", #[⟨0, .data⟩], none⟩) (v := ?_) rfl (by kernel_rfl) (by kernel_rfl) (by kernel_rfl) (by kernel_rfl) (fun _ _ _ h => h) (Or.inl ⟨by rfl, ?_⟩) hS ?_
      rotate_left
      · intro w' _; go_simp; try with_reducible rfl
      try simp only [Act.put, pb, pz, ps]
      refine wpAnyF_takeD [3, 4, 7, 8, 10] (i := 2) (oi := ⟨some 30, .fieldAddr 92 (.tmp 29) 0, 0, "house.go:213", #[⟨1, .data⟩], none⟩) (v := ?_) rfl (by kernel_rfl) (by kernel_rfl) (by kernel_rfl) (by kernel_rfl) (fun _ _ _ h => h) (Or.inl ⟨by rfl, ?_⟩) hS ?_
      rotate_left
      · intro w' _; go_simp; try with_reducible rfl
      try simp only [Act.put, pb, pz, ps]
      refine wpAnyF_takeD [4, 7, 8, 10] (i := 3) (oi := ⟨some 31, .fieldAddr 90 (.tmp 30) 1, 0, "house.go:213", #[⟨2, .data⟩], none⟩) (v := ?_) rfl (by kernel_rfl) (by kernel_rfl) (by kernel_rfl) (by kernel_rfl) (fun _ _ _ h => h) (Or.inl ⟨by rfl, ?_⟩) hS ?_
      rotate_left
      · intro w' _; go_simp; try with_reducible rfl
      try simp only [Act.put, pb, pz, ps]
      refine wpAnyF_takeD [7, 8, 10] (i := 4) (oi := ⟨some 32, .load 87 (.tmp 31), 87, "house.go:213", #[⟨3, .data⟩], none⟩) (v := ?_) rfl (by kernel_rfl) (by kernel_rfl) (by kernel_rfl) (by kernel_rfl) (fun _ _ _ h => h) (Or.inl ⟨by rfl, ?_⟩) hS ?_
      rotate_left
      · intro w' hSw; have q0 := (hSw.cell (p := ⟨wr.heap.size, 0, none⟩) xl).trans x0; have q1 := (hSw.cell (p := ⟨h, 1, none⟩) hh1).trans c11; have q2 := (hSw.cell (p := ⟨g, i, none⟩) gl1).trans g1; go_simp; try with_reducible rfl
      try simp only [Act.put, pb, pz, ps]
      refine wpAnyF_takeD [6, 7, 8, 10] (i := 5) (oi := ⟨some 33, .fieldAddr 103 (.tmp 8) 0, 0, "house.go:213", #[], none⟩) (v := ?_) rfl (by kernel_rfl) (by kernel_rfl) (by kernel_rfl) (by kernel_rfl) (fun _ _ _ h => h) (Or.inl ⟨by rfl, ?_⟩) hS ?_
      rotate_left
      · intro w' _; go_simp; try with_reducible rfl
      try simp only [Act.put, pb, pz, ps]
      refine wpAnyF_takeD [7, 8, 10] (i := 6) (oi := ⟨some 34, .load 3 (.tmp 33), 3, "house.go:213", #[⟨5, .data⟩], none⟩) (v := ?_) rfl (by kernel_rfl) (by kernel_rfl) (by kernel_rfl) (by kernel_rfl) (fun _ _ _ h => h) (Or.inl ⟨by rfl, ?_⟩) hS ?_
      rotate_left
      · intro w' hSw; have q0 := (hSw.cell (p := ⟨wr.heap.size, 0, none⟩) xl).trans x0; have q1 := (hSw.cell (p := ⟨h, 1, none⟩) hh1).trans c11; have q2 := (hSw.cell (p := ⟨g, i, none⟩) gl1).trans g1; go_simp; try with_reducible rfl
      try simp only [Act.put, pb, pz, ps]
      refine wpAnyF_takeD [8, 10] (i := 7) (oi := ⟨some 35, .indexAddr 87 (.tmp 32) (.tmp 34), 0, "house.go:213", #[⟨4, .data⟩, ⟨6, .data⟩], none⟩) (v := ?_) rfl (by kernel_rfl) (by kernel_rfl) (by kernel_rfl) (by kernel_rfl) (fun _ _ _ h => h) (Or.inl ⟨by rfl, ?_⟩) hS ?_
      rotate_left
      · intro w' _; go_simp; try with_reducible rfl
      try simp only [Act.put, pb, pz, ps]
      refine wpAnyF_take (i := 8) (oi := ⟨some 36, .load 133 (.tmp 35), 133, "house.go:213", #[⟨7, .data⟩], none⟩) (v := ?_) rfl (by kernel_rfl) (by kernel_rfl) (by kernel_rfl) (by kernel_rfl) (fun _ _ _ h => h) (Or.inl ⟨by rfl, ?_⟩) hS ?_
      rotate_left
      · intro w' hSw; have q0 := (hSw.cell (p := ⟨wr.heap.size, 0, none⟩) xl).trans x0; have q1 := (hSw.cell (p := ⟨h, 1, none⟩) hh1).trans c11; have q2 := (hSw.cell (p := ⟨g, i, none⟩) gl1).trans g1; go_simp; try with_reducible rfl
      try simp only [Act.put, pb, pz, ps]
      refine wpAnyF_take (i := 9) (oi := ⟨some 37, .move (.tmp 1), 3, "house.go:213", #[], none⟩) (v := ?_) rfl (by kernel_rfl) (by kernel_rfl) (by kernel_rfl) (by kernel_rfl) (fun _ _ _ h => h) (Or.inl ⟨by rfl, ?_⟩) hS ?_
      rotate_left
      · intro w' _; go_simp; try with_reducible rfl
      try simp only [Act.put, pb, pz, ps]
      refine wpAnyF_ready (rs := [10]) (by kernel_rfl) (by simp) ?_
      refine AllReadyF.fin (o := ⟨some 38, .call { callee := .value (.func 88), args := #[.tmp 36, .tmp 37], argTypes := #[133, 3] }, 97, "house.go:213", #[⟨8, .data⟩, ⟨9, .data⟩], none⟩) rfl (by rfl) (fun K hK => ?_) ?_
      · go_simp
        refine (release_live (w := w1.drew) (((HAC.out.1.grow HB1.out)).grow (Below.refl _ _).drew) (by have := HK.out; omega) (x := (j : Int)) (by have := HJM.out; omega)).mono ?_
        rintro e W3 (⟨h1, _⟩ | ⟨_, rfl, hA3, hc3⟩)
        · omega
        have HA3 := Lib.hid hA3
        have HC3 := Lib.hid hc3
        clear hA3 hc3
        refine hK.out _ _ ?_
        clear hK K
        try simp only [Act.put, pb, pz, ps]
        refine wpAnyF_done (by kernel_rfl) ?_ _
        clear hS x0 g1 c11 xl gl1 hh1
        have hwr : IntKind.i64.wrap ((k : Int) + 1) = (k : Int) + 1 := IntWalk.i64_in _ (by have := HK.out; unfold maxLen at this; omega)
        go_wp2_with fail
        go_roundw
        case rel =>
          refine ⟨k + 1, by omega, by go_num, ?_, ?_⟩
          · have hcB : Chg (fun b => T b = .acc i) wr W3 := ((Chg.of _ HB1.out).grow (Below.refl _ _).drew).step HC3.out fun b _ e => e ▸ HAC.out.2.2
            rw [HNX.out]
            exact accs_upd HRO.out HAS.out HIL.out (by omega) HA3.out hcB
          · exact ((HC.out.grow HB1.out).grow (Below.refl _ _).drew).step HC3.out fun b _ e => ⟨i, e ▸ HAC.out.2.2⟩
        case measure => simp [intOf]; omega
      exact AllReadyF.nil
    · obtain rfl : k = n := by omega
      have hall : l.stands.take k = l.stands := List.take_of_length_le (by have := HN.out; omega)
      rw [hall] at hac
      have h0 : HouseAt wr T h pn pc va vl vb vs (K + k) (midH H j l sales 0) := by
        have := house_accs HH.out hac hc
        simpa [midH, payAll] using this
      have HH0 := Lib.hid h0
      have HC0 := Lib.hid (hc.mono (Y := fun b => T b = .sales ∨ T b = .hs ∨ ∃ i, T b = .acc i) fun b _ e => .inr (.inr e))
      clear hall h0 hac hc hk hlt
      go_wp2_with fail
      have e9 : (0 : Int) ≤ (m : Int) := by omega
      go_loopw [42] (fun i wz => ∃ q : Nat, q ≤ m ∧ i = .int .i64 q ∧ ∃ Tk vsk, HouseAt wz Tk h pn pc va vl vb vsk (K + k) (midH H j l sales q) ∧ Chg (fun b => T b = .sales ∨ T b = .hs ∨ ∃ i, T b = .acc i) W wz ∧ ∀ b, b < W.heap.size → Tk b = T b) (fun i _ => m - (intOf i).toNat)
      case atStart => exact ⟨0, Nat.zero_le _, rfl, T, vs, HH0.out, HC0.out, fun _ _ => rfl⟩
      case round =>
        obtain ⟨x, hx, rfl, Tk, vsk, hA, hc, hT⟩ := hrel
        by_cases hlt : x < m
        · obtain ⟨s, hs⟩ : ∃ s, sales[x]? = some s := ⟨_, List.getElem?_eq_getElem (by rw [← HM.out]; exact hlt)⟩
          have hsm := List.mem_of_getElem? hs
          have hno : ∀ b, b < W.heap.size → R b → ¬ (T b = .sales ∨ T b = .hs ∨ ∃ i, T b = .acc i) := by
            rintro b _ hr (k | k | ⟨i, k⟩) <;> rw [HRN.out b hr] at k <;> cases k
          obtain ⟨xb, off, rfl, _, hxb, hcc⟩ := sl_sale (HX.out.keep hc.size fun b hb hr => hc.block b hb (hno b hb hr)) hs hlt
          have hb := HSA.out s hsm
          obtain ⟨i, hi⟩ : ∃ i : Nat, s.bidder = i := ⟨s.bidder.toNat, by omega⟩
          have d0 : wr.cell? ⟨xb, off + x * 7, none⟩ = some (.int .i64 s.number) := hcc 0 _ rfl
          have d1 : wr.cell? ⟨xb, off + x * 7 + 1, none⟩ = some (.int .i64 s.lot) := hcc 1 _ rfl
          have d2 : wr.cell? ⟨xb, off + x * 7 + 2, none⟩ = some (.int .i64 s.bidder) := hcc 2 _ rfl
          have d3 : wr.cell? ⟨xb, off + x * 7 + 3, none⟩ = some (.int .i64 s.coins) := hcc 3 _ rfl
          have d4 : wr.cell? ⟨xb, off + x * 7 + 4, none⟩ = some (.int .u32 s.goods) := hcc 4 _ rfl
          have d5 : wr.cell? ⟨xb, off + x * 7 + 5, none⟩ = some (.int .i64 s.count) := hcc 5 _ rfl
          have d6 : wr.cell? ⟨xb, off + x * 7 + 6, none⟩ = some (.int .i64 s.tick) := hcc 6 _ rfl
          rw [hi] at hb d2
          obtain ⟨M1, hM1⟩ : ∃ z, z = midH H j l sales x := ⟨_, rfl⟩
          have hMn : midH H j l sales (x + 1) = { M1 with accs := payAcc M1.accs s, sales := M1.sales ++ [stampS H j s] } := by
            rw [hM1]; unfold midH; rw [take_succ' hs, payAll_snoc, List.map_append, List.append_assoc]; rfl
          have hlen : M1.accs.length = H.accs.length := by rw [hM1]; exact (payAll_len _ _).trans (relAll_len _ _ _)
          have hokM : AccsOk M1.accs := by rw [hM1]; exact payAll_ok _ _ (relAll_ok (by have := HJM.out; omega) _ _ HOK.out)
          have hbk : M1.book = H.book ∧ M1.now = H.now := by rw [hM1]; exact ⟨rfl, rfl⟩
          have hsl : M1.sales.length = H.sales.length + x := by rw [hM1]; simp [midH]; have := HM.out; omega
          rw [← hM1] at hA
          obtain ⟨a, ha⟩ : ∃ a, M1.accs[i]? = some a := ⟨_, List.getElem?_eq_getElem (by omega)⟩
          have hpa : payAcc M1.accs s = M1.accs.set i (takeA a s.coins) := by unfold payAcc; rw [hi]; exact modify_set _ ha
          obtain ⟨ba, ma, hro, has⟩ := hA.accs
          obtain ⟨g, gcap, hva, _, hg, _⟩ := hro.ex (by omega)
          have g0 : wr.cell? ⟨g, i, none⟩ = some (.pointer (some ⟨ba i, 0, none⟩)) := by
            have := hro.own
            rw [hva] at this
            exact (this.cellAt i (by omega)).trans (ptrs_at (by omega))
          have c1 := hA.cells.2.1
          rw [hva] at c1
          obtain ⟨na, hna⟩ : ∃ z, z = M1.accs.length := ⟨_, rfl⟩
          rw [← hna] at c1
          have e7 : (0 : Int) ≤ (i : Int) := by omega
          have e8 : (i : Int) < (na : Int) := by omega
          have e5 : (0 : Int) ≤ (x : Int) := by omega
          have e6 : (x : Int) < (m : Int) := by omega
          have hhr := hA.cells.2.2.2.2.2.2
          have HA := Lib.hid hA
          have HC := Lib.hid hc
          have HT := Lib.hid hT
          have HMN := Lib.hid (hMn.trans (by rw [hpa]))
          have HAC := Lib.hid (has i a ha)
          have HAO := Lib.hid (hokM a (List.mem_of_getElem? ha)).1
          have HAS := Lib.hid has
          have HRO := Lib.hid hro
          have HIL := Lib.hid (show i < M1.accs.length by omega)
          have HBK := Lib.hid hbk
          have HSL := Lib.hid hsl
          have HSB := Lib.hid hi
          obtain ⟨tn, hnu⟩ : ∃ z, z = s.number := ⟨_, rfl⟩
          obtain ⟨tl, hlo⟩ : ∃ z, z = s.lot := ⟨_, rfl⟩
          obtain ⟨tc, hco⟩ : ∃ z, z = s.coins := ⟨_, rfl⟩
          obtain ⟨tg, hgo⟩ : ∃ z, z = s.goods := ⟨_, rfl⟩
          obtain ⟨tt, hct⟩ : ∃ z, z = s.count := ⟨_, rfl⟩
          obtain ⟨tk, htk⟩ : ∃ z, z = s.tick := ⟨_, rfl⟩
          rw [← hnu] at d0
          rw [← hlo] at d1
          rw [← hco] at d3
          rw [← hgo] at d4
          rw [← hct] at d5
          rw [← htk] at d6
          have HCO := Lib.hid hco
          have HGO := Lib.hid hgo
          have HCT := Lib.hid hct
          clear hA hc hT hs hsm hno hcc hb hi hM1 hMn hlen hokM hbk hsl ha hpa hro has hva hna hnu hlo hco hgo hct htk
          obtain ⟨w1, hw1⟩ : ∃ w1, w1 = wr.alloc (.cells #[.int .i64 tn, .int .i64 tl, .int .i64 i, .int .i64 tc, .int .u32 tg, .int .i64 tt, .int .i64 tk] 44) := ⟨_, rfl⟩
          have hb1 : Below wr.heap.size wr w1 := by rw [hw1]; exact (Below.refl _ _).alloc (Nat.le_refl _) _
          have HB1 := Lib.hid hb1
          have HX1 := Lib.hid (show Blk w1 wr.heap.size 44 #[.int .i64 tn, .int .i64 tl, .int .i64 i, .int .i64 tc, .int .u32 tg, .int .i64 tt, .int .i64 tk] by rw [hw1]; exact Blk.new _ _ _)
          have x2 : w1.cell? ⟨wr.heap.size, 2, none⟩ = some (.int .i64 i) := HX1.out.cell 2
          have x3 : w1.cell? ⟨wr.heap.size, 3, none⟩ = some (.int .i64 tc) := HX1.out.cell 3
          have xl := HX1.out.lt
          have g1 : w1.cell? ⟨g, i, none⟩ = some (.pointer (some ⟨ba i, 0, none⟩)) := (hb1.cell (p := ⟨g, i, none⟩) hg).trans g0
          have gl1 : g < w1.heap.size := Nat.lt_of_lt_of_le hg hb1.size
          have c11 : w1.cell? ⟨h, 1, none⟩ = some (.slice (some ⟨g, 0, none⟩) na gcap) := (hb1.cell (p := ⟨h, 1, none⟩) hhr).trans c1
          have hh1 : h < w1.heap.size := Nat.lt_of_lt_of_le hhr hb1.size
          clear hb1 g0 c1 hhr hg
          go_wp2_with fail
          rw [← hw1]
          clear hw1
          refine wp_region_F (Below w1.heap.size w1) [11] (by kernel_rfl) ((Below.refl _ _).drew) (fun hS => ?_)
          refine wpAnyF_takeD [1, 2, 3, 4, 7, 8, 11] (i := 0) (oi := ⟨some 46, .move (.tmp 0), 23, "house.go:216", #[], none⟩) (v := ?_) rfl (by kernel_rfl) (by kernel_rfl) (by kernel_rfl) (by kernel_rfl) (fun _ _ _ h => h) (Or.inl ⟨by rfl, ?_⟩) hS ?_
          rotate_left
          · intro w' _; go_simp; try with_reducible rfl
          try simp only [Act.put, pb, pz, ps]
          refine wpAnyF_takeD [2, 3, 4, 7, 8, 11] (i := 1) (oi := ⟨some 47, .nilCheck (.tmp 46), 0, "house.go:216", #[⟨0, .data⟩], none⟩) (v := ?_) rfl (by kernel_rfl) (by kernel_rfl) (by kernel_rfl) (by kernel_rfl) (fun _ _ _ h => h) (Or.inl ⟨by rfl, ?_⟩) hS ?_
          rotate_left
          · intro w' _; go_simp; try with_reducible rfl
          try simp only [Act.put, pb, pz, ps]
          refine wpAnyF_takeD [3, 4, 7, 8, 11] (i := 2) (oi := ⟨some 48, .fieldAddr 92 (.tmp 47) 0, 0, "house.go:216", #[⟨1, .data⟩], none⟩) (v := ?_) rfl (by kernel_rfl) (by kernel_rfl) (by kernel_rfl) (by kernel_rfl) (fun _ _ _ h => h) (Or.inl ⟨by rfl, ?_⟩) hS ?_
          rotate_left
          · intro w' _; go_simp; try with_reducible rfl
          try simp only [Act.put, pb, pz, ps]
          refine wpAnyF_takeD [4, 7, 8, 11] (i := 3) (oi := ⟨some 49, .fieldAddr 90 (.tmp 48) 1, 0, "house.go:216", #[⟨2, .data⟩], none⟩) (v := ?_) rfl (by kernel_rfl) (by kernel_rfl) (by kernel_rfl) (by kernel_rfl) (fun _ _ _ h => h) (Or.inl ⟨by rfl, ?_⟩) hS ?_
          rotate_left
          · intro w' _; go_simp; try with_reducible rfl
          try simp only [Act.put, pb, pz, ps]
          refine wpAnyF_takeD [7, 8, 11] (i := 4) (oi := ⟨some 50, .load 87 (.tmp 49), 87, "house.go:216", #[⟨3, .data⟩], none⟩) (v := ?_) rfl (by kernel_rfl) (by kernel_rfl) (by kernel_rfl) (by kernel_rfl) (fun _ _ _ h => h) (Or.inl ⟨by rfl, ?_⟩) hS ?_
          rotate_left
          · intro w' hSw; have q0 := (hSw.cell (p := ⟨wr.heap.size, 2, none⟩) xl).trans x2; have q3 := (hSw.cell (p := ⟨wr.heap.size, 3, none⟩) xl).trans x3; have q1 := (hSw.cell (p := ⟨h, 1, none⟩) hh1).trans c11; have q2 := (hSw.cell (p := ⟨g, i, none⟩) gl1).trans g1; go_simp; try with_reducible rfl
          try simp only [Act.put, pb, pz, ps]
          refine wpAnyF_takeD [6, 7, 8, 11] (i := 5) (oi := ⟨some 51, .fieldAddr 44 (.tmp 10) 2, 0, "house.go:216", #[], none⟩) (v := ?_) rfl (by kernel_rfl) (by kernel_rfl) (by kernel_rfl) (by kernel_rfl) (fun _ _ _ h => h) (Or.inl ⟨by rfl, ?_⟩) hS ?_
          rotate_left
          · intro w' _; go_simp; try with_reducible rfl
          try simp only [Act.put, pb, pz, ps]
          refine wpAnyF_takeD [7, 8, 11] (i := 6) (oi := ⟨some 52, .load 3 (.tmp 51), 3, "house.go:216", #[⟨5, .data⟩], none⟩) (v := ?_) rfl (by kernel_rfl) (by kernel_rfl) (by kernel_rfl) (by kernel_rfl) (fun _ _ _ h => h) (Or.inl ⟨by rfl, ?_⟩) hS ?_
          rotate_left
          · intro w' hSw; have q0 := (hSw.cell (p := ⟨wr.heap.size, 2, none⟩) xl).trans x2; have q3 := (hSw.cell (p := ⟨wr.heap.size, 3, none⟩) xl).trans x3; have q1 := (hSw.cell (p := ⟨h, 1, none⟩) hh1).trans c11; have q2 := (hSw.cell (p := ⟨g, i, none⟩) gl1).trans g1; go_simp; try with_reducible rfl
          try simp only [Act.put, pb, pz, ps]
          refine wpAnyF_takeD [8, 11] (i := 7) (oi := ⟨some 53, .indexAddr 87 (.tmp 50) (.tmp 52), 0, "house.go:216", #[⟨4, .data⟩, ⟨6, .data⟩], none⟩) (v := ?_) rfl (by kernel_rfl) (by kernel_rfl) (by kernel_rfl) (by kernel_rfl) (fun _ _ _ h => h) (Or.inl ⟨by rfl, ?_⟩) hS ?_
          rotate_left
          · intro w' _; go_simp; try with_reducible rfl
          try simp only [Act.put, pb, pz, ps]
          refine wpAnyF_take (i := 8) (oi := ⟨some 54, .load 133 (.tmp 53), 133, "house.go:216", #[⟨7, .data⟩], none⟩) (v := ?_) rfl (by kernel_rfl) (by kernel_rfl) (by kernel_rfl) (by kernel_rfl) (fun _ _ _ h => h) (Or.inl ⟨by rfl, ?_⟩) hS ?_
          rotate_left
          · intro w' hSw; have q0 := (hSw.cell (p := ⟨wr.heap.size, 2, none⟩) xl).trans x2; have q3 := (hSw.cell (p := ⟨wr.heap.size, 3, none⟩) xl).trans x3; have q1 := (hSw.cell (p := ⟨h, 1, none⟩) hh1).trans c11; have q2 := (hSw.cell (p := ⟨g, i, none⟩) gl1).trans g1; go_simp; try with_reducible rfl
          try simp only [Act.put, pb, pz, ps]
          refine wpAnyF_takeD [10, 11] (i := 9) (oi := ⟨some 55, .fieldAddr 44 (.tmp 10) 3, 0, "house.go:216", #[], none⟩) (v := ?_) rfl (by kernel_rfl) (by kernel_rfl) (by kernel_rfl) (by kernel_rfl) (fun _ _ _ h => h) (Or.inl ⟨by rfl, ?_⟩) hS ?_
          rotate_left
          · intro w' _; go_simp; try with_reducible rfl
          try simp only [Act.put, pb, pz, ps]
          refine wpAnyF_take (i := 10) (oi := ⟨some 56, .load 2 (.tmp 55), 2, "house.go:216", #[⟨9, .data⟩], none⟩) (v := ?_) rfl (by kernel_rfl) (by kernel_rfl) (by kernel_rfl) (by kernel_rfl) (fun _ _ _ h => h) (Or.inl ⟨by rfl, ?_⟩) hS ?_
          rotate_left
          · intro w' hSw; have q0 := (hSw.cell (p := ⟨wr.heap.size, 2, none⟩) xl).trans x2; have q3 := (hSw.cell (p := ⟨wr.heap.size, 3, none⟩) xl).trans x3; have q1 := (hSw.cell (p := ⟨h, 1, none⟩) hh1).trans c11; have q2 := (hSw.cell (p := ⟨g, i, none⟩) gl1).trans g1; go_simp; try with_reducible rfl
          try simp only [Act.put, pb, pz, ps]
          refine wpAnyF_ready (rs := [11]) (by kernel_rfl) (by simp) ?_
          refine AllReadyF.fin (o := ⟨some 57, .call { callee := .value (.func 135), args := #[.tmp 54, .tmp 56], argTypes := #[133, 2] }, 25, "house.go:216", #[⟨8, .data⟩, ⟨10, .data⟩], none⟩) rfl (by rfl) (fun K hK => ?_) ?_
          · go_simp
            refine (take_one (w := w1.drew) (((HAC.out.1.grow HB1.out)).grow (Below.refl _ _).drew) HAO.out tc).mono ?_
            rintro e W3 ⟨⟨er, rfl⟩, hA3, hc3⟩
            have HA3 := Lib.hid hA3
            have HC3 := Lib.hid (show Chg (fun b => b = ba i) w1 W3 from ((Chg.refl _ w1).grow (Below.refl _ _).drew).trans hc3)
            clear hA3 hc3
            refine hK.out _ _ ?_
            clear hK K
            try simp only [Act.put, pb, pz, ps]
            refine wpAnyF_done (by kernel_rfl) ?_ _
            clear hS x2 x3 g1 c11 xl gl1 hh1
            have hcB : Chg (fun b => Tk b = .acc i) wr W3 := (Chg.of _ HB1.out).step HC3.out fun b _ e => e ▸ HAC.out.2.1
            have hA3 := house_accs HA.out (accs_upd HRO.out HAS.out HIL.out (Nat.le_refl _) HA3.out hcB) (hcB.mono fun b _ e => ⟨i, e⟩)
            have hX3 := HX1.out.chg HC3.out (fun e => by have := HAC.out.1.ltb; omega)
            obtain ⟨vo, hbrow, _⟩ := hA3.book
            obtain ⟨bA, bc, hvb⟩ := hbrow.form
            have c4 := hA3.cells.2.2.2.2.1
            rw [hvb, show ({ M1 with accs := M1.accs.set i (takeA a tc) } : House).book.length = H.book.length from by rw [← HBK.out.1]] at c4
            obtain ⟨nb, hnb⟩ : ∃ z, z = H.book.length := ⟨_, rfl⟩
            rw [← hnb] at c4
            have c3 := hA3.cells.2.2.2.1
            have hh3 := hA3.cells.2.2.2.2.2.2
            have HCAL := Lib.hid (show CalAt W3 (fun b => Tk b = .cal) pc H.now _ from by have := hA3.cal; rwa [show ({ M1 with accs := M1.accs.set i (takeA a tc) } : House).now = H.now from HBK.out.2] at this)
            have HH3 := Lib.hid hA3
            have HX3 := Lib.hid hX3
            have HCB := Lib.hid hcB
            have HNB := Lib.hid hnb
            have y0 : W3.cell? ⟨wr.heap.size, 0, none⟩ = some (.int .i64 tn) := hX3.cell 0
            have y1 : W3.cell? ⟨wr.heap.size, 1, none⟩ = some (.int .i64 tl) := hX3.cell 1
            have y6 : W3.cell? ⟨wr.heap.size, 6, none⟩ = some (.int .i64 tk) := hX3.cell 6
            have f0 := hX3.frozen 0
            have f1 := hX3.frozen 1
            have f6 := hX3.frozen 6
            have xl := hX3.lt
            obtain ⟨now, hnow⟩ : ∃ z, z = H.now := ⟨_, rfl⟩
            rw [← hnow] at HCAL
            have HNOW := Lib.hid hnow
            clear hcB hA3 hX3 hbrow hvb hnb hnow
            go_wp2_with fail
            refine wp_region_F (Below W3.heap.size W3) [6, 14, 15, 16, 17, 18] (by kernel_rfl) ((Below.refl _ _).drew) (fun hS => ?_)
            refine wpAnyF_takeW (i := 6) (oi := ⟨some 64, .move (.tmp 1), 3, "house.go:217", #[⟨14, .gcOnly .lateStores⟩], none⟩) (v := ?_) rfl (by kernel_rfl) (by kernel_rfl) (by kernel_rfl) (by kernel_rfl) (fun _ _ _ h => h) (Or.inl ⟨by rfl, ?_⟩) ?_
            rotate_left
            · intro w' _; go_simp; try with_reducible rfl
            try simp only [Act.put, pb, pz, ps]
            refine wpAnyF_takeD [1, 2, 3, 4, 5, 13, 14, 15, 16, 17, 18] (i := 0) (oi := ⟨some 58, .move (.tmp 0), 23, "house.go:217", #[], none⟩) (v := ?_) rfl (by kernel_rfl) (by kernel_rfl) (by kernel_rfl) (by kernel_rfl) (fun _ _ _ h => h) (Or.inl ⟨by rfl, ?_⟩) hS ?_
            rotate_left
            · intro w' _; go_simp; try with_reducible rfl
            try simp only [Act.put, pb, pz, ps]
            refine wpAnyF_takeD [2, 3, 4, 5, 13, 14, 15, 16, 17, 18] (i := 1) (oi := ⟨some 59, .nilCheck (.tmp 58), 0, "house.go:217", #[⟨0, .data⟩], none⟩) (v := ?_) rfl (by kernel_rfl) (by kernel_rfl) (by kernel_rfl) (by kernel_rfl) (fun _ _ _ h => h) (Or.inl ⟨by rfl, ?_⟩) hS ?_
            rotate_left
            · intro w' _; go_simp; try with_reducible rfl
            try simp only [Act.put, pb, pz, ps]
            refine wpAnyF_takeD [3, 4, 5, 13, 14, 15, 16, 17, 18] (i := 2) (oi := ⟨some 60, .fieldAddr 92 (.tmp 59) 0, 0, "house.go:217", #[⟨1, .data⟩], none⟩) (v := ?_) rfl (by kernel_rfl) (by kernel_rfl) (by kernel_rfl) (by kernel_rfl) (fun _ _ _ h => h) (Or.inl ⟨by rfl, ?_⟩) hS ?_
            rotate_left
            · intro w' _; go_simp; try with_reducible rfl
            try simp only [Act.put, pb, pz, ps]
            refine wpAnyF_takeD [4, 5, 13, 14, 15, 16, 17, 18] (i := 3) (oi := ⟨some 61, .fieldAddr 90 (.tmp 60) 4, 0, "house.go:217", #[⟨2, .data⟩], none⟩) (v := ?_) rfl (by kernel_rfl) (by kernel_rfl) (by kernel_rfl) (by kernel_rfl) (fun _ _ _ h => h) (Or.inl ⟨by rfl, ?_⟩) hS ?_
            rotate_left
            · intro w' _; go_simp; try with_reducible rfl
            try simp only [Act.put, pb, pz, ps]
            refine wpAnyF_takeD [5, 13, 14, 15, 16, 17, 18] (i := 4) (oi := ⟨some 62, .load 22 (.tmp 61), 22, "house.go:217", #[⟨3, .data⟩], none⟩) (v := ?_) rfl (by kernel_rfl) (by kernel_rfl) (by kernel_rfl) (by kernel_rfl) (fun _ _ _ h => h) (Or.inl ⟨by rfl, ?_⟩) hS ?_
            rotate_left
            · intro w' hSw; have q3 := (hSw.cell (p := ⟨h, 3, none⟩) hh3).trans c3; have q4 := (hSw.cell (p := ⟨h, 4, none⟩) hh3).trans c4; go_simp; try with_reducible rfl
            try simp only [Act.put, pb, pz, ps]
            refine wpAnyF_takeD [13, 14, 15, 16, 17, 18] (i := 5) (oi := ⟨some 63, .call { callee := .builtin .len, args := #[.tmp 62], argTypes := #[22] }, 3, "house.go:217", #[⟨4, .data⟩], none⟩) (v := ?_) rfl (by kernel_rfl) (by kernel_rfl) (by kernel_rfl) (by kernel_rfl) (fun _ _ _ h => h) (Or.inl ⟨by rfl, ?_⟩) hS ?_
            rotate_left
            · intro w' hSw; have q3 := (hSw.cell (p := ⟨h, 3, none⟩) hh3).trans c3; have q4 := (hSw.cell (p := ⟨h, 4, none⟩) hh3).trans c4; go_simp; try with_reducible rfl
            try simp only [Act.put, pb, pz, ps]
            refine wpAnyF_takeD [8, 9, 10, 11, 12, 14, 15, 16, 17, 18] (i := 7) (oi := ⟨some 65, .move (.tmp 0), 23, "house.go:217", #[], none⟩) (v := ?_) rfl (by kernel_rfl) (by kernel_rfl) (by kernel_rfl) (by kernel_rfl) (fun _ _ _ h => h) (Or.inl ⟨by rfl, ?_⟩) hS ?_
            rotate_left
            · intro w' _; go_simp; try with_reducible rfl
            try simp only [Act.put, pb, pz, ps]
            refine wpAnyF_takeD [9, 10, 11, 12, 14, 15, 16, 17, 18] (i := 8) (oi := ⟨some 66, .nilCheck (.tmp 65), 0, "house.go:217", #[⟨7, .data⟩], none⟩) (v := ?_) rfl (by kernel_rfl) (by kernel_rfl) (by kernel_rfl) (by kernel_rfl) (fun _ _ _ h => h) (Or.inl ⟨by rfl, ?_⟩) hS ?_
            rotate_left
            · intro w' _; go_simp; try with_reducible rfl
            try simp only [Act.put, pb, pz, ps]
            refine wpAnyF_takeD [10, 11, 12, 14, 15, 16, 17, 18] (i := 9) (oi := ⟨some 67, .fieldAddr 92 (.tmp 66) 0, 0, "house.go:217", #[⟨8, .data⟩], none⟩) (v := ?_) rfl (by kernel_rfl) (by kernel_rfl) (by kernel_rfl) (by kernel_rfl) (fun _ _ _ h => h) (Or.inl ⟨by rfl, ?_⟩) hS ?_
            rotate_left
            · intro w' _; go_simp; try with_reducible rfl
            try simp only [Act.put, pb, pz, ps]
            refine wpAnyF_takeD [11, 12, 14, 15, 16, 17, 18] (i := 10) (oi := ⟨some 68, .fieldAddr 90 (.tmp 67) 3, 0, "house.go:217", #[⟨9, .data⟩], none⟩) (v := ?_) rfl (by kernel_rfl) (by kernel_rfl) (by kernel_rfl) (by kernel_rfl) (fun _ _ _ h => h) (Or.inl ⟨by rfl, ?_⟩) hS ?_
            rotate_left
            · intro w' _; go_simp; try with_reducible rfl
            try simp only [Act.put, pb, pz, ps]
            refine wpAnyF_takeD [12, 14, 15, 16, 17, 18] (i := 11) (oi := ⟨some 69, .load 84 (.tmp 68), 84, "house.go:217", #[⟨10, .data⟩], none⟩) (v := ?_) rfl (by kernel_rfl) (by kernel_rfl) (by kernel_rfl) (by kernel_rfl) (fun _ _ _ h => h) (Or.inl ⟨by rfl, ?_⟩) hS ?_
            rotate_left
            · intro w' hSw; have q3 := (hSw.cell (p := ⟨h, 3, none⟩) hh3).trans c3; have q4 := (hSw.cell (p := ⟨h, 4, none⟩) hh3).trans c4; go_simp; try with_reducible rfl
            try simp only [Act.put, pb, pz, ps]
            refine wpAnyF_takeD [14, 15, 16, 17, 18] (i := 13) (oi := ⟨some 71, .fieldAddr 44 (.tmp 10) 0, 0, "house.go:217", #[⟨0, .phase⟩, ⟨1, .phase⟩, ⟨2, .phase⟩, ⟨3, .phase⟩, ⟨4, .phase⟩, ⟨5, .phase⟩, ⟨6, .textOnly .lateStores⟩, ⟨7, .textOnly .lateStores⟩, ⟨8, .textOnly .lateStores⟩, ⟨9, .textOnly .lateStores⟩, ⟨10, .textOnly .lateStores⟩, ⟨11, .textOnly .lateStores⟩, ⟨12, .textOnly .lateStoresUnsure⟩], none⟩) (v := ?_) rfl (by kernel_rfl) (by kernel_rfl) (by kernel_rfl) (by kernel_rfl) (fun _ _ _ h => h) (Or.inl ⟨by rfl, ?_⟩) hS ?_
            rotate_left
            · intro w' _; go_simp; try with_reducible rfl
            try simp only [Act.put, pb, pz, ps]
            refine wpAnyF_ready (rs := [12]) (by kernel_rfl) (by simp) ?_
            refine AllReadyF.cons (o := ⟨some 70, .call { callee := .value (.func 58), args := #[.tmp 69], argTypes := #[84] }, 2, "house.go:217", #[⟨11, .data⟩], none⟩) rfl (by rfl) (fun K hK => ?_) ?_
            · go_simp
              refine (tnow_any (W := W3.drew) (HCAL.out.grow (Below.refl _ _).drew)).mono ?_
              rintro e W7 ⟨rfl, rfl⟩
              refine hK.out _ _ ?_ (fun hS => ?_)
              · exact hS
              clear hK K
              try simp only [Act.put, pb, pz, ps]
              refine wpAnyF_ready (rs := [14]) (by kernel_rfl) (by simp) ?_
              refine AllReadyF.fin (o := ⟨none, .store 2 (.tmp 71) (.tmp 63), 0, "house.go:217", #[⟨13, .data⟩, ⟨5, .data⟩, ⟨12, .chain⟩, ⟨0, .phase⟩, ⟨1, .phase⟩, ⟨2, .phase⟩, ⟨3, .phase⟩, ⟨4, .phase⟩, ⟨5, .phase⟩, ⟨6, .textOnly .lateStores⟩, ⟨7, .textOnly .lateStores⟩, ⟨8, .textOnly .lateStores⟩, ⟨9, .textOnly .lateStores⟩, ⟨10, .textOnly .lateStores⟩, ⟨11, .textOnly .lateStores⟩, ⟨12, .textOnly .lateStoresUnsure⟩], none⟩) rfl (by rfl) (fun K hK => ?_) ?_
              · go_simp
                refine hK.out _ _ ?_
                clear hK K
                try simp only [Act.put, pb, pz, ps]
                refine wpAnyF_takeW (i := 15) (oi := ⟨some 72, .fieldAddr 44 (.tmp 10) 1, 0, "house.go:217", #[⟨0, .phase⟩, ⟨1, .phase⟩, ⟨2, .phase⟩, ⟨3, .phase⟩, ⟨4, .phase⟩, ⟨5, .phase⟩, ⟨6, .phase⟩, ⟨7, .textOnly .lateStores⟩, ⟨8, .textOnly .lateStores⟩, ⟨9, .textOnly .lateStores⟩, ⟨10, .textOnly .lateStores⟩, ⟨11, .textOnly .lateStores⟩, ⟨12, .textOnly .lateStoresUnsure⟩, ⟨13, .phase⟩, ⟨14, .phase⟩], none⟩) (v := ?_) rfl (by kernel_rfl) (by kernel_rfl) (by kernel_rfl) (by kernel_rfl) (fun _ _ _ h => h) (Or.inl ⟨by rfl, ?_⟩) ?_
                rotate_left
                · intro w' _; go_simp; try with_reducible rfl
                try simp only [Act.put, pb, pz, ps]
                refine wpAnyF_ready (rs := [16]) (by kernel_rfl) (by simp) ?_
                refine AllReadyF.fin (o := ⟨none, .store 3 (.tmp 72) (.tmp 64), 0, "house.go:217", #[⟨15, .data⟩, ⟨6, .data⟩, ⟨14, .chain⟩, ⟨0, .phase⟩, ⟨1, .phase⟩, ⟨2, .phase⟩, ⟨3, .phase⟩, ⟨4, .phase⟩, ⟨5, .phase⟩, ⟨6, .phase⟩, ⟨7, .textOnly .lateStores⟩, ⟨8, .textOnly .lateStores⟩, ⟨9, .textOnly .lateStores⟩, ⟨10, .textOnly .lateStores⟩, ⟨11, .textOnly .lateStores⟩, ⟨12, .textOnly .lateStoresUnsure⟩, ⟨13, .phase⟩, ⟨14, .phase⟩], none⟩) rfl (by rfl) (fun K hK => ?_) ?_
                · go_simp
                  refine hK.out _ _ ?_
                  clear hK K
                  try simp only [Act.put, pb, pz, ps]
                  refine wpAnyF_takeW (i := 17) (oi := ⟨some 73, .fieldAddr 44 (.tmp 10) 6, 0, "house.go:217", #[⟨0, .phase⟩, ⟨1, .phase⟩, ⟨2, .phase⟩, ⟨3, .phase⟩, ⟨4, .phase⟩, ⟨5, .phase⟩, ⟨6, .phase⟩, ⟨7, .phase⟩, ⟨8, .phase⟩, ⟨9, .phase⟩, ⟨10, .phase⟩, ⟨11, .phase⟩, ⟨12, .phase⟩, ⟨13, .phase⟩, ⟨14, .phase⟩, ⟨15, .phase⟩, ⟨16, .phase⟩], none⟩) (v := ?_) rfl (by kernel_rfl) (by kernel_rfl) (by kernel_rfl) (by kernel_rfl) (fun _ _ _ h => h) (Or.inl ⟨by rfl, ?_⟩) ?_
                  rotate_left
                  · intro w' _; go_simp; try with_reducible rfl
                  try simp only [Act.put, pb, pz, ps]
                  refine wpAnyF_ready (rs := [18]) (by kernel_rfl) (by simp) ?_
                  refine AllReadyF.fin (o := ⟨none, .store 2 (.tmp 73) (.tmp 70), 0, "house.go:217", #[⟨17, .data⟩, ⟨12, .data⟩, ⟨16, .chain⟩, ⟨0, .phase⟩, ⟨1, .phase⟩, ⟨2, .phase⟩, ⟨3, .phase⟩, ⟨4, .phase⟩, ⟨5, .phase⟩, ⟨6, .phase⟩, ⟨7, .phase⟩, ⟨8, .phase⟩, ⟨9, .phase⟩, ⟨10, .phase⟩, ⟨11, .phase⟩, ⟨12, .phase⟩, ⟨13, .phase⟩, ⟨14, .phase⟩, ⟨15, .phase⟩, ⟨16, .phase⟩], none⟩) rfl (by rfl) (fun K hK => ?_) ?_
                  · go_simp
                    refine hK.out _ _ ?_
                    clear hK K
                    try simp only [Act.put, pb, pz, ps]
                    refine wpAnyF_done (by kernel_rfl) ?_ _
                    clear hS y0 y1 y6 f0 f1 f6 c3 c4 hh3
                    obtain ⟨W4, hW4⟩ : ∃ W4, W4 = (((W3.setCell ⟨wr.heap.size, 0, none⟩ (.int .i64 nb)).setCell ⟨wr.heap.size, 1, none⟩ (.int .i64 j)).setCell ⟨wr.heap.size, 6, none⟩ (.int .i64 now)).drew := ⟨_, rfl⟩
                    rw [← hW4]
                    have hc34 : Chg (· = wr.heap.size) W3 W4 := by rw [hW4]; exact (((Chg.set W3 ⟨wr.heap.size, 0, none⟩ _).trans (Chg.set _ ⟨wr.heap.size, 1, none⟩ _)).trans (Chg.set _ ⟨wr.heap.size, 6, none⟩ _)).grow (Below.refl _ _).drew
                    have hX4 : Blk W4 wr.heap.size 44 #[.int .i64 nb, .int .i64 j, .int .i64 i, .int .i64 tc, .int .u32 tg, .int .i64 tt, .int .i64 now] := by rw [hW4]; exact Blk.grow (((HX3.out.set_ 0 _).set_ 1 _).set_ 6 _) (Below.refl _ _).drew
                    have hnw : Tk wr.heap.size = .no := HA.out.out _ (Nat.le_refl _)
                    have hA4 := HH3.out.keep hc34 (fun b hb e => hb (e ▸ hnw))
                    have c5 := hA4.cells.2.2.2.2.2.1
                    have lh := hA4.cells.2.2.2.2.2.2
                    have hrow := hA4.sales
                    obtain ⟨As, cs, hvs⟩ := hrow.form
                    subst hvs
                    obtain ⟨ns, hns⟩ : ∃ z, z = M1.sales.length := ⟨_, rfl⟩
                    rw [show ({ M1 with accs := M1.accs.set i (takeA a tc) } : House).sales.length = M1.sales.length from rfl, ← hns] at c5
                    have hrow' : RowAt W4 (fun b => Tk b = .sales) 44 7 (.slice As ns cs) ns (M1.sales.flatMap SaleR.cells) := by rw [hns]; exact hrow
                    have or1 : ¬ (Value.slice As ns cs).ownBlock = some h := fun e => by have h3 := hrow'.blk h e; rw [hA4.top] at h3; cases h3
                    have ox1 : ¬ (Value.slice As ns cs).ownBlock = some wr.heap.size := fun e => by have h3 := hrow'.blk _ e; rw [hnw] at h3; cases h3
                    have HOR := Lib.hid or1
                    have HX4 := Lib.hid hX4
                    have HH4 := Lib.hid hA4
                    have HRW := Lib.hid hrow'
                    have HNS := Lib.hid hns
                    have HC34 := Lib.hid hc34
                    have HNW := Lib.hid hnw
                    clear hW4 hc34 hX4 hA4 hrow hrow' hns hnw
                    go_wp2_with fail
                    obtain ⟨arr, harr⟩ : ∃ z : Array Value, z = #[.int .i64 nb, .int .i64 j, .int .i64 i, .int .i64 tc, .int .u32 tg, .int .i64 tt, .int .i64 now] := ⟨_, rfl⟩
                    have HARR := Lib.hid harr
                    clear harr
                    refine wp_region_F (Chg (fun b => (Value.slice As ns cs).ownBlock = some b) W4) [12] (by kernel_rfl) ((Chg.refl _ W4).grow (Below.refl _ _).drew) (fun hS => ?_)
                    refine wpAnyF_take (i := 0) (oi := ⟨some 74, .move (.tmp 0), 23, "house.go:218", #[], none⟩) (v := ?_) rfl (by kernel_rfl) (by kernel_rfl) (by kernel_rfl) (by kernel_rfl) (fun _ _ _ h => h) (Or.inl ⟨by rfl, ?_⟩) hS ?_
                    rotate_left
                    · intro w' _; go_simp; try with_reducible rfl
                    try simp only [Act.put, pb, pz, ps]
                    refine wpAnyF_take (i := 1) (oi := ⟨some 75, .move (.tmp 0), 23, "house.go:218", #[], none⟩) (v := ?_) rfl (by kernel_rfl) (by kernel_rfl) (by kernel_rfl) (by kernel_rfl) (fun _ _ _ h => h) (Or.inl ⟨by rfl, ?_⟩) hS ?_
                    rotate_left
                    · intro w' _; go_simp; try with_reducible rfl
                    try simp only [Act.put, pb, pz, ps]
                    refine wpAnyF_take (i := 2) (oi := ⟨some 76, .nilCheck (.tmp 75), 0, "house.go:218", #[⟨1, .data⟩], none⟩) (v := ?_) rfl (by kernel_rfl) (by kernel_rfl) (by kernel_rfl) (by kernel_rfl) (fun _ _ _ h => h) (Or.inl ⟨by rfl, ?_⟩) hS ?_
                    rotate_left
                    · intro w' _; go_simp; try with_reducible rfl
                    try simp only [Act.put, pb, pz, ps]
                    refine wpAnyF_take (i := 3) (oi := ⟨some 77, .fieldAddr 92 (.tmp 76) 0, 0, "house.go:218", #[⟨2, .data⟩], none⟩) (v := ?_) rfl (by kernel_rfl) (by kernel_rfl) (by kernel_rfl) (by kernel_rfl) (fun _ _ _ h => h) (Or.inl ⟨by rfl, ?_⟩) hS ?_
                    rotate_left
                    · intro w' _; go_simp; try with_reducible rfl
                    try simp only [Act.put, pb, pz, ps]
                    refine wpAnyF_take (i := 4) (oi := ⟨some 78, .fieldAddr 90 (.tmp 77) 5, 0, "house.go:218", #[⟨3, .data⟩], none⟩) (v := ?_) rfl (by kernel_rfl) (by kernel_rfl) (by kernel_rfl) (by kernel_rfl) (fun _ _ _ h => h) (Or.inl ⟨by rfl, ?_⟩) hS ?_
                    rotate_left
                    · intro w' _; go_simp; try with_reducible rfl
                    try simp only [Act.put, pb, pz, ps]
                    refine wpAnyF_take (i := 5) (oi := ⟨some 79, .load 38 (.tmp 78), 38, "house.go:218", #[⟨4, .data⟩], none⟩) (v := ?_) rfl (by kernel_rfl) (by kernel_rfl) (by kernel_rfl) (by kernel_rfl) (fun _ _ _ h => h) (Or.inl ⟨by rfl, ?_⟩) hS ?_
                    rotate_left
                    · intro w' hSw; have q5 := (hSw.cell (p := ⟨h, 5, none⟩) lh or1).trans c5; go_simp; try with_reducible rfl
                    try simp only [Act.put, pb, pz, ps]
                    refine wpAnyF_take (i := 6) (oi := ⟨some 80, .load 44 (.tmp 10), 44, "house.go:218", #[], none⟩) (v := ?_) rfl (by kernel_rfl) (by kernel_rfl) (by kernel_rfl) (by kernel_rfl) (fun _ _ _ h => h) (Or.inl ⟨by rfl, ?_⟩) hS ?_
                    rotate_left
                    · intro w' hSw; refine Eq.trans (exec_load_row 44 (.tmp 10) (by rfl) wr.heap.size (by rfl) 44 #[.int .i64 nb, .int .i64 j, .int .i64 i, .int .i64 tc, .int .u32 tg, .int .i64 tt, .int .i64 now] (0, 0) _ (HX4.out.chg hSw ox1) Tryz.underlying44 rfl (by kernel_rfl)) ?_; with_reducible rfl
                    try simp only [Act.put, pb, pz, ps]
                    refine wpAnyF_ready (rs := [7]) (by kernel_rfl) (by simp) ?_
                    refine AllReadyF.cons (o := ⟨some 81, .buildSlice 38 1 #[(0, .tmp 80)], 38, "house.go:218", #[⟨6, .data⟩], none⟩) rfl (by rfl) (fun K hK => ?_) ?_
                    · go_simp
                      refine hK.out _ _ ?_ (fun hS => ?_)
                      · exact hS.grow ((Below.refl _ _).alloc (Nat.le_refl _) _)
                      clear hK K
                      try simp only [Act.put, pb, pz, ps]
                      refine wpAnyF_ready (rs := [8]) (by kernel_rfl) (by simp) ?_
                      refine AllReadyF.cons (o := ⟨some 82, .call { callee := .builtin .append, args := #[.tmp 79, .tmp 81], argTypes := #[38, 38] }, 38, "house.go:218", #[⟨5, .data⟩, ⟨7, .data⟩], none⟩) rfl (by rfl) (fun K hK => ?_) ?_
                      · refine step_row (W4.drew.alloc (.cells #[.int .i64 nb, .int .i64 j, .int .i64 i, .int .i64 tc, .int .u32 tg, .int .i64 tt, .int .i64 now] 44)) (.tmp 79) (.tmp 81) rfl et_sales rfl (.slice As ns cs) ns (M1.sales.flatMap SaleR.cells) rfl ((HRW.out.grow (Below.refl _ _).drew).grow ((Below.refl _ _).alloc (Nat.le_refl _) _)) (.slice (some ⟨W4.heap.size, 0, none⟩) 1 1) 1 [.int .i64 nb, .int .i64 j, .int .i64 i, .int .i64 tc, .int .u32 tg, .int .i64 tt, .int .i64 now] rfl (Sl.lit1 (Blk.new W4.drew 44 #[.int .i64 nb, .int .i64 j, .int .i64 i, .int .i64 tc, .int .u32 tg, .int .i64 tt, .int .i64 now]) rfl) (by simp [Value.oneCell']) (by have := HNS.out; have := HSL.out; have := HSM.out; omega) (by have := HNS.out; have := HSL.out; have := HSM.out; unfold maxLen; omega) ?_
                        intro A7 c7 Z hrZ hcZ
                        refine hK.out _ _ ?_ (fun hS => ?_)
                        · exact hS.trans hcZ
                        clear hK K
                        try simp only [Act.put, pb, pz, ps]
                        have HHZ := Lib.hid (((HH4.out.blk.grow (Below.refl _ _).drew).alloc (.cells #[.int .i64 nb, .int .i64 j, .int .i64 i, .int .i64 tc, .int .u32 tg, .int .i64 tt, .int .i64 now] 44)).chg hcZ HOR.out)
                        have HZR := Lib.hid hrZ
                        have HZC := Lib.hid hcZ
                        obtain ⟨U, hU⟩ : ∃ U, U = Z.setCell ⟨h, 5, none⟩ (.slice A7 (ns + 1) c7) := ⟨_, rfl⟩
                        have HU := Lib.hid hU
                        clear hrZ hcZ hU
                        refine wpAnyF_takeD [10, 11, 12] (i := 9) (oi := ⟨some 83, .nilCheck (.tmp 74), 0, "house.go:218", #[⟨0, .data⟩, ⟨0, .phase⟩, ⟨1, .phase⟩, ⟨2, .phase⟩, ⟨3, .phase⟩, ⟨4, .phase⟩, ⟨5, .phase⟩, ⟨6, .phase⟩, ⟨7, .phase⟩, ⟨8, .phase⟩], none⟩) (v := ?_) rfl (by kernel_rfl) (by kernel_rfl) (by kernel_rfl) (by kernel_rfl) (fun _ _ _ h => h) (Or.inl ⟨by rfl, ?_⟩) hS ?_
                        rotate_left
                        · intro w' _; go_simp; try with_reducible rfl
                        try simp only [Act.put, pb, pz, ps]
                        refine wpAnyF_takeD [11, 12] (i := 10) (oi := ⟨some 84, .fieldAddr 92 (.tmp 83) 0, 0, "house.go:218", #[⟨9, .data⟩, ⟨0, .phase⟩, ⟨1, .phase⟩, ⟨2, .phase⟩, ⟨3, .phase⟩, ⟨4, .phase⟩, ⟨5, .phase⟩, ⟨6, .phase⟩, ⟨7, .phase⟩, ⟨8, .phase⟩], none⟩) (v := ?_) rfl (by kernel_rfl) (by kernel_rfl) (by kernel_rfl) (by kernel_rfl) (fun _ _ _ h => h) (Or.inl ⟨by rfl, ?_⟩) hS ?_
                        rotate_left
                        · intro w' _; go_simp; try with_reducible rfl
                        try simp only [Act.put, pb, pz, ps]
                        refine wpAnyF_take (i := 11) (oi := ⟨some 85, .fieldAddr 90 (.tmp 84) 5, 0, "house.go:218", #[⟨10, .data⟩, ⟨0, .phase⟩, ⟨1, .phase⟩, ⟨2, .phase⟩, ⟨3, .phase⟩, ⟨4, .phase⟩, ⟨5, .phase⟩, ⟨6, .phase⟩, ⟨7, .phase⟩, ⟨8, .phase⟩], none⟩) (v := ?_) rfl (by kernel_rfl) (by kernel_rfl) (by kernel_rfl) (by kernel_rfl) (fun _ _ _ h => h) (Or.inl ⟨by rfl, ?_⟩) hS ?_
                        rotate_left
                        · intro w' _; go_simp; try with_reducible rfl
                        try simp only [Act.put, pb, pz, ps]
                        refine wpAnyF_ready (rs := [12]) (by kernel_rfl) (by simp) ?_
                        refine AllReadyF.fin (o := ⟨none, .store 38 (.tmp 85) (.tmp 82), 0, "house.go:218", #[⟨11, .data⟩, ⟨8, .data⟩, ⟨8, .chain⟩, ⟨0, .phase⟩, ⟨1, .phase⟩, ⟨2, .phase⟩, ⟨3, .phase⟩, ⟨4, .phase⟩, ⟨5, .phase⟩, ⟨6, .phase⟩, ⟨7, .phase⟩, ⟨8, .phase⟩], none⟩) rfl (by rfl) (fun K hK => ?_) ?_
                        · have f5 := HHZ.out.frozen 5
                          have d5 := HHZ.out.cell 5
                          go_simp
                          rw [← HU.out]
                          refine hK.out _ _ ?_
                          clear hK K
                          try simp only [Act.put, pb, pz, ps]
                          refine wpAnyF_done (by kernel_rfl) ?_ _
                          clear hS c5 lh or1 ox1
                          have hwr : IntKind.i64.wrap ((x : Int) + 1) = (x : Int) + 1 := IntWalk.i64_in _ (by have := HSM.out; omega)
                          have hcU1 : Chg (· = h) Z U := by rw [HU.out]; exact Chg.set Z ⟨h, 5, none⟩ _
                          have HBU := Lib.hid (show Blk U h 92 #[.pointer (some ⟨pn, 0, none⟩), va, vl, .pointer (some ⟨pc, 0, none⟩), vb, .slice A7 (ns + 1) c7] by rw [HU.out]; exact HHZ.out.set_ 5 _)
                          have HCU := Lib.hid hcU1
                          clear hcU1
                          go_wp2_with fail
                          go_roundw
                          case rel =>
                            have hA4 := HH4.out
                            have hs4 := hA4.blk.lt
                            have hcU : Chg (fun b => Tk b = .sales ∨ Tk b = .hs) W4 U := ((((Chg.refl _ W4).grow (Below.refl _ _).drew).grow ((Below.refl _ _).alloc (Nat.le_refl _) _)).step HZC.out fun b _ e => .inl (HRW.out.blk b e)).step HCU.out fun b _ e => .inr (e ▸ hA4.top)
                            have hrowU : RowAt U (fun b => Tk b = .sales ∨ W4.heap.size ≤ b) 44 7 (.slice A7 (ns + 1) c7) (M1.sales.length + 1) (M1.sales.flatMap SaleR.cells ++ (stampS H j s).cells) := by
                              have hce : (stampS H j s).cells = [.int .i64 nb, .int .i64 j, .int .i64 i, .int .i64 tc, .int .u32 tg, .int .i64 tt, .int .i64 now] := by
                                rw [HNB.out, HCO.out, HGO.out, HCT.out, HNOW.out, ← HSB.out]; rfl
                              rw [hce, ← HNS.out]
                              refine (HZR.out.chgB HCU.out fun b hb e => ?_).mono fun b _ k => k.elim .inl fun k => .inr (by rw [World.size_alloc] at k; simp at k; omega)
                              rcases HZR.out.blk b hb with k | k
                              · rw [e, hA4.top] at k; cases k
                              · rw [World.size_alloc] at k; simp at k; omega
                            obtain ⟨T5, hA5, hM5⟩ := sales_end hA4 hrowU hcU HBU.out
                            refine ⟨x + 1, by omega, by go_num, T5, .slice A7 (ns + 1) c7, ?_, ?_, fun b hb => (hM5.tag b (by have := HC.out.size; have := HB1.out.size; have := HC3.out.size; have := HC34.out.size; omega)).trans (HT.out b hb)⟩
                            · rw [HMN.out, ← HCO.out]
                              exact hA5
                            · refine (((HC.out.grow HB1.out).step HC3.out fun b hb e => ?_).step HC34.out fun b hb e => ?_).step hcU fun b hb e => ?_
                              · rw [← HT.out b hb, e]; exact .inr (.inr ⟨i, HAC.out.2.1⟩)
                              · have := HC.out.size; omega
                              · rw [← HT.out b hb]; exact e.elim .inl fun e => .inr (.inl e)
                          case measure => simp [intOf]; omega
                        exact AllReadyF.nil
                      exact AllReadyF.nil
                    exact AllReadyF.nil
                  exact AllReadyF.nil
                exact AllReadyF.nil
              exact AllReadyF.nil
            exact AllReadyF.nil
          exact AllReadyF.nil
        · obtain rfl : x = m := by omega
          have hall : sales.take x = sales := List.take_of_length_le (by have := HM.out; omega)
          have hTn : ∀ b P, T b = P → (∀ i, P ≠ .acc i) → P ≠ .sales → P ≠ .hs → ¬ (T b = .sales ∨ T b = .hs ∨ ∃ i, T b = .acc i) := by
            rintro b P e h1 h2 h3 (k | k | ⟨i, k⟩) <;> rw [e] at k
            · exact h2 k
            · exact h3 k
            · exact h1 i k
          have hrz := RowAt.step HROW.out hc (fun b e => hTn b _ e (by simp) (by simp) (by simp)) hT
          have hlz : ∀ n x, H.lots[n]? = some x → LotAt wr Tk n (bl n) x := fun n x hn => (HLS.out n x hn).step hc (fun b e => by rcases e with e | e <;> exact hTn b _ e (by simp) (by simp) (by simp)) hT
          have hbz := HBLK.out.chg hc (hTn _ _ HTB.out (by simp) (by simp) (by simp))
          have f13 := hbz.frozen 13
          have f14 := hbz.frozen 14
          have l13 := hbz.cell 13
          have l14 := hbz.cell 14
          have HAZ := Lib.hid hA
          have HCZ := Lib.hid hc
          have HTZ := Lib.hid hT
          have HRZ := Lib.hid hrz
          have HLZ := Lib.hid hlz
          have HBZ := Lib.hid hbz
          have HALL := Lib.hid hall
          clear hA hc hT hrz hlz hbz hall hTn hx hlt
          go_wp2_with fail
          obtain ⟨U, hU⟩ : ∃ U, U = (wr.setCell ⟨bl j, 13, none⟩ (.bool true)).setCell ⟨bl j, 14, none⟩ (.slice none 0 0) := ⟨_, rfl⟩
          rw [← hU]
          go_end0
          have htag : Tk (bl j) = .lot j := (HTZ.out _ lb).trans HTB.out
          have hcU : Chg (fun b => Tk b = .lot j) wr U := by rw [hU]; exact ((Chg.set wr ⟨bl j, 13, none⟩ _).trans (Chg.set _ ⟨bl j, 14, none⟩ _)).mono fun b _ e => e ▸ htag
          have hbU : Blk U (bl j) 137 ((⟨l.put, l.closes, true, [], l.rise, l.price⟩ : LotS).cells (.slice none 0 0)).toArray := by rw [hU]; exact (HBZ.out.set_ 13 _).set_ 14 _
          have hfin := house_lot HAZ.out (bl := bl) HRZ.out HLZ.out (j := j) (List.getElem?_eq_some_iff.1 HL.out).1 (l := ⟨l.put, l.closes, true, [], l.rise, l.price⟩) ⟨.slice none 0 0, htag, hbU, ⟨fun _ => .slice none 0 0, RowAt.nil, fun k l hk => by simp at hk⟩⟩ hcU (fun _ _ => rfl) (fun b hb => HAZ.out.out b (Nat.le_trans hcU.size hb))
          refine ⟨rfl, Tk, ⟨pn, pc, va, vl, vb, vsk, ?_⟩, (HCZ.out.mono fun b _ e => ?_).step hcU fun b hb e => ?_, HTZ.out⟩
          · have hq : closeH H j l sales = { midH H j l sales x with lots := H.lots.set j ⟨l.put, l.closes, true, [], l.rise, l.price⟩ } := by
              unfold closeH midH
              rw [HALL.out]
            rw [hq]
            exact hfin
          · rcases e with e | e | ⟨i, e⟩ <;> exact ⟨by rw [e]; simp, by rw [e]; simp⟩
          · rw [HTZ.out b hb] at e
            exact ⟨by rw [e]; simp, by rw [e]; simp⟩
end Go.Proofs.YthoaidfpgijbfaaGreat.Ho

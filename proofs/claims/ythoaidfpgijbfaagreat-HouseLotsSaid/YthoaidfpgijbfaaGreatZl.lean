import Derived.Test.YthoaidfpgijbfaaGreatZj
namespace Go.Proofs.YthoaidfpgijbfaaGreat.Ho
open Go.RowKit
open Go.Proofs.YthoaidfpgijbfaaGreat.Vb Go.Proofs.YthoaidfpgijbfaaGreat.Ac
abbrev ansV (n e v : Int) : Value := .agg #[.int .i64 n, .int .i64 e, .int .i64 v]
set_option maxRecDepth 100000 in
set_option maxHeartbeats 4000000 in
theorem do_ok_1 {W : World} {T : Nat → Part} {h K : Nat} {H : House} (hH : HouseIn W T h K H) (o : OrderR) {A : Option Addr} {c : Nat} (hk : o.kind = 1) (hsp : spareB o = true) {R : Nat → Prop} (hO : Offs W R (.slice A o.offers.length c) o.offers) (hR : ∀ b, b < W.heap.size → R b → T b = .no)
    (hlo : o.offers.length ≤ 1099511627776) {K' : Nat} {H1 : House} {v : Int} (hbl : H1.book.length ≤ 1000000)
    (hm : ∀ W1, HouseIn W1 T h K H → Offs W1 (fun b => R b ∧ b < W.heap.size) (.slice A o.offers.length c) o.offers → Calls Tryz.prog 32 #[.pointer (some ⟨h, 0, none⟩), o.agg (.slice A o.offers.length c)] W1 fun e W' => e = .returned (.tuple #[.int .i64 v, .int .i64 0]) ∧ ∃ T', HouseIn W' T' h K' H1 ∧ Moves W1 T W' T') :
    Calls Tryz.prog 9 #[.pointer (some ⟨h, 0, none⟩), o.agg (.slice A o.offers.length c)] W fun e W' => e = .returned (ansV H1.book.length 0 v) ∧ ∃ T', HouseIn W' T' h K' { H1 with book := H1.book ++ [o] } ∧ Moves W T W' T' := by
  replace hO := Offs.mono (R' := fun b => R b ∧ b < W.heap.size) hO fun b hb hr => ⟨hr, hb⟩
  have HNO := Lib.hid (show ∀ b, W.heap.size ≤ b → T b = .no by obtain ⟨_, _, _, _, _, _, hH⟩ := hH; exact hH.out)
  have HRN := Lib.hid hR
  have HBL := Lib.hid hbl
  have HLO := Lib.hid hlo
  clear hR hbl hlo
  obtain ⟨okind, oname, ocoins, obidder, olot, ⟨kind, opens, closes, start, step, extend, last, floor, fall, count, rule⟩, ooff, otick⟩ := o
  simp only at hk hO HLO
  subst hk
  have HSP := Lib.hid hsp
  have HM := Lib.hid hm
  have HH := Lib.hid hH
  have HO := Lib.hid hO
  have hspa := fun W => spare_any ⟨1, oname, ocoins, obidder, olot, ⟨kind, opens, closes, start, step, extend, last, floor, fall, count, rule⟩, ooff, otick⟩ A c W
  have HSPA := Lib.hid hspa
  simp only [OrderR.agg, OrderR.cells, LotR.cells, List.cons_append, List.nil_append] at HM HSPA ⊢
  obtain ⟨W1, hW1⟩ : ∃ W1, W1 = (W.alloc (.cells #[.int .i64 1, .string oname, .int .i64 ocoins, .int .i64 obidder, .int .i64 olot, .int .i64 kind, .int .i64 opens, .int .i64 closes, .int .i64 start, .int .i64 step, .int .i64 extend, .int .i64 last, .int .i64 floor, .int .i64 fall, .int .i64 count, .int .i64 rule, .slice A ooff.length c, .int .i64 otick] 36)).alloc (.cells #[.int .i64 0, .int .i64 0, .int .i64 0] 27) := ⟨_, rfl⟩
  have hb1 : Below W.heap.size W W1 := by rw [hW1]; exact ((Below.refl _ _).alloc (Nat.le_refl _) _).alloc (by simp) _
  have HX1 := Lib.hid (show Blk W1 W.heap.size 36 #[.int .i64 1, .string oname, .int .i64 ocoins, .int .i64 obidder, .int .i64 olot, .int .i64 kind, .int .i64 opens, .int .i64 closes, .int .i64 start, .int .i64 step, .int .i64 extend, .int .i64 last, .int .i64 floor, .int .i64 fall, .int .i64 count, .int .i64 rule, .slice A ooff.length c, .int .i64 otick] by rw [hW1]; exact (Blk.new W _ _).alloc _)
  have HY1 := Lib.hid (show Blk W1 (W.heap.size + 1) 27 #[.int .i64 0, .int .i64 0, .int .i64 0] by rw [hW1]; exact Blk.new' _ _ (by simp))
  have HB1 := Lib.hid hb1
  clear hH hO hsp hm hspa hb1
  go_enter Tryz.func9, Tryz.ntmps9
  go_wp2_with fail
  rw [← hW1]
  clear hW1
  refine (hnone_any (HH.out.grow HB1.out)).mono ?_
  rintro e W2 ⟨rfl, rfl⟩
  go_wp2_with (refine wpList_load_row rfl 36 (.tmp 3) rfl W.heap.size rfl 36 #[.int .i64 1, .string oname, .int .i64 ocoins, .int .i64 obidder, .int .i64 olot, .int .i64 kind, .int .i64 opens, .int .i64 closes, .int .i64 start, .int .i64 step, .int .i64 extend, .int .i64 last, .int .i64 floor, .int .i64 fall, .int .i64 count, .int .i64 rule, .slice A ooff.length c, .int .i64 otick] (0, 0) _ HX1.out Tryz.underlying36 rfl (by kernel_rfl) ?_)
  refine (HSPA.out _).mono ?_
  rintro e W3 ⟨rfl, hb3⟩
  rw [HSP.out]
  have HX3 := Lib.hid (HX1.out.grow hb3)
  have HY3 := Lib.hid (HY1.out.grow hb3)
  have HB3 := Lib.hid (HB1.out.trans (hb3.mono HB1.out.size))
  clear hb3
  obtain ⟨W4, hW4⟩ : ∃ W4, W4 = W3.alloc (.cells #[.nilFunc, .func (.func 32) #[] #[], .func (.func 33) #[] #[], .func (.func 34) #[] #[], .func (.func 35) #[] #[], .func (.func 36) #[] #[], .func (.func 37) #[] #[]] 96) := ⟨_, rfl⟩
  have hb4 : Below W3.heap.size W3 W4 := by rw [hW4]; exact (Below.refl _ _).alloc (Nat.le_refl _) _
  have HF4 := Lib.hid (show Blk W4 W3.heap.size 96 #[.nilFunc, .func (.func 32) #[] #[], .func (.func 33) #[] #[], .func (.func 34) #[] #[], .func (.func 35) #[] #[], .func (.func 36) #[] #[], .func (.func 37) #[] #[]] by rw [hW4]; exact Blk.new _ _ _)
  have HX4 := Lib.hid (HX3.out.grow hb4)
  have HB4 := Lib.hid (HB3.out.trans (hb4.mono HB3.out.size))
  have HY4 := Lib.hid (HY3.out.grow hb4)
  clear hb4
  go_wp2_with fail
  rw [← hW4]
  clear hW4
  have x0 : W4.cell? ⟨W.heap.size, 0, none⟩ = some (.int .i64 1) := HX4.out.cell 0
  have lx := HX4.out.lt
  have f0 : W4.cell? ⟨W3.heap.size, 1, none⟩ = some (.func (.func 32) #[] #[]) := HF4.out.cell 1
  have lf := HF4.out.lt
  refine wp_region_F (Below W4.heap.size W4) [6, 7, 8, 9, 10, 11] (by kernel_rfl) ((Below.refl _ _).drew) (fun hS => ?_)
  refine wpAnyF_takeD [1, 2, 3, 6, 7, 8, 9, 10, 11] (i := 0) (oi := ⟨some 17, .fieldAddr 36 (.tmp 3) 0, 0, "house.go:88", #[], none⟩) (v := ?_) rfl (by kernel_rfl) (by kernel_rfl) (by kernel_rfl) (by kernel_rfl) (fun _ _ _ h => h) (Or.inl ⟨by rfl, ?_⟩) hS ?_
  rotate_left
  · intro w' _; go_simp; try with_reducible rfl
  try simp only [Act.put, pb, pz, ps]
  refine wpAnyF_takeD [2, 3, 6, 7, 8, 9, 10, 11] (i := 1) (oi := ⟨some 18, .load 29 (.tmp 17), 29, "house.go:88", #[⟨0, .data⟩], none⟩) (v := ?_) rfl (by kernel_rfl) (by kernel_rfl) (by kernel_rfl) (by kernel_rfl) (fun _ _ _ h => h) (Or.inl ⟨by rfl, ?_⟩) hS ?_
  rotate_left
  · intro w' hSw; have q0 := (hSw.cell (p := ⟨W.heap.size, 0, none⟩) lx).trans x0; have qf := (hSw.cell (p := ⟨W3.heap.size, 1, none⟩) lf).trans f0; go_simp; try with_reducible rfl
  try simp only [Act.put, pb, pz, ps]
  refine wpAnyF_takeD [3, 6, 7, 8, 9, 10, 11] (i := 2) (oi := ⟨some 19, .indexAddr 96 (.tmp 5) (.tmp 18), 0, "house.go:88", #[⟨1, .data⟩], none⟩) (v := ?_) rfl (by kernel_rfl) (by kernel_rfl) (by kernel_rfl) (by kernel_rfl) (fun _ _ _ h => h) (Or.inl ⟨by rfl, ?_⟩) hS ?_
  rotate_left
  · intro w' _; go_simp; try with_reducible rfl
  try simp only [Act.put, pb, pz, ps]
  refine wpAnyF_takeD [6, 7, 8, 9, 10, 11] (i := 3) (oi := ⟨some 20, .load 94 (.tmp 19), 94, "house.go:88", #[⟨2, .data⟩], none⟩) (v := ?_) rfl (by kernel_rfl) (by kernel_rfl) (by kernel_rfl) (by kernel_rfl) (fun _ _ _ h => h) (Or.inl ⟨by rfl, ?_⟩) hS ?_
  rotate_left
  · intro w' hSw; have q0 := (hSw.cell (p := ⟨W.heap.size, 0, none⟩) lx).trans x0; have qf := (hSw.cell (p := ⟨W3.heap.size, 1, none⟩) lf).trans f0; go_simp; try with_reducible rfl
  try simp only [Act.put, pb, pz, ps]
  refine wpAnyF_takeD [6, 7, 8, 9, 10, 11] (i := 4) (oi := ⟨some 21, .move (.tmp 0), 23, "house.go:88", #[], none⟩) (v := ?_) rfl (by kernel_rfl) (by kernel_rfl) (by kernel_rfl) (by kernel_rfl) (fun _ _ _ h => h) (Or.inl ⟨by rfl, ?_⟩) hS ?_
  rotate_left
  · intro w' _; go_simp; try with_reducible rfl
  try simp only [Act.put, pb, pz, ps]
  refine wpAnyF_takeD [6, 7, 8, 9, 10, 11] (i := 5) (oi := ⟨some 22, .load 36 (.tmp 3), 36, "house.go:88", #[], none⟩) (v := ?_) rfl (by kernel_rfl) (by kernel_rfl) (by kernel_rfl) (by kernel_rfl) (fun _ _ _ h => h) (Or.inl ⟨by rfl, ?_⟩) hS ?_
  rotate_left
  · intro w' hSw; refine Eq.trans (exec_load_row 36 (.tmp 3) (by rfl) W.heap.size (by rfl) 36 #[.int .i64 1, .string oname, .int .i64 ocoins, .int .i64 obidder, .int .i64 olot, .int .i64 kind, .int .i64 opens, .int .i64 closes, .int .i64 start, .int .i64 step, .int .i64 extend, .int .i64 last, .int .i64 floor, .int .i64 fall, .int .i64 count, .int .i64 rule, .slice A ooff.length c, .int .i64 otick] (0, 0) _ (HX4.out.grow hSw) Tryz.underlying36 rfl (by kernel_rfl)) ?_; with_reducible rfl
  try simp only [Act.put, pb, pz, ps]
  refine wpAnyF_ready (rs := [6]) (by kernel_rfl) (by simp) ?_
  refine AllReadyF.fin (o := ⟨some 23, .call { callee := .value (.tmp 20), args := #[.tmp 21, .tmp 22], argTypes := #[23, 36] }, 97, "house.go:88", #[⟨3, .data⟩, ⟨4, .data⟩, ⟨5, .data⟩], none⟩) rfl (by rfl) (fun K hK => ?_) ?_
  · go_simp
    refine (HM.out W4.drew (((HH.out.grow HB4.out)).grow (Below.refl _ _).drew) (Offs.grow (Offs.grow HO.out HB4.out) (Below.refl _ _).drew)).mono ?_
    rintro e W5 ⟨rfl, T5, hH5, hM5⟩
    have hM5 : Moves W4 T W5 T5 := ⟨((Chg.refl _ W4).grow (Below.refl _ _).drew).trans hM5.chg, fun b hb => hM5.tag b hb⟩
    have HH5 := Lib.hid hH5
    have HM5 := Lib.hid hM5
    have hno : ∀ b, W.heap.size ≤ b → ¬ Own T b := fun b hb ho => ho.2 (HNO.out b hb)
    have HX5 := Lib.hid (HX4.out.chg hM5.chg (hno _ (Nat.le_refl _)))
    have HY5 := Lib.hid (HY4.out.chg hM5.chg (hno _ (Nat.le_succ _)))
    have HO5 := Lib.hid (Offs.chg (Offs.grow HO.out HB4.out) hM5.chg fun b _ hr ho => ho.2 (HRN.out b hr.2 hr.1))
    clear hH5 hM5 hno
    refine hK.out _ _ ?_
    clear hK K
    try simp only [Act.put, pb, pz, ps]
    refine wpAnyF_takeW (i := 7) (oi := ⟨some 16, .move (.tmp 23), 97, "house.go:88", #[⟨6, .data⟩], none⟩) (v := ?_) rfl (by kernel_rfl) (by kernel_rfl) (by kernel_rfl) (by kernel_rfl) (fun _ _ _ h => h) (Or.inl ⟨by rfl, ?_⟩) ?_
    rotate_left
    · intro w' _; go_simp; try with_reducible rfl
    try simp only [Act.put, pb, pz, ps]
    refine wpAnyF_takeW (i := 8) (oi := ⟨some 24, .extract (.tmp 16) 0, 2, "house.go:88", #[⟨7, .data⟩], none⟩) (v := ?_) rfl (by kernel_rfl) (by kernel_rfl) (by kernel_rfl) (by kernel_rfl) (fun _ _ _ h => h) (Or.inl ⟨by rfl, ?_⟩) ?_
    rotate_left
    · intro w' _; go_simp; try with_reducible rfl
    try simp only [Act.put, pb, pz, ps]
    refine wpAnyF_takeW (i := 9) (oi := ⟨some 25, .extract (.tmp 16) 1, 25, "house.go:88", #[⟨7, .data⟩, ⟨10, .gcOnly .lateStores⟩], none⟩) (v := ?_) rfl (by kernel_rfl) (by kernel_rfl) (by kernel_rfl) (by kernel_rfl) (fun _ _ _ h => h) (Or.inl ⟨by rfl, ?_⟩) ?_
    rotate_left
    · intro w' _; go_simp; try with_reducible rfl
    try simp only [Act.put, pb, pz, ps]
    refine wpAnyF_takeW (i := 10) (oi := ⟨some 6, .assign (.tmp 24), 2, "house.go:88", #[⟨8, .data⟩, ⟨6, .chain⟩, ⟨0, .phase⟩, ⟨1, .phase⟩, ⟨2, .phase⟩, ⟨3, .phase⟩, ⟨4, .phase⟩, ⟨5, .phase⟩, ⟨6, .phase⟩, ⟨7, .phase⟩, ⟨8, .phase⟩, ⟨9, .textOnly .lateStores⟩], none⟩) (v := ?_) rfl (by kernel_rfl) (by kernel_rfl) (by kernel_rfl) (by kernel_rfl) (fun _ _ _ h => h) (Or.inl ⟨by rfl, ?_⟩) ?_
    rotate_left
    · intro w' _; go_simp; try with_reducible rfl
    try simp only [Act.put, pb, pz, ps]
    refine wpAnyF_takeW (i := 11) (oi := ⟨some 7, .assign (.tmp 25), 25, "house.go:88", #[⟨9, .data⟩, ⟨10, .chain⟩, ⟨0, .phase⟩, ⟨1, .phase⟩, ⟨2, .phase⟩, ⟨3, .phase⟩, ⟨4, .phase⟩, ⟨5, .phase⟩, ⟨6, .phase⟩, ⟨7, .phase⟩, ⟨8, .phase⟩, ⟨9, .phase⟩, ⟨10, .phase⟩], none⟩) (v := ?_) rfl (by kernel_rfl) (by kernel_rfl) (by kernel_rfl) (by kernel_rfl) (fun _ _ _ h => h) (Or.inl ⟨by rfl, ?_⟩) ?_
    rotate_left
    · intro w' _; go_simp; try with_reducible rfl
    try simp only [Act.put, pb, pz, ps]
    refine wpAnyF_done (by kernel_rfl) ?_ _
    clear hS x0 f0 lf lx
    obtain ⟨pn, pc, va, vl, vb, vs, hH5⟩ := HH5.out
    obtain ⟨vo, hrow, hvo⟩ := hH5.book
    obtain ⟨Ab, cb, hvb⟩ := hrow.form
    obtain ⟨nb, hnb⟩ : ∃ n, n = H1.book.length := ⟨_, rfl⟩
    have HNB := Lib.hid hnb
    have HROW := Lib.hid (show RowAt W5 (fun b => T5 b = .book ∧ b < W5.heap.size) 36 18 (.slice Ab nb cb) nb (orderCells H1.book vo) by rw [hnb, ← hvb]; exact hrow.mono fun b hb hr => ⟨hr, hb⟩)
    have HVO := Lib.hid hvo
    have HVB := Lib.hid (show vb = .slice Ab nb cb by rw [hnb]; exact hvb)
    have HA5 := Lib.hid hH5
    have c4 : W5.cell? ⟨h, 4, none⟩ = some (.slice Ab nb cb) := hH5.cells.2.2.2.2.1.trans (by rw [hvb, hnb])
    have lh := hH5.cells.2.2.2.2.2.2
    have or1 : ¬ (Value.slice Ab nb cb).ownBlock = some h := fun e => by have h3 := (HROW.out.blk h e).1; rw [hH5.top] at h3; cases h3
    have HOR := Lib.hid or1
    have HT5 := Lib.hid (show ∀ b, W.heap.size ≤ b → b < W4.heap.size → T5 b = .no from fun b h1 h2 => (HM5.out.tag b h2).trans (HNO.out b h1))
    have hlx4 : W.heap.size < W4.heap.size := HX4.out.lt
    have ox1 : ¬ (Value.slice Ab nb cb).ownBlock = some W.heap.size := fun e => by have h3 := (HROW.out.blk _ e).1; rw [HT5.out _ (Nat.le_refl _) hlx4] at h3; cases h3
    clear hrow hvo hvb hnb hH5 hlx4
    go_wp2_with fail
    refine wp_region_F (Chg (fun b => (Value.slice Ab nb cb).ownBlock = some b) W5) [13] (by kernel_rfl) ((Chg.refl _ W5).grow (Below.refl _ _).drew) (fun hS => ?_)
    refine wpAnyF_take (i := 0) (oi := ⟨some 30, .move (.tmp 0), 23, "house.go:92", #[], none⟩) (v := ?_) rfl (by kernel_rfl) (by kernel_rfl) (by kernel_rfl) (by kernel_rfl) (fun _ _ _ h => h) (Or.inl ⟨by rfl, ?_⟩) hS ?_
    rotate_left
    · intro w' _; go_simp; try with_reducible rfl
    try simp only [Act.put, pb, pz, ps]
    refine wpAnyF_take (i := 1) (oi := ⟨some 31, .move (.tmp 0), 23, "house.go:92", #[], none⟩) (v := ?_) rfl (by kernel_rfl) (by kernel_rfl) (by kernel_rfl) (by kernel_rfl) (fun _ _ _ h => h) (Or.inl ⟨by rfl, ?_⟩) hS ?_
    rotate_left
    · intro w' _; go_simp; try with_reducible rfl
    try simp only [Act.put, pb, pz, ps]
    refine wpAnyF_take (i := 2) (oi := ⟨some 32, .nilCheck (.tmp 31), 0, "house.go:92", #[⟨1, .data⟩], none⟩) (v := ?_) rfl (by kernel_rfl) (by kernel_rfl) (by kernel_rfl) (by kernel_rfl) (fun _ _ _ h => h) (Or.inl ⟨by rfl, ?_⟩) hS ?_
    rotate_left
    · intro w' _; go_simp; try with_reducible rfl
    try simp only [Act.put, pb, pz, ps]
    refine wpAnyF_take (i := 3) (oi := ⟨some 33, .fieldAddr 92 (.tmp 32) 0, 0, "house.go:92", #[⟨2, .data⟩], none⟩) (v := ?_) rfl (by kernel_rfl) (by kernel_rfl) (by kernel_rfl) (by kernel_rfl) (fun _ _ _ h => h) (Or.inl ⟨by rfl, ?_⟩) hS ?_
    rotate_left
    · intro w' _; go_simp; try with_reducible rfl
    try simp only [Act.put, pb, pz, ps]
    refine wpAnyF_take (i := 4) (oi := ⟨some 34, .fieldAddr 90 (.tmp 33) 4, 0, "house.go:92", #[⟨3, .data⟩], none⟩) (v := ?_) rfl (by kernel_rfl) (by kernel_rfl) (by kernel_rfl) (by kernel_rfl) (fun _ _ _ h => h) (Or.inl ⟨by rfl, ?_⟩) hS ?_
    rotate_left
    · intro w' _; go_simp; try with_reducible rfl
    try simp only [Act.put, pb, pz, ps]
    refine wpAnyF_take (i := 5) (oi := ⟨some 35, .load 22 (.tmp 34), 22, "house.go:92", #[⟨4, .data⟩], none⟩) (v := ?_) rfl (by kernel_rfl) (by kernel_rfl) (by kernel_rfl) (by kernel_rfl) (fun _ _ _ h => h) (Or.inl ⟨by rfl, ?_⟩) hS ?_
    rotate_left
    · intro w' hSw; have q4 := (hSw.cell (p := ⟨h, 4, none⟩) lh or1).trans c4; go_simp; try with_reducible rfl
    try simp only [Act.put, pb, pz, ps]
    refine wpAnyF_take (i := 6) (oi := ⟨some 36, .load 36 (.tmp 3), 36, "house.go:92", #[], none⟩) (v := ?_) rfl (by kernel_rfl) (by kernel_rfl) (by kernel_rfl) (by kernel_rfl) (fun _ _ _ h => h) (Or.inl ⟨by rfl, ?_⟩) hS ?_
    rotate_left
    · intro w' hSw; refine Eq.trans (exec_load_row 36 (.tmp 3) (by rfl) W.heap.size (by rfl) 36 #[.int .i64 1, .string oname, .int .i64 ocoins, .int .i64 obidder, .int .i64 olot, .int .i64 kind, .int .i64 opens, .int .i64 closes, .int .i64 start, .int .i64 step, .int .i64 extend, .int .i64 last, .int .i64 floor, .int .i64 fall, .int .i64 count, .int .i64 rule, .slice A ooff.length c, .int .i64 otick] (0, 0) _ (HX5.out.chg hSw ox1) Tryz.underlying36 rfl (by kernel_rfl)) ?_; with_reducible rfl
    try simp only [Act.put, pb, pz, ps]
    refine wpAnyF_ready (rs := [7]) (by kernel_rfl) (by simp) ?_
    refine AllReadyF.cons (o := ⟨some 37, .call { callee := .value (.func 38), args := #[.tmp 36], argTypes := #[36] }, 36, "house.go:92", #[⟨6, .data⟩], none⟩) rfl (by rfl) (fun K hK => ?_) ?_
    · go_simp
      refine (hcopied_any (W := W5.drew) ⟨1, oname, ocoins, obidder, olot, ⟨kind, opens, closes, start, step, extend, last, floor, fall, count, rule⟩, ooff, otick⟩ (Offs.grow HO5.out (Below.refl _ _).drew) HLO.out).mono ?_
      rintro e W6 ⟨A6, c6, rfl, hO6, hb6⟩
      have hb6 : Below W5.heap.size W5 W6 := (Below.refl _ _).drew.trans (hb6.mono (Nat.le_refl _))
      simp only [OrderR.agg, OrderR.cells, LotR.cells, List.cons_append, List.nil_append]
      refine hK.out _ _ ?_ (fun hS => ?_)
      · exact (Chg.refl _ W5).grow hb6
      clear hK K
      try simp only [Act.put, pb, pz, ps]
      have HO6 := Lib.hid hO6
      have HB6 := Lib.hid hb6
      have HRW := Lib.hid ((HROW.out.grow hb6).grow ((Below.refl _ _).alloc (Nat.le_refl _) (.cells #[.int .i64 1, .string oname, .int .i64 ocoins, .int .i64 obidder, .int .i64 olot, .int .i64 kind, .int .i64 opens, .int .i64 closes, .int .i64 start, .int .i64 step, .int .i64 extend, .int .i64 last, .int .i64 floor, .int .i64 fall, .int .i64 count, .int .i64 rule, .slice A6 ooff.length c6, .int .i64 otick] 36)))
      clear hO6 hb6
      refine wpAnyF_ready (rs := [8]) (by kernel_rfl) (by simp) ?_
      refine AllReadyF.cons (o := ⟨some 38, .buildSlice 22 1 #[(0, .tmp 37)], 22, "house.go:92", #[⟨7, .data⟩], none⟩) rfl (by rfl) (fun K hK => ?_) ?_
      · go_simp
        refine hK.out _ _ ?_ (fun hS => ?_)
        · exact hS.grow ((Below.refl _ _).alloc (Nat.le_refl _) _)
        clear hK K
        try simp only [Act.put, pb, pz, ps]
        refine wpAnyF_ready (rs := [9]) (by kernel_rfl) (by simp) ?_
        refine AllReadyF.cons (o := ⟨some 39, .call { callee := .builtin .append, args := #[.tmp 35, .tmp 38], argTypes := #[22, 22] }, 22, "house.go:92", #[⟨5, .data⟩, ⟨8, .data⟩, ⟨7, .chain⟩], none⟩) rfl (by rfl) (fun K hK => ?_) ?_
        · refine step_row (W6.alloc (.cells #[.int .i64 1, .string oname, .int .i64 ocoins, .int .i64 obidder, .int .i64 olot, .int .i64 kind, .int .i64 opens, .int .i64 closes, .int .i64 start, .int .i64 step, .int .i64 extend, .int .i64 last, .int .i64 floor, .int .i64 fall, .int .i64 count, .int .i64 rule, .slice A6 ooff.length c6, .int .i64 otick] 36)) (.tmp 35) (.tmp 38) rfl et_order rfl (.slice Ab nb cb) nb (orderCells H1.book vo) rfl HRW.out (.slice (some ⟨W6.heap.size, 0, none⟩) 1 1) 1 [.int .i64 1, .string oname, .int .i64 ocoins, .int .i64 obidder, .int .i64 olot, .int .i64 kind, .int .i64 opens, .int .i64 closes, .int .i64 start, .int .i64 step, .int .i64 extend, .int .i64 last, .int .i64 floor, .int .i64 fall, .int .i64 count, .int .i64 rule, .slice A6 ooff.length c6, .int .i64 otick] rfl (Sl.lit1 (Blk.new W6 36 #[.int .i64 1, .string oname, .int .i64 ocoins, .int .i64 obidder, .int .i64 olot, .int .i64 kind, .int .i64 opens, .int .i64 closes, .int .i64 start, .int .i64 step, .int .i64 extend, .int .i64 last, .int .i64 floor, .int .i64 fall, .int .i64 count, .int .i64 rule, .slice A6 ooff.length c6, .int .i64 otick]) rfl) (by simp [Value.oneCell']) (by have := HBL.out; have := HNB.out; omega) (by have := HBL.out; have := HNB.out; unfold maxLen; omega) ?_
          intro A7 c7 Z hrZ hcZ
          refine hK.out _ _ ?_ (fun hS => ?_)
          · exact hS.trans hcZ
          clear hK K
          try simp only [Act.put, pb, pz, ps]
          have HHZ := Lib.hid (((HA5.out.blk.grow HB6.out).alloc (.cells #[.int .i64 1, .string oname, .int .i64 ocoins, .int .i64 obidder, .int .i64 olot, .int .i64 kind, .int .i64 opens, .int .i64 closes, .int .i64 start, .int .i64 step, .int .i64 extend, .int .i64 last, .int .i64 floor, .int .i64 fall, .int .i64 count, .int .i64 rule, .slice A6 ooff.length c6, .int .i64 otick] 36)).chg hcZ HOR.out)
          have HZR := Lib.hid hrZ
          have HZC := Lib.hid hcZ
          obtain ⟨U, hU⟩ : ∃ U, U = Z.setCell ⟨h, 4, none⟩ (.slice A7 (nb + 1) c7) := ⟨_, rfl⟩
          have HU := Lib.hid hU
          clear hrZ hcZ hU
          refine wpAnyF_takeD [11, 12, 13] (i := 10) (oi := ⟨some 40, .nilCheck (.tmp 30), 0, "house.go:92", #[⟨0, .data⟩, ⟨0, .phase⟩, ⟨1, .phase⟩, ⟨2, .phase⟩, ⟨3, .phase⟩, ⟨4, .phase⟩, ⟨5, .phase⟩, ⟨6, .phase⟩, ⟨7, .phase⟩, ⟨8, .phase⟩, ⟨9, .phase⟩], none⟩) (v := ?_) rfl (by kernel_rfl) (by kernel_rfl) (by kernel_rfl) (by kernel_rfl) (fun _ _ _ h => h) (Or.inl ⟨by rfl, ?_⟩) hS ?_
          rotate_left
          · intro w' _; go_simp; try with_reducible rfl
          try simp only [Act.put, pb, pz, ps]
          refine wpAnyF_takeD [12, 13] (i := 11) (oi := ⟨some 41, .fieldAddr 92 (.tmp 40) 0, 0, "house.go:92", #[⟨10, .data⟩, ⟨0, .phase⟩, ⟨1, .phase⟩, ⟨2, .phase⟩, ⟨3, .phase⟩, ⟨4, .phase⟩, ⟨5, .phase⟩, ⟨6, .phase⟩, ⟨7, .phase⟩, ⟨8, .phase⟩, ⟨9, .phase⟩], none⟩) (v := ?_) rfl (by kernel_rfl) (by kernel_rfl) (by kernel_rfl) (by kernel_rfl) (fun _ _ _ h => h) (Or.inl ⟨by rfl, ?_⟩) hS ?_
          rotate_left
          · intro w' _; go_simp; try with_reducible rfl
          try simp only [Act.put, pb, pz, ps]
          refine wpAnyF_take (i := 12) (oi := ⟨some 42, .fieldAddr 90 (.tmp 41) 4, 0, "house.go:92", #[⟨11, .data⟩, ⟨0, .phase⟩, ⟨1, .phase⟩, ⟨2, .phase⟩, ⟨3, .phase⟩, ⟨4, .phase⟩, ⟨5, .phase⟩, ⟨6, .phase⟩, ⟨7, .phase⟩, ⟨8, .phase⟩, ⟨9, .phase⟩], none⟩) (v := ?_) rfl (by kernel_rfl) (by kernel_rfl) (by kernel_rfl) (by kernel_rfl) (fun _ _ _ h => h) (Or.inl ⟨by rfl, ?_⟩) hS ?_
          rotate_left
          · intro w' _; go_simp; try with_reducible rfl
          try simp only [Act.put, pb, pz, ps]
          refine wpAnyF_ready (rs := [13]) (by kernel_rfl) (by simp) ?_
          refine AllReadyF.fin (o := ⟨none, .store 22 (.tmp 42) (.tmp 39), 0, "house.go:92", #[⟨12, .data⟩, ⟨9, .data⟩, ⟨9, .chain⟩, ⟨0, .phase⟩, ⟨1, .phase⟩, ⟨2, .phase⟩, ⟨3, .phase⟩, ⟨4, .phase⟩, ⟨5, .phase⟩, ⟨6, .phase⟩, ⟨7, .phase⟩, ⟨8, .phase⟩, ⟨9, .phase⟩], none⟩) rfl (by rfl) (fun K hK => ?_) ?_
          · have f4 := HHZ.out.frozen 4
            have d4 := HHZ.out.cell 4
            go_simp
            rw [← HU.out]
            refine hK.out _ _ ?_
            clear hK K
            try simp only [Act.put, pb, pz, ps]
            refine wpAnyF_done (by kernel_rfl) ?_ _
            clear hS c4 lh or1 ox1
            have hlh : h < W5.heap.size := HA5.out.blk.lt
            have hcU1 : Chg (· = h) Z U := by rw [HU.out]; exact Chg.set Z ⟨h, 4, none⟩ _
            have HBU := Lib.hid (show Blk U h 92 #[.pointer (some ⟨pn, 0, none⟩), va, vl, .pointer (some ⟨pc, 0, none⟩), .slice A7 (nb + 1) c7, vs] by rw [HU.out]; exact HHZ.out.set_ 4 _)
            have hrowU := HZR.out.chgB hcU1 (fun b hb e => by
              rcases HZR.out.blk b hb with k | k
              · have := k.1; rw [e, HA5.out.top] at this; cases this
              · have h1 := HB6.out.size; rw [World.size_alloc] at k; omega)
            have hend := book_end (o := ⟨1, oname, ocoins, obidder, olot, ⟨kind, opens, closes, start, step, extend, last, floor, fall, count, rule⟩, ooff, otick⟩) HA5.out HVO.out HNB.out HB6.out HO6.out (hrowU.mono fun b _ k => k.elim .inl (fun k => .inr (by rw [World.size_alloc] at k; omega)))
              ((((Chg.refl _ W6).grow ((Below.refl _ _).alloc (Nat.le_refl _) _)).step HZC.out fun b _ e => ⟨.inl (HROW.out.blk b e).1, (HROW.out.blk b e).2⟩).step hcU1 fun b _ e => ⟨.inr (e ▸ HA5.out.top), by omega⟩) HBU.out
            have HEND := Lib.hid hend
            have hys : W.heap.size + 1 < W4.heap.size := HY4.out.lt
            have hyU := ((((HY5.out.grow HB6.out).alloc (.cells #[.int .i64 1, .string oname, .int .i64 ocoins, .int .i64 obidder, .int .i64 olot, .int .i64 kind, .int .i64 opens, .int .i64 closes, .int .i64 start, .int .i64 step, .int .i64 extend, .int .i64 last, .int .i64 floor, .int .i64 fall, .int .i64 count, .int .i64 rule, .slice A6 ooff.length c6, .int .i64 otick] 36)).chg HZC.out (fun e => by have h3 := (HROW.out.blk _ e).1; rw [HT5.out _ (Nat.le_succ _) hys] at h3; cases h3))).chg hcU1 (fun e => by have h3 := HA5.out.top; rw [← e, HT5.out _ (Nat.le_succ _) hys] at h3; cases h3)
            have HYU := Lib.hid hyU
            have y0 : U.cell? ⟨W.heap.size + 1, 0, none⟩ = some (.int .i64 0) := hyU.cell 0
            have y1 : U.cell? ⟨W.heap.size + 1, 1, none⟩ = some (.int .i64 0) := hyU.cell 1
            have y2 : U.cell? ⟨W.heap.size + 1, 2, none⟩ = some (.int .i64 0) := hyU.cell 2
            have yf := hyU.frozen
            have d4 : U.cell? ⟨h, 4, none⟩ = some (.slice A7 (nb + 1) c7) := HBU.out.cell 4
            have hw1 : IntKind.i64.wrap (nb : Int) = (nb : Int) := IntWalk.i64_in _ (by have := HBL.out; have := HNB.out; omega)
            clear hlh hcU1 hrowU hend hyU hys
            go_wp2_with fail
            have hfin : Blk (((U.setCell ⟨W.heap.size + 1, 0, none⟩ (.int .i64 nb)).setCell ⟨W.heap.size + 1, 1, none⟩ (.int .i64 0)).setCell ⟨W.heap.size + 1, 2, none⟩ (.int .i64 v)) (W.heap.size + 1) 27 #[.int .i64 nb, .int .i64 0, .int .i64 v] := ((HYU.out.set_ 0 _).set_ 1 _).set_ 2 _
            have hcV : Chg (· = W.heap.size + 1) U (((U.setCell ⟨W.heap.size + 1, 0, none⟩ (.int .i64 nb)).setCell ⟨W.heap.size + 1, 1, none⟩ (.int .i64 0)).setCell ⟨W.heap.size + 1, 2, none⟩ (.int .i64 v)) := ((Chg.set U ⟨W.heap.size + 1, 0, none⟩ _).trans (Chg.set _ ⟨W.heap.size + 1, 1, none⟩ _)).trans (Chg.set _ ⟨W.heap.size + 1, 2, none⟩ _)
            refine bodyPost_ret (results_cell_row rfl _ _ (W.heap.size + 1) 27 #[.int .i64 nb, .int .i64 0, .int .i64 v] (0, 0) _ rfl hfin Tryz.underlying27 rfl (by kernel_rfl)) rfl ⟨by rw [HNB.out], ?_⟩
            obtain ⟨T6, hH6, hM6⟩ := HEND.out
            have hMM := HM5.out.trans hM6
            have hny : T6 (W.heap.size + 1) = .no := (hMM.tag _ HY4.out.lt).trans (HNO.out _ (Nat.le_succ _))
            refine ⟨T6, hH6.keep hcV (fun b hb e => hb (e ▸ hny)), ((Chg.of _ HB4.out).trans hMM.chg).step hcV (fun b hb e => by omega), fun b hb => hMM.tag b (Nat.lt_of_lt_of_le hb HB4.out.size)⟩
          exact AllReadyF.nil
        exact AllReadyF.nil
      exact AllReadyF.nil
    exact AllReadyF.nil
  exact AllReadyF.nil
set_option maxRecDepth 100000 in
set_option maxHeartbeats 4000000 in
theorem do_err_3 {W : World} {T : Nat → Part} {h K : Nat} {H : House} (hH : HouseIn W T h K H) (o : OrderR) {A : Option Addr} {c : Nat} (hk : o.kind = 3) (hsp : spareB o = true) {R : Nat → Prop} (hO : Offs W R (.slice A o.offers.length c) o.offers) {err : Int} (he : err ≠ 0)
    (hm : ∀ W1, HouseIn W1 T h K H → Offs W1 R (.slice A o.offers.length c) o.offers → Calls Tryz.prog 34 #[.pointer (some ⟨h, 0, none⟩), o.agg (.slice A o.offers.length c)] W1 fun e W' => e = .returned (.tuple #[.int .i64 0, .int .i64 err]) ∧ Below W1.heap.size W1 W') :
    Calls Tryz.prog 9 #[.pointer (some ⟨h, 0, none⟩), o.agg (.slice A o.offers.length c)] W fun e W' => e = .returned (ansV 0 err 0) ∧ Below W.heap.size W W' := by
  obtain ⟨okind, oname, ocoins, obidder, olot, ⟨kind, opens, closes, start, step, extend, last, floor, fall, count, rule⟩, ooff, otick⟩ := o
  simp only at hk hO
  subst hk
  have HSP := Lib.hid hsp
  have HM := Lib.hid hm
  have HH := Lib.hid hH
  have HO := Lib.hid hO
  have hspa := fun W => spare_any ⟨3, oname, ocoins, obidder, olot, ⟨kind, opens, closes, start, step, extend, last, floor, fall, count, rule⟩, ooff, otick⟩ A c W
  have HSPA := Lib.hid hspa
  simp only [OrderR.agg, OrderR.cells, LotR.cells, List.cons_append, List.nil_append] at HM HSPA ⊢
  obtain ⟨W1, hW1⟩ : ∃ W1, W1 = (W.alloc (.cells #[.int .i64 3, .string oname, .int .i64 ocoins, .int .i64 obidder, .int .i64 olot, .int .i64 kind, .int .i64 opens, .int .i64 closes, .int .i64 start, .int .i64 step, .int .i64 extend, .int .i64 last, .int .i64 floor, .int .i64 fall, .int .i64 count, .int .i64 rule, .slice A ooff.length c, .int .i64 otick] 36)).alloc (.cells #[.int .i64 0, .int .i64 0, .int .i64 0] 27) := ⟨_, rfl⟩
  have hb1 : Below W.heap.size W W1 := by rw [hW1]; exact ((Below.refl _ _).alloc (Nat.le_refl _) _).alloc (by simp) _
  have HX1 := Lib.hid (show Blk W1 W.heap.size 36 #[.int .i64 3, .string oname, .int .i64 ocoins, .int .i64 obidder, .int .i64 olot, .int .i64 kind, .int .i64 opens, .int .i64 closes, .int .i64 start, .int .i64 step, .int .i64 extend, .int .i64 last, .int .i64 floor, .int .i64 fall, .int .i64 count, .int .i64 rule, .slice A ooff.length c, .int .i64 otick] by rw [hW1]; exact (Blk.new W _ _).alloc _)
  have HY1 := Lib.hid (show Blk W1 (W.heap.size + 1) 27 #[.int .i64 0, .int .i64 0, .int .i64 0] by rw [hW1]; exact Blk.new' _ _ (by simp))
  have HB1 := Lib.hid hb1
  clear hH hO hsp hm hspa hb1
  go_enter Tryz.func9, Tryz.ntmps9
  go_wp2_with fail
  rw [← hW1]
  clear hW1
  refine (hnone_any (HH.out.grow HB1.out)).mono ?_
  rintro e W2 ⟨rfl, rfl⟩
  go_wp2_with (refine wpList_load_row rfl 36 (.tmp 3) rfl W.heap.size rfl 36 #[.int .i64 3, .string oname, .int .i64 ocoins, .int .i64 obidder, .int .i64 olot, .int .i64 kind, .int .i64 opens, .int .i64 closes, .int .i64 start, .int .i64 step, .int .i64 extend, .int .i64 last, .int .i64 floor, .int .i64 fall, .int .i64 count, .int .i64 rule, .slice A ooff.length c, .int .i64 otick] (0, 0) _ HX1.out Tryz.underlying36 rfl (by kernel_rfl) ?_)
  refine (HSPA.out _).mono ?_
  rintro e W3 ⟨rfl, hb3⟩
  rw [HSP.out]
  have HX3 := Lib.hid (HX1.out.grow hb3)
  have HY3 := Lib.hid (HY1.out.grow hb3)
  have HB3 := Lib.hid (HB1.out.trans (hb3.mono HB1.out.size))
  clear hb3
  obtain ⟨W4, hW4⟩ : ∃ W4, W4 = W3.alloc (.cells #[.nilFunc, .func (.func 32) #[] #[], .func (.func 33) #[] #[], .func (.func 34) #[] #[], .func (.func 35) #[] #[], .func (.func 36) #[] #[], .func (.func 37) #[] #[]] 96) := ⟨_, rfl⟩
  have hb4 : Below W3.heap.size W3 W4 := by rw [hW4]; exact (Below.refl _ _).alloc (Nat.le_refl _) _
  have HF4 := Lib.hid (show Blk W4 W3.heap.size 96 #[.nilFunc, .func (.func 32) #[] #[], .func (.func 33) #[] #[], .func (.func 34) #[] #[], .func (.func 35) #[] #[], .func (.func 36) #[] #[], .func (.func 37) #[] #[]] by rw [hW4]; exact Blk.new _ _ _)
  have HX4 := Lib.hid (HX3.out.grow hb4)
  have HB4 := Lib.hid (HB3.out.trans (hb4.mono HB3.out.size))
  have HY4 := Lib.hid (HY3.out.grow hb4)
  clear hb4
  go_wp2_with fail
  rw [← hW4]
  clear hW4
  have x0 : W4.cell? ⟨W.heap.size, 0, none⟩ = some (.int .i64 3) := HX4.out.cell 0
  have lx := HX4.out.lt
  have f0 : W4.cell? ⟨W3.heap.size, 3, none⟩ = some (.func (.func 34) #[] #[]) := HF4.out.cell 3
  have lf := HF4.out.lt
  refine wp_region_F (Below W4.heap.size W4) [] (by kernel_rfl) ((Below.refl _ _).drew) (fun hS => ?_)
  refine wpAnyF_take (i := 0) (oi := ⟨some 17, .fieldAddr 36 (.tmp 3) 0, 0, "house.go:88", #[], none⟩) (v := ?_) rfl (by kernel_rfl) (by kernel_rfl) (by kernel_rfl) (by kernel_rfl) (fun _ _ _ h => h) (Or.inl ⟨by rfl, ?_⟩) hS ?_
  rotate_left
  · intro w' _; go_simp; try with_reducible rfl
  try simp only [Act.put, pb, pz, ps]
  refine wpAnyF_take (i := 1) (oi := ⟨some 18, .load 29 (.tmp 17), 29, "house.go:88", #[⟨0, .data⟩], none⟩) (v := ?_) rfl (by kernel_rfl) (by kernel_rfl) (by kernel_rfl) (by kernel_rfl) (fun _ _ _ h => h) (Or.inl ⟨by rfl, ?_⟩) hS ?_
  rotate_left
  · intro w' hSw; have q0 := (hSw.cell (p := ⟨W.heap.size, 0, none⟩) lx).trans x0; have qf := (hSw.cell (p := ⟨W3.heap.size, 3, none⟩) lf).trans f0; go_simp; try with_reducible rfl
  try simp only [Act.put, pb, pz, ps]
  refine wpAnyF_take (i := 2) (oi := ⟨some 19, .indexAddr 96 (.tmp 5) (.tmp 18), 0, "house.go:88", #[⟨1, .data⟩], none⟩) (v := ?_) rfl (by kernel_rfl) (by kernel_rfl) (by kernel_rfl) (by kernel_rfl) (fun _ _ _ h => h) (Or.inl ⟨by rfl, ?_⟩) hS ?_
  rotate_left
  · intro w' _; go_simp; try with_reducible rfl
  try simp only [Act.put, pb, pz, ps]
  refine wpAnyF_take (i := 3) (oi := ⟨some 20, .load 94 (.tmp 19), 94, "house.go:88", #[⟨2, .data⟩], none⟩) (v := ?_) rfl (by kernel_rfl) (by kernel_rfl) (by kernel_rfl) (by kernel_rfl) (fun _ _ _ h => h) (Or.inl ⟨by rfl, ?_⟩) hS ?_
  rotate_left
  · intro w' hSw; have q0 := (hSw.cell (p := ⟨W.heap.size, 0, none⟩) lx).trans x0; have qf := (hSw.cell (p := ⟨W3.heap.size, 3, none⟩) lf).trans f0; go_simp; try with_reducible rfl
  try simp only [Act.put, pb, pz, ps]
  refine wpAnyF_take (i := 4) (oi := ⟨some 21, .move (.tmp 0), 23, "house.go:88", #[], none⟩) (v := ?_) rfl (by kernel_rfl) (by kernel_rfl) (by kernel_rfl) (by kernel_rfl) (fun _ _ _ h => h) (Or.inl ⟨by rfl, ?_⟩) hS ?_
  rotate_left
  · intro w' _; go_simp; try with_reducible rfl
  try simp only [Act.put, pb, pz, ps]
  refine wpAnyF_take (i := 5) (oi := ⟨some 22, .load 36 (.tmp 3), 36, "house.go:88", #[], none⟩) (v := ?_) rfl (by kernel_rfl) (by kernel_rfl) (by kernel_rfl) (by kernel_rfl) (fun _ _ _ h => h) (Or.inl ⟨by rfl, ?_⟩) hS ?_
  rotate_left
  · intro w' hSw; refine Eq.trans (exec_load_row 36 (.tmp 3) (by rfl) W.heap.size (by rfl) 36 #[.int .i64 3, .string oname, .int .i64 ocoins, .int .i64 obidder, .int .i64 olot, .int .i64 kind, .int .i64 opens, .int .i64 closes, .int .i64 start, .int .i64 step, .int .i64 extend, .int .i64 last, .int .i64 floor, .int .i64 fall, .int .i64 count, .int .i64 rule, .slice A ooff.length c, .int .i64 otick] (0, 0) _ (HX4.out.grow hSw) Tryz.underlying36 rfl (by kernel_rfl)) ?_; with_reducible rfl
  try simp only [Act.put, pb, pz, ps]
  refine wpAnyF_ready (rs := [6]) (by kernel_rfl) (by simp) ?_
  refine AllReadyF.cons (o := ⟨some 23, .call { callee := .value (.tmp 20), args := #[.tmp 21, .tmp 22], argTypes := #[23, 36] }, 97, "house.go:88", #[⟨3, .data⟩, ⟨4, .data⟩, ⟨5, .data⟩], none⟩) rfl (by rfl) (fun K hK => ?_) ?_
  · go_simp
    refine (HM.out W4.drew (((HH.out.grow HB4.out)).grow (Below.refl _ _).drew) (Offs.grow (Offs.grow HO.out HB4.out) (Below.refl _ _).drew)).mono ?_
    rintro e W5 ⟨rfl, hb5⟩
    have HB5 := Lib.hid ((Below.refl W4.heap.size W4).drew.trans (hb5.mono (by simp)))
    clear hb5
    refine hK.out _ _ ?_ (fun hS => ?_)
    · exact HB5.out
    clear hK K
    try simp only [Act.put, pb, pz, ps]
    refine wpAnyF_take (i := 7) (oi := ⟨some 16, .move (.tmp 23), 97, "house.go:88", #[⟨6, .data⟩], none⟩) (v := ?_) rfl (by kernel_rfl) (by kernel_rfl) (by kernel_rfl) (by kernel_rfl) (fun _ _ _ h => h) (Or.inl ⟨by rfl, ?_⟩) hS ?_
    rotate_left
    · intro w' _; go_simp; try with_reducible rfl
    try simp only [Act.put, pb, pz, ps]
    refine wpAnyF_take (i := 8) (oi := ⟨some 24, .extract (.tmp 16) 0, 2, "house.go:88", #[⟨7, .data⟩], none⟩) (v := ?_) rfl (by kernel_rfl) (by kernel_rfl) (by kernel_rfl) (by kernel_rfl) (fun _ _ _ h => h) (Or.inl ⟨by rfl, ?_⟩) hS ?_
    rotate_left
    · intro w' _; go_simp; try with_reducible rfl
    try simp only [Act.put, pb, pz, ps]
    refine wpAnyF_take (i := 9) (oi := ⟨some 25, .extract (.tmp 16) 1, 25, "house.go:88", #[⟨7, .data⟩, ⟨10, .gcOnly .lateStores⟩], none⟩) (v := ?_) rfl (by kernel_rfl) (by kernel_rfl) (by kernel_rfl) (by kernel_rfl) (fun _ _ _ h => h) (Or.inl ⟨by rfl, ?_⟩) hS ?_
    rotate_left
    · intro w' _; go_simp; try with_reducible rfl
    try simp only [Act.put, pb, pz, ps]
    refine wpAnyF_take (i := 10) (oi := ⟨some 6, .assign (.tmp 24), 2, "house.go:88", #[⟨8, .data⟩, ⟨6, .chain⟩, ⟨0, .phase⟩, ⟨1, .phase⟩, ⟨2, .phase⟩, ⟨3, .phase⟩, ⟨4, .phase⟩, ⟨5, .phase⟩, ⟨6, .phase⟩, ⟨7, .phase⟩, ⟨8, .phase⟩, ⟨9, .textOnly .lateStores⟩], none⟩) (v := ?_) rfl (by kernel_rfl) (by kernel_rfl) (by kernel_rfl) (by kernel_rfl) (fun _ _ _ h => h) (Or.inl ⟨by rfl, ?_⟩) hS ?_
    rotate_left
    · intro w' _; go_simp; try with_reducible rfl
    try simp only [Act.put, pb, pz, ps]
    refine wpAnyF_take (i := 11) (oi := ⟨some 7, .assign (.tmp 25), 25, "house.go:88", #[⟨9, .data⟩, ⟨10, .chain⟩, ⟨0, .phase⟩, ⟨1, .phase⟩, ⟨2, .phase⟩, ⟨3, .phase⟩, ⟨4, .phase⟩, ⟨5, .phase⟩, ⟨6, .phase⟩, ⟨7, .phase⟩, ⟨8, .phase⟩, ⟨9, .phase⟩, ⟨10, .phase⟩], none⟩) (v := ?_) rfl (by kernel_rfl) (by kernel_rfl) (by kernel_rfl) (by kernel_rfl) (fun _ _ _ h => h) (Or.inl ⟨by rfl, ?_⟩) hS ?_
    rotate_left
    · intro w' _; go_simp; try with_reducible rfl
    try simp only [Act.put, pb, pz, ps]
    refine wpAnyF_done (by kernel_rfl) ?_ _
    clear hS x0 f0 lf lx
    have hz : (err == 0) = false := by simpa using he
    have hy5 := HY4.out.grow HB5.out
    have y0 : W5.cell? ⟨W.heap.size + 1, 0, none⟩ = some (.int .i64 0) := hy5.cell 0
    have y1 : W5.cell? ⟨W.heap.size + 1, 1, none⟩ = some (.int .i64 0) := hy5.cell 1
    have y2 : W5.cell? ⟨W.heap.size + 1, 2, none⟩ = some (.int .i64 0) := hy5.cell 2
    have yf := hy5.frozen
    have HY5 := Lib.hid hy5
    clear hy5
    go_wp2_with fail
    have hfin : Blk (((W5.setCell ⟨W.heap.size + 1, 0, none⟩ (.int .i64 0)).setCell ⟨W.heap.size + 1, 1, none⟩ (.int .i64 err)).setCell ⟨W.heap.size + 1, 2, none⟩ (.int .i64 0)) (W.heap.size + 1) 27 #[.int .i64 0, .int .i64 err, .int .i64 0] := ((HY5.out.set_ 0 _).set_ 1 _).set_ 2 _
    refine bodyPost_ret (results_cell_row rfl _ _ (W.heap.size + 1) 27 #[.int .i64 0, .int .i64 err, .int .i64 0] (0, 0) _ rfl hfin Tryz.underlying27 rfl (by kernel_rfl)) rfl ⟨rfl, ?_⟩
    exact (((HB4.out.trans (HB5.out.mono HB4.out.size)).setCell (p := ⟨W.heap.size + 1, 0, none⟩) (by simp) _).setCell (p := ⟨W.heap.size + 1, 1, none⟩) (by simp) _).setCell (p := ⟨W.heap.size + 1, 2, none⟩) (by simp) _
  exact AllReadyF.nil
set_option maxRecDepth 100000 in
set_option maxHeartbeats 4000000 in
theorem do_ok_3 {W : World} {T : Nat → Part} {h K : Nat} {H : House} (hH : HouseIn W T h K H) (o : OrderR) {A : Option Addr} {c : Nat} (hk : o.kind = 3) (hsp : spareB o = true) {R : Nat → Prop} (hO : Offs W R (.slice A o.offers.length c) o.offers) (hR : ∀ b, b < W.heap.size → R b → T b = .no)
    (hlo : o.offers.length ≤ 1099511627776) {K' : Nat} {H1 : House} {v : Int} (hbl : H1.book.length ≤ 1000000)
    (hm : ∀ W1, HouseIn W1 T h K H → Offs W1 (fun b => R b ∧ b < W.heap.size) (.slice A o.offers.length c) o.offers → Calls Tryz.prog 34 #[.pointer (some ⟨h, 0, none⟩), o.agg (.slice A o.offers.length c)] W1 fun e W' => e = .returned (.tuple #[.int .i64 v, .int .i64 0]) ∧ ∃ T', HouseIn W' T' h K' H1 ∧ Moves W1 T W' T') :
    Calls Tryz.prog 9 #[.pointer (some ⟨h, 0, none⟩), o.agg (.slice A o.offers.length c)] W fun e W' => e = .returned (ansV H1.book.length 0 v) ∧ ∃ T', HouseIn W' T' h K' { H1 with book := H1.book ++ [o] } ∧ Moves W T W' T' := by
  replace hO := Offs.mono (R' := fun b => R b ∧ b < W.heap.size) hO fun b hb hr => ⟨hr, hb⟩
  have HNO := Lib.hid (show ∀ b, W.heap.size ≤ b → T b = .no by obtain ⟨_, _, _, _, _, _, hH⟩ := hH; exact hH.out)
  have HRN := Lib.hid hR
  have HBL := Lib.hid hbl
  have HLO := Lib.hid hlo
  clear hR hbl hlo
  obtain ⟨okind, oname, ocoins, obidder, olot, ⟨kind, opens, closes, start, step, extend, last, floor, fall, count, rule⟩, ooff, otick⟩ := o
  simp only at hk hO HLO
  subst hk
  have HSP := Lib.hid hsp
  have HM := Lib.hid hm
  have HH := Lib.hid hH
  have HO := Lib.hid hO
  have hspa := fun W => spare_any ⟨3, oname, ocoins, obidder, olot, ⟨kind, opens, closes, start, step, extend, last, floor, fall, count, rule⟩, ooff, otick⟩ A c W
  have HSPA := Lib.hid hspa
  simp only [OrderR.agg, OrderR.cells, LotR.cells, List.cons_append, List.nil_append] at HM HSPA ⊢
  obtain ⟨W1, hW1⟩ : ∃ W1, W1 = (W.alloc (.cells #[.int .i64 3, .string oname, .int .i64 ocoins, .int .i64 obidder, .int .i64 olot, .int .i64 kind, .int .i64 opens, .int .i64 closes, .int .i64 start, .int .i64 step, .int .i64 extend, .int .i64 last, .int .i64 floor, .int .i64 fall, .int .i64 count, .int .i64 rule, .slice A ooff.length c, .int .i64 otick] 36)).alloc (.cells #[.int .i64 0, .int .i64 0, .int .i64 0] 27) := ⟨_, rfl⟩
  have hb1 : Below W.heap.size W W1 := by rw [hW1]; exact ((Below.refl _ _).alloc (Nat.le_refl _) _).alloc (by simp) _
  have HX1 := Lib.hid (show Blk W1 W.heap.size 36 #[.int .i64 3, .string oname, .int .i64 ocoins, .int .i64 obidder, .int .i64 olot, .int .i64 kind, .int .i64 opens, .int .i64 closes, .int .i64 start, .int .i64 step, .int .i64 extend, .int .i64 last, .int .i64 floor, .int .i64 fall, .int .i64 count, .int .i64 rule, .slice A ooff.length c, .int .i64 otick] by rw [hW1]; exact (Blk.new W _ _).alloc _)
  have HY1 := Lib.hid (show Blk W1 (W.heap.size + 1) 27 #[.int .i64 0, .int .i64 0, .int .i64 0] by rw [hW1]; exact Blk.new' _ _ (by simp))
  have HB1 := Lib.hid hb1
  clear hH hO hsp hm hspa hb1
  go_enter Tryz.func9, Tryz.ntmps9
  go_wp2_with fail
  rw [← hW1]
  clear hW1
  refine (hnone_any (HH.out.grow HB1.out)).mono ?_
  rintro e W2 ⟨rfl, rfl⟩
  go_wp2_with (refine wpList_load_row rfl 36 (.tmp 3) rfl W.heap.size rfl 36 #[.int .i64 3, .string oname, .int .i64 ocoins, .int .i64 obidder, .int .i64 olot, .int .i64 kind, .int .i64 opens, .int .i64 closes, .int .i64 start, .int .i64 step, .int .i64 extend, .int .i64 last, .int .i64 floor, .int .i64 fall, .int .i64 count, .int .i64 rule, .slice A ooff.length c, .int .i64 otick] (0, 0) _ HX1.out Tryz.underlying36 rfl (by kernel_rfl) ?_)
  refine (HSPA.out _).mono ?_
  rintro e W3 ⟨rfl, hb3⟩
  rw [HSP.out]
  have HX3 := Lib.hid (HX1.out.grow hb3)
  have HY3 := Lib.hid (HY1.out.grow hb3)
  have HB3 := Lib.hid (HB1.out.trans (hb3.mono HB1.out.size))
  clear hb3
  obtain ⟨W4, hW4⟩ : ∃ W4, W4 = W3.alloc (.cells #[.nilFunc, .func (.func 32) #[] #[], .func (.func 33) #[] #[], .func (.func 34) #[] #[], .func (.func 35) #[] #[], .func (.func 36) #[] #[], .func (.func 37) #[] #[]] 96) := ⟨_, rfl⟩
  have hb4 : Below W3.heap.size W3 W4 := by rw [hW4]; exact (Below.refl _ _).alloc (Nat.le_refl _) _
  have HF4 := Lib.hid (show Blk W4 W3.heap.size 96 #[.nilFunc, .func (.func 32) #[] #[], .func (.func 33) #[] #[], .func (.func 34) #[] #[], .func (.func 35) #[] #[], .func (.func 36) #[] #[], .func (.func 37) #[] #[]] by rw [hW4]; exact Blk.new _ _ _)
  have HX4 := Lib.hid (HX3.out.grow hb4)
  have HB4 := Lib.hid (HB3.out.trans (hb4.mono HB3.out.size))
  have HY4 := Lib.hid (HY3.out.grow hb4)
  clear hb4
  go_wp2_with fail
  rw [← hW4]
  clear hW4
  have x0 : W4.cell? ⟨W.heap.size, 0, none⟩ = some (.int .i64 3) := HX4.out.cell 0
  have lx := HX4.out.lt
  have f0 : W4.cell? ⟨W3.heap.size, 3, none⟩ = some (.func (.func 34) #[] #[]) := HF4.out.cell 3
  have lf := HF4.out.lt
  refine wp_region_F (Below W4.heap.size W4) [6, 7, 8, 9, 10, 11] (by kernel_rfl) ((Below.refl _ _).drew) (fun hS => ?_)
  refine wpAnyF_takeD [1, 2, 3, 6, 7, 8, 9, 10, 11] (i := 0) (oi := ⟨some 17, .fieldAddr 36 (.tmp 3) 0, 0, "house.go:88", #[], none⟩) (v := ?_) rfl (by kernel_rfl) (by kernel_rfl) (by kernel_rfl) (by kernel_rfl) (fun _ _ _ h => h) (Or.inl ⟨by rfl, ?_⟩) hS ?_
  rotate_left
  · intro w' _; go_simp; try with_reducible rfl
  try simp only [Act.put, pb, pz, ps]
  refine wpAnyF_takeD [2, 3, 6, 7, 8, 9, 10, 11] (i := 1) (oi := ⟨some 18, .load 29 (.tmp 17), 29, "house.go:88", #[⟨0, .data⟩], none⟩) (v := ?_) rfl (by kernel_rfl) (by kernel_rfl) (by kernel_rfl) (by kernel_rfl) (fun _ _ _ h => h) (Or.inl ⟨by rfl, ?_⟩) hS ?_
  rotate_left
  · intro w' hSw; have q0 := (hSw.cell (p := ⟨W.heap.size, 0, none⟩) lx).trans x0; have qf := (hSw.cell (p := ⟨W3.heap.size, 3, none⟩) lf).trans f0; go_simp; try with_reducible rfl
  try simp only [Act.put, pb, pz, ps]
  refine wpAnyF_takeD [3, 6, 7, 8, 9, 10, 11] (i := 2) (oi := ⟨some 19, .indexAddr 96 (.tmp 5) (.tmp 18), 0, "house.go:88", #[⟨1, .data⟩], none⟩) (v := ?_) rfl (by kernel_rfl) (by kernel_rfl) (by kernel_rfl) (by kernel_rfl) (fun _ _ _ h => h) (Or.inl ⟨by rfl, ?_⟩) hS ?_
  rotate_left
  · intro w' _; go_simp; try with_reducible rfl
  try simp only [Act.put, pb, pz, ps]
  refine wpAnyF_takeD [6, 7, 8, 9, 10, 11] (i := 3) (oi := ⟨some 20, .load 94 (.tmp 19), 94, "house.go:88", #[⟨2, .data⟩], none⟩) (v := ?_) rfl (by kernel_rfl) (by kernel_rfl) (by kernel_rfl) (by kernel_rfl) (fun _ _ _ h => h) (Or.inl ⟨by rfl, ?_⟩) hS ?_
  rotate_left
  · intro w' hSw; have q0 := (hSw.cell (p := ⟨W.heap.size, 0, none⟩) lx).trans x0; have qf := (hSw.cell (p := ⟨W3.heap.size, 3, none⟩) lf).trans f0; go_simp; try with_reducible rfl
  try simp only [Act.put, pb, pz, ps]
  refine wpAnyF_takeD [6, 7, 8, 9, 10, 11] (i := 4) (oi := ⟨some 21, .move (.tmp 0), 23, "house.go:88", #[], none⟩) (v := ?_) rfl (by kernel_rfl) (by kernel_rfl) (by kernel_rfl) (by kernel_rfl) (fun _ _ _ h => h) (Or.inl ⟨by rfl, ?_⟩) hS ?_
  rotate_left
  · intro w' _; go_simp; try with_reducible rfl
  try simp only [Act.put, pb, pz, ps]
  refine wpAnyF_takeD [6, 7, 8, 9, 10, 11] (i := 5) (oi := ⟨some 22, .load 36 (.tmp 3), 36, "house.go:88", #[], none⟩) (v := ?_) rfl (by kernel_rfl) (by kernel_rfl) (by kernel_rfl) (by kernel_rfl) (fun _ _ _ h => h) (Or.inl ⟨by rfl, ?_⟩) hS ?_
  rotate_left
  · intro w' hSw; refine Eq.trans (exec_load_row 36 (.tmp 3) (by rfl) W.heap.size (by rfl) 36 #[.int .i64 3, .string oname, .int .i64 ocoins, .int .i64 obidder, .int .i64 olot, .int .i64 kind, .int .i64 opens, .int .i64 closes, .int .i64 start, .int .i64 step, .int .i64 extend, .int .i64 last, .int .i64 floor, .int .i64 fall, .int .i64 count, .int .i64 rule, .slice A ooff.length c, .int .i64 otick] (0, 0) _ (HX4.out.grow hSw) Tryz.underlying36 rfl (by kernel_rfl)) ?_; with_reducible rfl
  try simp only [Act.put, pb, pz, ps]
  refine wpAnyF_ready (rs := [6]) (by kernel_rfl) (by simp) ?_
  refine AllReadyF.fin (o := ⟨some 23, .call { callee := .value (.tmp 20), args := #[.tmp 21, .tmp 22], argTypes := #[23, 36] }, 97, "house.go:88", #[⟨3, .data⟩, ⟨4, .data⟩, ⟨5, .data⟩], none⟩) rfl (by rfl) (fun K hK => ?_) ?_
  · go_simp
    refine (HM.out W4.drew (((HH.out.grow HB4.out)).grow (Below.refl _ _).drew) (Offs.grow (Offs.grow HO.out HB4.out) (Below.refl _ _).drew)).mono ?_
    rintro e W5 ⟨rfl, T5, hH5, hM5⟩
    have hM5 : Moves W4 T W5 T5 := ⟨((Chg.refl _ W4).grow (Below.refl _ _).drew).trans hM5.chg, fun b hb => hM5.tag b hb⟩
    have HH5 := Lib.hid hH5
    have HM5 := Lib.hid hM5
    have hno : ∀ b, W.heap.size ≤ b → ¬ Own T b := fun b hb ho => ho.2 (HNO.out b hb)
    have HX5 := Lib.hid (HX4.out.chg hM5.chg (hno _ (Nat.le_refl _)))
    have HY5 := Lib.hid (HY4.out.chg hM5.chg (hno _ (Nat.le_succ _)))
    have HO5 := Lib.hid (Offs.chg (Offs.grow HO.out HB4.out) hM5.chg fun b _ hr ho => ho.2 (HRN.out b hr.2 hr.1))
    clear hH5 hM5 hno
    refine hK.out _ _ ?_
    clear hK K
    try simp only [Act.put, pb, pz, ps]
    refine wpAnyF_takeW (i := 7) (oi := ⟨some 16, .move (.tmp 23), 97, "house.go:88", #[⟨6, .data⟩], none⟩) (v := ?_) rfl (by kernel_rfl) (by kernel_rfl) (by kernel_rfl) (by kernel_rfl) (fun _ _ _ h => h) (Or.inl ⟨by rfl, ?_⟩) ?_
    rotate_left
    · intro w' _; go_simp; try with_reducible rfl
    try simp only [Act.put, pb, pz, ps]
    refine wpAnyF_takeW (i := 8) (oi := ⟨some 24, .extract (.tmp 16) 0, 2, "house.go:88", #[⟨7, .data⟩], none⟩) (v := ?_) rfl (by kernel_rfl) (by kernel_rfl) (by kernel_rfl) (by kernel_rfl) (fun _ _ _ h => h) (Or.inl ⟨by rfl, ?_⟩) ?_
    rotate_left
    · intro w' _; go_simp; try with_reducible rfl
    try simp only [Act.put, pb, pz, ps]
    refine wpAnyF_takeW (i := 9) (oi := ⟨some 25, .extract (.tmp 16) 1, 25, "house.go:88", #[⟨7, .data⟩, ⟨10, .gcOnly .lateStores⟩], none⟩) (v := ?_) rfl (by kernel_rfl) (by kernel_rfl) (by kernel_rfl) (by kernel_rfl) (fun _ _ _ h => h) (Or.inl ⟨by rfl, ?_⟩) ?_
    rotate_left
    · intro w' _; go_simp; try with_reducible rfl
    try simp only [Act.put, pb, pz, ps]
    refine wpAnyF_takeW (i := 10) (oi := ⟨some 6, .assign (.tmp 24), 2, "house.go:88", #[⟨8, .data⟩, ⟨6, .chain⟩, ⟨0, .phase⟩, ⟨1, .phase⟩, ⟨2, .phase⟩, ⟨3, .phase⟩, ⟨4, .phase⟩, ⟨5, .phase⟩, ⟨6, .phase⟩, ⟨7, .phase⟩, ⟨8, .phase⟩, ⟨9, .textOnly .lateStores⟩], none⟩) (v := ?_) rfl (by kernel_rfl) (by kernel_rfl) (by kernel_rfl) (by kernel_rfl) (fun _ _ _ h => h) (Or.inl ⟨by rfl, ?_⟩) ?_
    rotate_left
    · intro w' _; go_simp; try with_reducible rfl
    try simp only [Act.put, pb, pz, ps]
    refine wpAnyF_takeW (i := 11) (oi := ⟨some 7, .assign (.tmp 25), 25, "house.go:88", #[⟨9, .data⟩, ⟨10, .chain⟩, ⟨0, .phase⟩, ⟨1, .phase⟩, ⟨2, .phase⟩, ⟨3, .phase⟩, ⟨4, .phase⟩, ⟨5, .phase⟩, ⟨6, .phase⟩, ⟨7, .phase⟩, ⟨8, .phase⟩, ⟨9, .phase⟩, ⟨10, .phase⟩], none⟩) (v := ?_) rfl (by kernel_rfl) (by kernel_rfl) (by kernel_rfl) (by kernel_rfl) (fun _ _ _ h => h) (Or.inl ⟨by rfl, ?_⟩) ?_
    rotate_left
    · intro w' _; go_simp; try with_reducible rfl
    try simp only [Act.put, pb, pz, ps]
    refine wpAnyF_done (by kernel_rfl) ?_ _
    clear hS x0 f0 lf lx
    obtain ⟨pn, pc, va, vl, vb, vs, hH5⟩ := HH5.out
    obtain ⟨vo, hrow, hvo⟩ := hH5.book
    obtain ⟨Ab, cb, hvb⟩ := hrow.form
    obtain ⟨nb, hnb⟩ : ∃ n, n = H1.book.length := ⟨_, rfl⟩
    have HNB := Lib.hid hnb
    have HROW := Lib.hid (show RowAt W5 (fun b => T5 b = .book ∧ b < W5.heap.size) 36 18 (.slice Ab nb cb) nb (orderCells H1.book vo) by rw [hnb, ← hvb]; exact hrow.mono fun b hb hr => ⟨hr, hb⟩)
    have HVO := Lib.hid hvo
    have HVB := Lib.hid (show vb = .slice Ab nb cb by rw [hnb]; exact hvb)
    have HA5 := Lib.hid hH5
    have c4 : W5.cell? ⟨h, 4, none⟩ = some (.slice Ab nb cb) := hH5.cells.2.2.2.2.1.trans (by rw [hvb, hnb])
    have lh := hH5.cells.2.2.2.2.2.2
    have or1 : ¬ (Value.slice Ab nb cb).ownBlock = some h := fun e => by have h3 := (HROW.out.blk h e).1; rw [hH5.top] at h3; cases h3
    have HOR := Lib.hid or1
    have HT5 := Lib.hid (show ∀ b, W.heap.size ≤ b → b < W4.heap.size → T5 b = .no from fun b h1 h2 => (HM5.out.tag b h2).trans (HNO.out b h1))
    have hlx4 : W.heap.size < W4.heap.size := HX4.out.lt
    have ox1 : ¬ (Value.slice Ab nb cb).ownBlock = some W.heap.size := fun e => by have h3 := (HROW.out.blk _ e).1; rw [HT5.out _ (Nat.le_refl _) hlx4] at h3; cases h3
    clear hrow hvo hvb hnb hH5 hlx4
    go_wp2_with fail
    refine wp_region_F (Chg (fun b => (Value.slice Ab nb cb).ownBlock = some b) W5) [13] (by kernel_rfl) ((Chg.refl _ W5).grow (Below.refl _ _).drew) (fun hS => ?_)
    refine wpAnyF_take (i := 0) (oi := ⟨some 30, .move (.tmp 0), 23, "house.go:92", #[], none⟩) (v := ?_) rfl (by kernel_rfl) (by kernel_rfl) (by kernel_rfl) (by kernel_rfl) (fun _ _ _ h => h) (Or.inl ⟨by rfl, ?_⟩) hS ?_
    rotate_left
    · intro w' _; go_simp; try with_reducible rfl
    try simp only [Act.put, pb, pz, ps]
    refine wpAnyF_take (i := 1) (oi := ⟨some 31, .move (.tmp 0), 23, "house.go:92", #[], none⟩) (v := ?_) rfl (by kernel_rfl) (by kernel_rfl) (by kernel_rfl) (by kernel_rfl) (fun _ _ _ h => h) (Or.inl ⟨by rfl, ?_⟩) hS ?_
    rotate_left
    · intro w' _; go_simp; try with_reducible rfl
    try simp only [Act.put, pb, pz, ps]
    refine wpAnyF_take (i := 2) (oi := ⟨some 32, .nilCheck (.tmp 31), 0, "house.go:92", #[⟨1, .data⟩], none⟩) (v := ?_) rfl (by kernel_rfl) (by kernel_rfl) (by kernel_rfl) (by kernel_rfl) (fun _ _ _ h => h) (Or.inl ⟨by rfl, ?_⟩) hS ?_
    rotate_left
    · intro w' _; go_simp; try with_reducible rfl
    try simp only [Act.put, pb, pz, ps]
    refine wpAnyF_take (i := 3) (oi := ⟨some 33, .fieldAddr 92 (.tmp 32) 0, 0, "house.go:92", #[⟨2, .data⟩], none⟩) (v := ?_) rfl (by kernel_rfl) (by kernel_rfl) (by kernel_rfl) (by kernel_rfl) (fun _ _ _ h => h) (Or.inl ⟨by rfl, ?_⟩) hS ?_
    rotate_left
    · intro w' _; go_simp; try with_reducible rfl
    try simp only [Act.put, pb, pz, ps]
    refine wpAnyF_take (i := 4) (oi := ⟨some 34, .fieldAddr 90 (.tmp 33) 4, 0, "house.go:92", #[⟨3, .data⟩], none⟩) (v := ?_) rfl (by kernel_rfl) (by kernel_rfl) (by kernel_rfl) (by kernel_rfl) (fun _ _ _ h => h) (Or.inl ⟨by rfl, ?_⟩) hS ?_
    rotate_left
    · intro w' _; go_simp; try with_reducible rfl
    try simp only [Act.put, pb, pz, ps]
    refine wpAnyF_take (i := 5) (oi := ⟨some 35, .load 22 (.tmp 34), 22, "house.go:92", #[⟨4, .data⟩], none⟩) (v := ?_) rfl (by kernel_rfl) (by kernel_rfl) (by kernel_rfl) (by kernel_rfl) (fun _ _ _ h => h) (Or.inl ⟨by rfl, ?_⟩) hS ?_
    rotate_left
    · intro w' hSw; have q4 := (hSw.cell (p := ⟨h, 4, none⟩) lh or1).trans c4; go_simp; try with_reducible rfl
    try simp only [Act.put, pb, pz, ps]
    refine wpAnyF_take (i := 6) (oi := ⟨some 36, .load 36 (.tmp 3), 36, "house.go:92", #[], none⟩) (v := ?_) rfl (by kernel_rfl) (by kernel_rfl) (by kernel_rfl) (by kernel_rfl) (fun _ _ _ h => h) (Or.inl ⟨by rfl, ?_⟩) hS ?_
    rotate_left
    · intro w' hSw; refine Eq.trans (exec_load_row 36 (.tmp 3) (by rfl) W.heap.size (by rfl) 36 #[.int .i64 3, .string oname, .int .i64 ocoins, .int .i64 obidder, .int .i64 olot, .int .i64 kind, .int .i64 opens, .int .i64 closes, .int .i64 start, .int .i64 step, .int .i64 extend, .int .i64 last, .int .i64 floor, .int .i64 fall, .int .i64 count, .int .i64 rule, .slice A ooff.length c, .int .i64 otick] (0, 0) _ (HX5.out.chg hSw ox1) Tryz.underlying36 rfl (by kernel_rfl)) ?_; with_reducible rfl
    try simp only [Act.put, pb, pz, ps]
    refine wpAnyF_ready (rs := [7]) (by kernel_rfl) (by simp) ?_
    refine AllReadyF.cons (o := ⟨some 37, .call { callee := .value (.func 38), args := #[.tmp 36], argTypes := #[36] }, 36, "house.go:92", #[⟨6, .data⟩], none⟩) rfl (by rfl) (fun K hK => ?_) ?_
    · go_simp
      refine (hcopied_any (W := W5.drew) ⟨3, oname, ocoins, obidder, olot, ⟨kind, opens, closes, start, step, extend, last, floor, fall, count, rule⟩, ooff, otick⟩ (Offs.grow HO5.out (Below.refl _ _).drew) HLO.out).mono ?_
      rintro e W6 ⟨A6, c6, rfl, hO6, hb6⟩
      have hb6 : Below W5.heap.size W5 W6 := (Below.refl _ _).drew.trans (hb6.mono (Nat.le_refl _))
      simp only [OrderR.agg, OrderR.cells, LotR.cells, List.cons_append, List.nil_append]
      refine hK.out _ _ ?_ (fun hS => ?_)
      · exact (Chg.refl _ W5).grow hb6
      clear hK K
      try simp only [Act.put, pb, pz, ps]
      have HO6 := Lib.hid hO6
      have HB6 := Lib.hid hb6
      have HRW := Lib.hid ((HROW.out.grow hb6).grow ((Below.refl _ _).alloc (Nat.le_refl _) (.cells #[.int .i64 3, .string oname, .int .i64 ocoins, .int .i64 obidder, .int .i64 olot, .int .i64 kind, .int .i64 opens, .int .i64 closes, .int .i64 start, .int .i64 step, .int .i64 extend, .int .i64 last, .int .i64 floor, .int .i64 fall, .int .i64 count, .int .i64 rule, .slice A6 ooff.length c6, .int .i64 otick] 36)))
      clear hO6 hb6
      refine wpAnyF_ready (rs := [8]) (by kernel_rfl) (by simp) ?_
      refine AllReadyF.cons (o := ⟨some 38, .buildSlice 22 1 #[(0, .tmp 37)], 22, "house.go:92", #[⟨7, .data⟩], none⟩) rfl (by rfl) (fun K hK => ?_) ?_
      · go_simp
        refine hK.out _ _ ?_ (fun hS => ?_)
        · exact hS.grow ((Below.refl _ _).alloc (Nat.le_refl _) _)
        clear hK K
        try simp only [Act.put, pb, pz, ps]
        refine wpAnyF_ready (rs := [9]) (by kernel_rfl) (by simp) ?_
        refine AllReadyF.cons (o := ⟨some 39, .call { callee := .builtin .append, args := #[.tmp 35, .tmp 38], argTypes := #[22, 22] }, 22, "house.go:92", #[⟨5, .data⟩, ⟨8, .data⟩, ⟨7, .chain⟩], none⟩) rfl (by rfl) (fun K hK => ?_) ?_
        · refine step_row (W6.alloc (.cells #[.int .i64 3, .string oname, .int .i64 ocoins, .int .i64 obidder, .int .i64 olot, .int .i64 kind, .int .i64 opens, .int .i64 closes, .int .i64 start, .int .i64 step, .int .i64 extend, .int .i64 last, .int .i64 floor, .int .i64 fall, .int .i64 count, .int .i64 rule, .slice A6 ooff.length c6, .int .i64 otick] 36)) (.tmp 35) (.tmp 38) rfl et_order rfl (.slice Ab nb cb) nb (orderCells H1.book vo) rfl HRW.out (.slice (some ⟨W6.heap.size, 0, none⟩) 1 1) 1 [.int .i64 3, .string oname, .int .i64 ocoins, .int .i64 obidder, .int .i64 olot, .int .i64 kind, .int .i64 opens, .int .i64 closes, .int .i64 start, .int .i64 step, .int .i64 extend, .int .i64 last, .int .i64 floor, .int .i64 fall, .int .i64 count, .int .i64 rule, .slice A6 ooff.length c6, .int .i64 otick] rfl (Sl.lit1 (Blk.new W6 36 #[.int .i64 3, .string oname, .int .i64 ocoins, .int .i64 obidder, .int .i64 olot, .int .i64 kind, .int .i64 opens, .int .i64 closes, .int .i64 start, .int .i64 step, .int .i64 extend, .int .i64 last, .int .i64 floor, .int .i64 fall, .int .i64 count, .int .i64 rule, .slice A6 ooff.length c6, .int .i64 otick]) rfl) (by simp [Value.oneCell']) (by have := HBL.out; have := HNB.out; omega) (by have := HBL.out; have := HNB.out; unfold maxLen; omega) ?_
          intro A7 c7 Z hrZ hcZ
          refine hK.out _ _ ?_ (fun hS => ?_)
          · exact hS.trans hcZ
          clear hK K
          try simp only [Act.put, pb, pz, ps]
          have HHZ := Lib.hid (((HA5.out.blk.grow HB6.out).alloc (.cells #[.int .i64 3, .string oname, .int .i64 ocoins, .int .i64 obidder, .int .i64 olot, .int .i64 kind, .int .i64 opens, .int .i64 closes, .int .i64 start, .int .i64 step, .int .i64 extend, .int .i64 last, .int .i64 floor, .int .i64 fall, .int .i64 count, .int .i64 rule, .slice A6 ooff.length c6, .int .i64 otick] 36)).chg hcZ HOR.out)
          have HZR := Lib.hid hrZ
          have HZC := Lib.hid hcZ
          obtain ⟨U, hU⟩ : ∃ U, U = Z.setCell ⟨h, 4, none⟩ (.slice A7 (nb + 1) c7) := ⟨_, rfl⟩
          have HU := Lib.hid hU
          clear hrZ hcZ hU
          refine wpAnyF_takeD [11, 12, 13] (i := 10) (oi := ⟨some 40, .nilCheck (.tmp 30), 0, "house.go:92", #[⟨0, .data⟩, ⟨0, .phase⟩, ⟨1, .phase⟩, ⟨2, .phase⟩, ⟨3, .phase⟩, ⟨4, .phase⟩, ⟨5, .phase⟩, ⟨6, .phase⟩, ⟨7, .phase⟩, ⟨8, .phase⟩, ⟨9, .phase⟩], none⟩) (v := ?_) rfl (by kernel_rfl) (by kernel_rfl) (by kernel_rfl) (by kernel_rfl) (fun _ _ _ h => h) (Or.inl ⟨by rfl, ?_⟩) hS ?_
          rotate_left
          · intro w' _; go_simp; try with_reducible rfl
          try simp only [Act.put, pb, pz, ps]
          refine wpAnyF_takeD [12, 13] (i := 11) (oi := ⟨some 41, .fieldAddr 92 (.tmp 40) 0, 0, "house.go:92", #[⟨10, .data⟩, ⟨0, .phase⟩, ⟨1, .phase⟩, ⟨2, .phase⟩, ⟨3, .phase⟩, ⟨4, .phase⟩, ⟨5, .phase⟩, ⟨6, .phase⟩, ⟨7, .phase⟩, ⟨8, .phase⟩, ⟨9, .phase⟩], none⟩) (v := ?_) rfl (by kernel_rfl) (by kernel_rfl) (by kernel_rfl) (by kernel_rfl) (fun _ _ _ h => h) (Or.inl ⟨by rfl, ?_⟩) hS ?_
          rotate_left
          · intro w' _; go_simp; try with_reducible rfl
          try simp only [Act.put, pb, pz, ps]
          refine wpAnyF_take (i := 12) (oi := ⟨some 42, .fieldAddr 90 (.tmp 41) 4, 0, "house.go:92", #[⟨11, .data⟩, ⟨0, .phase⟩, ⟨1, .phase⟩, ⟨2, .phase⟩, ⟨3, .phase⟩, ⟨4, .phase⟩, ⟨5, .phase⟩, ⟨6, .phase⟩, ⟨7, .phase⟩, ⟨8, .phase⟩, ⟨9, .phase⟩], none⟩) (v := ?_) rfl (by kernel_rfl) (by kernel_rfl) (by kernel_rfl) (by kernel_rfl) (fun _ _ _ h => h) (Or.inl ⟨by rfl, ?_⟩) hS ?_
          rotate_left
          · intro w' _; go_simp; try with_reducible rfl
          try simp only [Act.put, pb, pz, ps]
          refine wpAnyF_ready (rs := [13]) (by kernel_rfl) (by simp) ?_
          refine AllReadyF.fin (o := ⟨none, .store 22 (.tmp 42) (.tmp 39), 0, "house.go:92", #[⟨12, .data⟩, ⟨9, .data⟩, ⟨9, .chain⟩, ⟨0, .phase⟩, ⟨1, .phase⟩, ⟨2, .phase⟩, ⟨3, .phase⟩, ⟨4, .phase⟩, ⟨5, .phase⟩, ⟨6, .phase⟩, ⟨7, .phase⟩, ⟨8, .phase⟩, ⟨9, .phase⟩], none⟩) rfl (by rfl) (fun K hK => ?_) ?_
          · have f4 := HHZ.out.frozen 4
            have d4 := HHZ.out.cell 4
            go_simp
            rw [← HU.out]
            refine hK.out _ _ ?_
            clear hK K
            try simp only [Act.put, pb, pz, ps]
            refine wpAnyF_done (by kernel_rfl) ?_ _
            clear hS c4 lh or1 ox1
            have hlh : h < W5.heap.size := HA5.out.blk.lt
            have hcU1 : Chg (· = h) Z U := by rw [HU.out]; exact Chg.set Z ⟨h, 4, none⟩ _
            have HBU := Lib.hid (show Blk U h 92 #[.pointer (some ⟨pn, 0, none⟩), va, vl, .pointer (some ⟨pc, 0, none⟩), .slice A7 (nb + 1) c7, vs] by rw [HU.out]; exact HHZ.out.set_ 4 _)
            have hrowU := HZR.out.chgB hcU1 (fun b hb e => by
              rcases HZR.out.blk b hb with k | k
              · have := k.1; rw [e, HA5.out.top] at this; cases this
              · have h1 := HB6.out.size; rw [World.size_alloc] at k; omega)
            have hend := book_end (o := ⟨3, oname, ocoins, obidder, olot, ⟨kind, opens, closes, start, step, extend, last, floor, fall, count, rule⟩, ooff, otick⟩) HA5.out HVO.out HNB.out HB6.out HO6.out (hrowU.mono fun b _ k => k.elim .inl (fun k => .inr (by rw [World.size_alloc] at k; omega)))
              ((((Chg.refl _ W6).grow ((Below.refl _ _).alloc (Nat.le_refl _) _)).step HZC.out fun b _ e => ⟨.inl (HROW.out.blk b e).1, (HROW.out.blk b e).2⟩).step hcU1 fun b _ e => ⟨.inr (e ▸ HA5.out.top), by omega⟩) HBU.out
            have HEND := Lib.hid hend
            have hys : W.heap.size + 1 < W4.heap.size := HY4.out.lt
            have hyU := ((((HY5.out.grow HB6.out).alloc (.cells #[.int .i64 3, .string oname, .int .i64 ocoins, .int .i64 obidder, .int .i64 olot, .int .i64 kind, .int .i64 opens, .int .i64 closes, .int .i64 start, .int .i64 step, .int .i64 extend, .int .i64 last, .int .i64 floor, .int .i64 fall, .int .i64 count, .int .i64 rule, .slice A6 ooff.length c6, .int .i64 otick] 36)).chg HZC.out (fun e => by have h3 := (HROW.out.blk _ e).1; rw [HT5.out _ (Nat.le_succ _) hys] at h3; cases h3))).chg hcU1 (fun e => by have h3 := HA5.out.top; rw [← e, HT5.out _ (Nat.le_succ _) hys] at h3; cases h3)
            have HYU := Lib.hid hyU
            have y0 : U.cell? ⟨W.heap.size + 1, 0, none⟩ = some (.int .i64 0) := hyU.cell 0
            have y1 : U.cell? ⟨W.heap.size + 1, 1, none⟩ = some (.int .i64 0) := hyU.cell 1
            have y2 : U.cell? ⟨W.heap.size + 1, 2, none⟩ = some (.int .i64 0) := hyU.cell 2
            have yf := hyU.frozen
            have d4 : U.cell? ⟨h, 4, none⟩ = some (.slice A7 (nb + 1) c7) := HBU.out.cell 4
            have hw1 : IntKind.i64.wrap (nb : Int) = (nb : Int) := IntWalk.i64_in _ (by have := HBL.out; have := HNB.out; omega)
            clear hlh hcU1 hrowU hend hyU hys
            go_wp2_with fail
            have hfin : Blk (((U.setCell ⟨W.heap.size + 1, 0, none⟩ (.int .i64 nb)).setCell ⟨W.heap.size + 1, 1, none⟩ (.int .i64 0)).setCell ⟨W.heap.size + 1, 2, none⟩ (.int .i64 v)) (W.heap.size + 1) 27 #[.int .i64 nb, .int .i64 0, .int .i64 v] := ((HYU.out.set_ 0 _).set_ 1 _).set_ 2 _
            have hcV : Chg (· = W.heap.size + 1) U (((U.setCell ⟨W.heap.size + 1, 0, none⟩ (.int .i64 nb)).setCell ⟨W.heap.size + 1, 1, none⟩ (.int .i64 0)).setCell ⟨W.heap.size + 1, 2, none⟩ (.int .i64 v)) := ((Chg.set U ⟨W.heap.size + 1, 0, none⟩ _).trans (Chg.set _ ⟨W.heap.size + 1, 1, none⟩ _)).trans (Chg.set _ ⟨W.heap.size + 1, 2, none⟩ _)
            refine bodyPost_ret (results_cell_row rfl _ _ (W.heap.size + 1) 27 #[.int .i64 nb, .int .i64 0, .int .i64 v] (0, 0) _ rfl hfin Tryz.underlying27 rfl (by kernel_rfl)) rfl ⟨by rw [HNB.out], ?_⟩
            obtain ⟨T6, hH6, hM6⟩ := HEND.out
            have hMM := HM5.out.trans hM6
            have hny : T6 (W.heap.size + 1) = .no := (hMM.tag _ HY4.out.lt).trans (HNO.out _ (Nat.le_succ _))
            refine ⟨T6, hH6.keep hcV (fun b hb e => hb (e ▸ hny)), ((Chg.of _ HB4.out).trans hMM.chg).step hcV (fun b hb e => by omega), fun b hb => hMM.tag b (Nat.lt_of_lt_of_le hb HB4.out.size)⟩
          exact AllReadyF.nil
        exact AllReadyF.nil
      exact AllReadyF.nil
    exact AllReadyF.nil
  exact AllReadyF.nil
set_option maxRecDepth 100000 in
set_option maxHeartbeats 4000000 in
theorem do_err_4 {W : World} {T : Nat → Part} {h K : Nat} {H : House} (hH : HouseIn W T h K H) (o : OrderR) {A : Option Addr} {c : Nat} (hk : o.kind = 4) (hsp : spareB o = true) {R : Nat → Prop} (hO : Offs W R (.slice A o.offers.length c) o.offers) {err : Int} (he : err ≠ 0)
    (hm : ∀ W1, HouseIn W1 T h K H → Offs W1 R (.slice A o.offers.length c) o.offers → Calls Tryz.prog 35 #[.pointer (some ⟨h, 0, none⟩), o.agg (.slice A o.offers.length c)] W1 fun e W' => e = .returned (.tuple #[.int .i64 0, .int .i64 err]) ∧ Below W1.heap.size W1 W') :
    Calls Tryz.prog 9 #[.pointer (some ⟨h, 0, none⟩), o.agg (.slice A o.offers.length c)] W fun e W' => e = .returned (ansV 0 err 0) ∧ Below W.heap.size W W' := by
  obtain ⟨okind, oname, ocoins, obidder, olot, ⟨kind, opens, closes, start, step, extend, last, floor, fall, count, rule⟩, ooff, otick⟩ := o
  simp only at hk hO
  subst hk
  have HSP := Lib.hid hsp
  have HM := Lib.hid hm
  have HH := Lib.hid hH
  have HO := Lib.hid hO
  have hspa := fun W => spare_any ⟨4, oname, ocoins, obidder, olot, ⟨kind, opens, closes, start, step, extend, last, floor, fall, count, rule⟩, ooff, otick⟩ A c W
  have HSPA := Lib.hid hspa
  simp only [OrderR.agg, OrderR.cells, LotR.cells, List.cons_append, List.nil_append] at HM HSPA ⊢
  obtain ⟨W1, hW1⟩ : ∃ W1, W1 = (W.alloc (.cells #[.int .i64 4, .string oname, .int .i64 ocoins, .int .i64 obidder, .int .i64 olot, .int .i64 kind, .int .i64 opens, .int .i64 closes, .int .i64 start, .int .i64 step, .int .i64 extend, .int .i64 last, .int .i64 floor, .int .i64 fall, .int .i64 count, .int .i64 rule, .slice A ooff.length c, .int .i64 otick] 36)).alloc (.cells #[.int .i64 0, .int .i64 0, .int .i64 0] 27) := ⟨_, rfl⟩
  have hb1 : Below W.heap.size W W1 := by rw [hW1]; exact ((Below.refl _ _).alloc (Nat.le_refl _) _).alloc (by simp) _
  have HX1 := Lib.hid (show Blk W1 W.heap.size 36 #[.int .i64 4, .string oname, .int .i64 ocoins, .int .i64 obidder, .int .i64 olot, .int .i64 kind, .int .i64 opens, .int .i64 closes, .int .i64 start, .int .i64 step, .int .i64 extend, .int .i64 last, .int .i64 floor, .int .i64 fall, .int .i64 count, .int .i64 rule, .slice A ooff.length c, .int .i64 otick] by rw [hW1]; exact (Blk.new W _ _).alloc _)
  have HY1 := Lib.hid (show Blk W1 (W.heap.size + 1) 27 #[.int .i64 0, .int .i64 0, .int .i64 0] by rw [hW1]; exact Blk.new' _ _ (by simp))
  have HB1 := Lib.hid hb1
  clear hH hO hsp hm hspa hb1
  go_enter Tryz.func9, Tryz.ntmps9
  go_wp2_with fail
  rw [← hW1]
  clear hW1
  refine (hnone_any (HH.out.grow HB1.out)).mono ?_
  rintro e W2 ⟨rfl, rfl⟩
  go_wp2_with (refine wpList_load_row rfl 36 (.tmp 3) rfl W.heap.size rfl 36 #[.int .i64 4, .string oname, .int .i64 ocoins, .int .i64 obidder, .int .i64 olot, .int .i64 kind, .int .i64 opens, .int .i64 closes, .int .i64 start, .int .i64 step, .int .i64 extend, .int .i64 last, .int .i64 floor, .int .i64 fall, .int .i64 count, .int .i64 rule, .slice A ooff.length c, .int .i64 otick] (0, 0) _ HX1.out Tryz.underlying36 rfl (by kernel_rfl) ?_)
  refine (HSPA.out _).mono ?_
  rintro e W3 ⟨rfl, hb3⟩
  rw [HSP.out]
  have HX3 := Lib.hid (HX1.out.grow hb3)
  have HY3 := Lib.hid (HY1.out.grow hb3)
  have HB3 := Lib.hid (HB1.out.trans (hb3.mono HB1.out.size))
  clear hb3
  obtain ⟨W4, hW4⟩ : ∃ W4, W4 = W3.alloc (.cells #[.nilFunc, .func (.func 32) #[] #[], .func (.func 33) #[] #[], .func (.func 34) #[] #[], .func (.func 35) #[] #[], .func (.func 36) #[] #[], .func (.func 37) #[] #[]] 96) := ⟨_, rfl⟩
  have hb4 : Below W3.heap.size W3 W4 := by rw [hW4]; exact (Below.refl _ _).alloc (Nat.le_refl _) _
  have HF4 := Lib.hid (show Blk W4 W3.heap.size 96 #[.nilFunc, .func (.func 32) #[] #[], .func (.func 33) #[] #[], .func (.func 34) #[] #[], .func (.func 35) #[] #[], .func (.func 36) #[] #[], .func (.func 37) #[] #[]] by rw [hW4]; exact Blk.new _ _ _)
  have HX4 := Lib.hid (HX3.out.grow hb4)
  have HB4 := Lib.hid (HB3.out.trans (hb4.mono HB3.out.size))
  have HY4 := Lib.hid (HY3.out.grow hb4)
  clear hb4
  go_wp2_with fail
  rw [← hW4]
  clear hW4
  have x0 : W4.cell? ⟨W.heap.size, 0, none⟩ = some (.int .i64 4) := HX4.out.cell 0
  have lx := HX4.out.lt
  have f0 : W4.cell? ⟨W3.heap.size, 4, none⟩ = some (.func (.func 35) #[] #[]) := HF4.out.cell 4
  have lf := HF4.out.lt
  refine wp_region_F (Below W4.heap.size W4) [] (by kernel_rfl) ((Below.refl _ _).drew) (fun hS => ?_)
  refine wpAnyF_take (i := 0) (oi := ⟨some 17, .fieldAddr 36 (.tmp 3) 0, 0, "house.go:88", #[], none⟩) (v := ?_) rfl (by kernel_rfl) (by kernel_rfl) (by kernel_rfl) (by kernel_rfl) (fun _ _ _ h => h) (Or.inl ⟨by rfl, ?_⟩) hS ?_
  rotate_left
  · intro w' _; go_simp; try with_reducible rfl
  try simp only [Act.put, pb, pz, ps]
  refine wpAnyF_take (i := 1) (oi := ⟨some 18, .load 29 (.tmp 17), 29, "house.go:88", #[⟨0, .data⟩], none⟩) (v := ?_) rfl (by kernel_rfl) (by kernel_rfl) (by kernel_rfl) (by kernel_rfl) (fun _ _ _ h => h) (Or.inl ⟨by rfl, ?_⟩) hS ?_
  rotate_left
  · intro w' hSw; have q0 := (hSw.cell (p := ⟨W.heap.size, 0, none⟩) lx).trans x0; have qf := (hSw.cell (p := ⟨W3.heap.size, 4, none⟩) lf).trans f0; go_simp; try with_reducible rfl
  try simp only [Act.put, pb, pz, ps]
  refine wpAnyF_take (i := 2) (oi := ⟨some 19, .indexAddr 96 (.tmp 5) (.tmp 18), 0, "house.go:88", #[⟨1, .data⟩], none⟩) (v := ?_) rfl (by kernel_rfl) (by kernel_rfl) (by kernel_rfl) (by kernel_rfl) (fun _ _ _ h => h) (Or.inl ⟨by rfl, ?_⟩) hS ?_
  rotate_left
  · intro w' _; go_simp; try with_reducible rfl
  try simp only [Act.put, pb, pz, ps]
  refine wpAnyF_take (i := 3) (oi := ⟨some 20, .load 94 (.tmp 19), 94, "house.go:88", #[⟨2, .data⟩], none⟩) (v := ?_) rfl (by kernel_rfl) (by kernel_rfl) (by kernel_rfl) (by kernel_rfl) (fun _ _ _ h => h) (Or.inl ⟨by rfl, ?_⟩) hS ?_
  rotate_left
  · intro w' hSw; have q0 := (hSw.cell (p := ⟨W.heap.size, 0, none⟩) lx).trans x0; have qf := (hSw.cell (p := ⟨W3.heap.size, 4, none⟩) lf).trans f0; go_simp; try with_reducible rfl
  try simp only [Act.put, pb, pz, ps]
  refine wpAnyF_take (i := 4) (oi := ⟨some 21, .move (.tmp 0), 23, "house.go:88", #[], none⟩) (v := ?_) rfl (by kernel_rfl) (by kernel_rfl) (by kernel_rfl) (by kernel_rfl) (fun _ _ _ h => h) (Or.inl ⟨by rfl, ?_⟩) hS ?_
  rotate_left
  · intro w' _; go_simp; try with_reducible rfl
  try simp only [Act.put, pb, pz, ps]
  refine wpAnyF_take (i := 5) (oi := ⟨some 22, .load 36 (.tmp 3), 36, "house.go:88", #[], none⟩) (v := ?_) rfl (by kernel_rfl) (by kernel_rfl) (by kernel_rfl) (by kernel_rfl) (fun _ _ _ h => h) (Or.inl ⟨by rfl, ?_⟩) hS ?_
  rotate_left
  · intro w' hSw; refine Eq.trans (exec_load_row 36 (.tmp 3) (by rfl) W.heap.size (by rfl) 36 #[.int .i64 4, .string oname, .int .i64 ocoins, .int .i64 obidder, .int .i64 olot, .int .i64 kind, .int .i64 opens, .int .i64 closes, .int .i64 start, .int .i64 step, .int .i64 extend, .int .i64 last, .int .i64 floor, .int .i64 fall, .int .i64 count, .int .i64 rule, .slice A ooff.length c, .int .i64 otick] (0, 0) _ (HX4.out.grow hSw) Tryz.underlying36 rfl (by kernel_rfl)) ?_; with_reducible rfl
  try simp only [Act.put, pb, pz, ps]
  refine wpAnyF_ready (rs := [6]) (by kernel_rfl) (by simp) ?_
  refine AllReadyF.cons (o := ⟨some 23, .call { callee := .value (.tmp 20), args := #[.tmp 21, .tmp 22], argTypes := #[23, 36] }, 97, "house.go:88", #[⟨3, .data⟩, ⟨4, .data⟩, ⟨5, .data⟩], none⟩) rfl (by rfl) (fun K hK => ?_) ?_
  · go_simp
    refine (HM.out W4.drew (((HH.out.grow HB4.out)).grow (Below.refl _ _).drew) (Offs.grow (Offs.grow HO.out HB4.out) (Below.refl _ _).drew)).mono ?_
    rintro e W5 ⟨rfl, hb5⟩
    have HB5 := Lib.hid ((Below.refl W4.heap.size W4).drew.trans (hb5.mono (by simp)))
    clear hb5
    refine hK.out _ _ ?_ (fun hS => ?_)
    · exact HB5.out
    clear hK K
    try simp only [Act.put, pb, pz, ps]
    refine wpAnyF_take (i := 7) (oi := ⟨some 16, .move (.tmp 23), 97, "house.go:88", #[⟨6, .data⟩], none⟩) (v := ?_) rfl (by kernel_rfl) (by kernel_rfl) (by kernel_rfl) (by kernel_rfl) (fun _ _ _ h => h) (Or.inl ⟨by rfl, ?_⟩) hS ?_
    rotate_left
    · intro w' _; go_simp; try with_reducible rfl
    try simp only [Act.put, pb, pz, ps]
    refine wpAnyF_take (i := 8) (oi := ⟨some 24, .extract (.tmp 16) 0, 2, "house.go:88", #[⟨7, .data⟩], none⟩) (v := ?_) rfl (by kernel_rfl) (by kernel_rfl) (by kernel_rfl) (by kernel_rfl) (fun _ _ _ h => h) (Or.inl ⟨by rfl, ?_⟩) hS ?_
    rotate_left
    · intro w' _; go_simp; try with_reducible rfl
    try simp only [Act.put, pb, pz, ps]
    refine wpAnyF_take (i := 9) (oi := ⟨some 25, .extract (.tmp 16) 1, 25, "house.go:88", #[⟨7, .data⟩, ⟨10, .gcOnly .lateStores⟩], none⟩) (v := ?_) rfl (by kernel_rfl) (by kernel_rfl) (by kernel_rfl) (by kernel_rfl) (fun _ _ _ h => h) (Or.inl ⟨by rfl, ?_⟩) hS ?_
    rotate_left
    · intro w' _; go_simp; try with_reducible rfl
    try simp only [Act.put, pb, pz, ps]
    refine wpAnyF_take (i := 10) (oi := ⟨some 6, .assign (.tmp 24), 2, "house.go:88", #[⟨8, .data⟩, ⟨6, .chain⟩, ⟨0, .phase⟩, ⟨1, .phase⟩, ⟨2, .phase⟩, ⟨3, .phase⟩, ⟨4, .phase⟩, ⟨5, .phase⟩, ⟨6, .phase⟩, ⟨7, .phase⟩, ⟨8, .phase⟩, ⟨9, .textOnly .lateStores⟩], none⟩) (v := ?_) rfl (by kernel_rfl) (by kernel_rfl) (by kernel_rfl) (by kernel_rfl) (fun _ _ _ h => h) (Or.inl ⟨by rfl, ?_⟩) hS ?_
    rotate_left
    · intro w' _; go_simp; try with_reducible rfl
    try simp only [Act.put, pb, pz, ps]
    refine wpAnyF_take (i := 11) (oi := ⟨some 7, .assign (.tmp 25), 25, "house.go:88", #[⟨9, .data⟩, ⟨10, .chain⟩, ⟨0, .phase⟩, ⟨1, .phase⟩, ⟨2, .phase⟩, ⟨3, .phase⟩, ⟨4, .phase⟩, ⟨5, .phase⟩, ⟨6, .phase⟩, ⟨7, .phase⟩, ⟨8, .phase⟩, ⟨9, .phase⟩, ⟨10, .phase⟩], none⟩) (v := ?_) rfl (by kernel_rfl) (by kernel_rfl) (by kernel_rfl) (by kernel_rfl) (fun _ _ _ h => h) (Or.inl ⟨by rfl, ?_⟩) hS ?_
    rotate_left
    · intro w' _; go_simp; try with_reducible rfl
    try simp only [Act.put, pb, pz, ps]
    refine wpAnyF_done (by kernel_rfl) ?_ _
    clear hS x0 f0 lf lx
    have hz : (err == 0) = false := by simpa using he
    have hy5 := HY4.out.grow HB5.out
    have y0 : W5.cell? ⟨W.heap.size + 1, 0, none⟩ = some (.int .i64 0) := hy5.cell 0
    have y1 : W5.cell? ⟨W.heap.size + 1, 1, none⟩ = some (.int .i64 0) := hy5.cell 1
    have y2 : W5.cell? ⟨W.heap.size + 1, 2, none⟩ = some (.int .i64 0) := hy5.cell 2
    have yf := hy5.frozen
    have HY5 := Lib.hid hy5
    clear hy5
    go_wp2_with fail
    have hfin : Blk (((W5.setCell ⟨W.heap.size + 1, 0, none⟩ (.int .i64 0)).setCell ⟨W.heap.size + 1, 1, none⟩ (.int .i64 err)).setCell ⟨W.heap.size + 1, 2, none⟩ (.int .i64 0)) (W.heap.size + 1) 27 #[.int .i64 0, .int .i64 err, .int .i64 0] := ((HY5.out.set_ 0 _).set_ 1 _).set_ 2 _
    refine bodyPost_ret (results_cell_row rfl _ _ (W.heap.size + 1) 27 #[.int .i64 0, .int .i64 err, .int .i64 0] (0, 0) _ rfl hfin Tryz.underlying27 rfl (by kernel_rfl)) rfl ⟨rfl, ?_⟩
    exact (((HB4.out.trans (HB5.out.mono HB4.out.size)).setCell (p := ⟨W.heap.size + 1, 0, none⟩) (by simp) _).setCell (p := ⟨W.heap.size + 1, 1, none⟩) (by simp) _).setCell (p := ⟨W.heap.size + 1, 2, none⟩) (by simp) _
  exact AllReadyF.nil
set_option maxRecDepth 100000 in
set_option maxHeartbeats 4000000 in
theorem do_ok_4 {W : World} {T : Nat → Part} {h K : Nat} {H : House} (hH : HouseIn W T h K H) (o : OrderR) {A : Option Addr} {c : Nat} (hk : o.kind = 4) (hsp : spareB o = true) {R : Nat → Prop} (hO : Offs W R (.slice A o.offers.length c) o.offers) (hR : ∀ b, b < W.heap.size → R b → T b = .no)
    (hlo : o.offers.length ≤ 1099511627776) {K' : Nat} {H1 : House} {v : Int} (hbl : H1.book.length ≤ 1000000)
    (hm : ∀ W1, HouseIn W1 T h K H → Offs W1 (fun b => R b ∧ b < W.heap.size) (.slice A o.offers.length c) o.offers → Calls Tryz.prog 35 #[.pointer (some ⟨h, 0, none⟩), o.agg (.slice A o.offers.length c)] W1 fun e W' => e = .returned (.tuple #[.int .i64 v, .int .i64 0]) ∧ ∃ T', HouseIn W' T' h K' H1 ∧ Moves W1 T W' T') :
    Calls Tryz.prog 9 #[.pointer (some ⟨h, 0, none⟩), o.agg (.slice A o.offers.length c)] W fun e W' => e = .returned (ansV H1.book.length 0 v) ∧ ∃ T', HouseIn W' T' h K' { H1 with book := H1.book ++ [o] } ∧ Moves W T W' T' := by
  replace hO := Offs.mono (R' := fun b => R b ∧ b < W.heap.size) hO fun b hb hr => ⟨hr, hb⟩
  have HNO := Lib.hid (show ∀ b, W.heap.size ≤ b → T b = .no by obtain ⟨_, _, _, _, _, _, hH⟩ := hH; exact hH.out)
  have HRN := Lib.hid hR
  have HBL := Lib.hid hbl
  have HLO := Lib.hid hlo
  clear hR hbl hlo
  obtain ⟨okind, oname, ocoins, obidder, olot, ⟨kind, opens, closes, start, step, extend, last, floor, fall, count, rule⟩, ooff, otick⟩ := o
  simp only at hk hO HLO
  subst hk
  have HSP := Lib.hid hsp
  have HM := Lib.hid hm
  have HH := Lib.hid hH
  have HO := Lib.hid hO
  have hspa := fun W => spare_any ⟨4, oname, ocoins, obidder, olot, ⟨kind, opens, closes, start, step, extend, last, floor, fall, count, rule⟩, ooff, otick⟩ A c W
  have HSPA := Lib.hid hspa
  simp only [OrderR.agg, OrderR.cells, LotR.cells, List.cons_append, List.nil_append] at HM HSPA ⊢
  obtain ⟨W1, hW1⟩ : ∃ W1, W1 = (W.alloc (.cells #[.int .i64 4, .string oname, .int .i64 ocoins, .int .i64 obidder, .int .i64 olot, .int .i64 kind, .int .i64 opens, .int .i64 closes, .int .i64 start, .int .i64 step, .int .i64 extend, .int .i64 last, .int .i64 floor, .int .i64 fall, .int .i64 count, .int .i64 rule, .slice A ooff.length c, .int .i64 otick] 36)).alloc (.cells #[.int .i64 0, .int .i64 0, .int .i64 0] 27) := ⟨_, rfl⟩
  have hb1 : Below W.heap.size W W1 := by rw [hW1]; exact ((Below.refl _ _).alloc (Nat.le_refl _) _).alloc (by simp) _
  have HX1 := Lib.hid (show Blk W1 W.heap.size 36 #[.int .i64 4, .string oname, .int .i64 ocoins, .int .i64 obidder, .int .i64 olot, .int .i64 kind, .int .i64 opens, .int .i64 closes, .int .i64 start, .int .i64 step, .int .i64 extend, .int .i64 last, .int .i64 floor, .int .i64 fall, .int .i64 count, .int .i64 rule, .slice A ooff.length c, .int .i64 otick] by rw [hW1]; exact (Blk.new W _ _).alloc _)
  have HY1 := Lib.hid (show Blk W1 (W.heap.size + 1) 27 #[.int .i64 0, .int .i64 0, .int .i64 0] by rw [hW1]; exact Blk.new' _ _ (by simp))
  have HB1 := Lib.hid hb1
  clear hH hO hsp hm hspa hb1
  go_enter Tryz.func9, Tryz.ntmps9
  go_wp2_with fail
  rw [← hW1]
  clear hW1
  refine (hnone_any (HH.out.grow HB1.out)).mono ?_
  rintro e W2 ⟨rfl, rfl⟩
  go_wp2_with (refine wpList_load_row rfl 36 (.tmp 3) rfl W.heap.size rfl 36 #[.int .i64 4, .string oname, .int .i64 ocoins, .int .i64 obidder, .int .i64 olot, .int .i64 kind, .int .i64 opens, .int .i64 closes, .int .i64 start, .int .i64 step, .int .i64 extend, .int .i64 last, .int .i64 floor, .int .i64 fall, .int .i64 count, .int .i64 rule, .slice A ooff.length c, .int .i64 otick] (0, 0) _ HX1.out Tryz.underlying36 rfl (by kernel_rfl) ?_)
  refine (HSPA.out _).mono ?_
  rintro e W3 ⟨rfl, hb3⟩
  rw [HSP.out]
  have HX3 := Lib.hid (HX1.out.grow hb3)
  have HY3 := Lib.hid (HY1.out.grow hb3)
  have HB3 := Lib.hid (HB1.out.trans (hb3.mono HB1.out.size))
  clear hb3
  obtain ⟨W4, hW4⟩ : ∃ W4, W4 = W3.alloc (.cells #[.nilFunc, .func (.func 32) #[] #[], .func (.func 33) #[] #[], .func (.func 34) #[] #[], .func (.func 35) #[] #[], .func (.func 36) #[] #[], .func (.func 37) #[] #[]] 96) := ⟨_, rfl⟩
  have hb4 : Below W3.heap.size W3 W4 := by rw [hW4]; exact (Below.refl _ _).alloc (Nat.le_refl _) _
  have HF4 := Lib.hid (show Blk W4 W3.heap.size 96 #[.nilFunc, .func (.func 32) #[] #[], .func (.func 33) #[] #[], .func (.func 34) #[] #[], .func (.func 35) #[] #[], .func (.func 36) #[] #[], .func (.func 37) #[] #[]] by rw [hW4]; exact Blk.new _ _ _)
  have HX4 := Lib.hid (HX3.out.grow hb4)
  have HB4 := Lib.hid (HB3.out.trans (hb4.mono HB3.out.size))
  have HY4 := Lib.hid (HY3.out.grow hb4)
  clear hb4
  go_wp2_with fail
  rw [← hW4]
  clear hW4
  have x0 : W4.cell? ⟨W.heap.size, 0, none⟩ = some (.int .i64 4) := HX4.out.cell 0
  have lx := HX4.out.lt
  have f0 : W4.cell? ⟨W3.heap.size, 4, none⟩ = some (.func (.func 35) #[] #[]) := HF4.out.cell 4
  have lf := HF4.out.lt
  refine wp_region_F (Below W4.heap.size W4) [6, 7, 8, 9, 10, 11] (by kernel_rfl) ((Below.refl _ _).drew) (fun hS => ?_)
  refine wpAnyF_takeD [1, 2, 3, 6, 7, 8, 9, 10, 11] (i := 0) (oi := ⟨some 17, .fieldAddr 36 (.tmp 3) 0, 0, "house.go:88", #[], none⟩) (v := ?_) rfl (by kernel_rfl) (by kernel_rfl) (by kernel_rfl) (by kernel_rfl) (fun _ _ _ h => h) (Or.inl ⟨by rfl, ?_⟩) hS ?_
  rotate_left
  · intro w' _; go_simp; try with_reducible rfl
  try simp only [Act.put, pb, pz, ps]
  refine wpAnyF_takeD [2, 3, 6, 7, 8, 9, 10, 11] (i := 1) (oi := ⟨some 18, .load 29 (.tmp 17), 29, "house.go:88", #[⟨0, .data⟩], none⟩) (v := ?_) rfl (by kernel_rfl) (by kernel_rfl) (by kernel_rfl) (by kernel_rfl) (fun _ _ _ h => h) (Or.inl ⟨by rfl, ?_⟩) hS ?_
  rotate_left
  · intro w' hSw; have q0 := (hSw.cell (p := ⟨W.heap.size, 0, none⟩) lx).trans x0; have qf := (hSw.cell (p := ⟨W3.heap.size, 4, none⟩) lf).trans f0; go_simp; try with_reducible rfl
  try simp only [Act.put, pb, pz, ps]
  refine wpAnyF_takeD [3, 6, 7, 8, 9, 10, 11] (i := 2) (oi := ⟨some 19, .indexAddr 96 (.tmp 5) (.tmp 18), 0, "house.go:88", #[⟨1, .data⟩], none⟩) (v := ?_) rfl (by kernel_rfl) (by kernel_rfl) (by kernel_rfl) (by kernel_rfl) (fun _ _ _ h => h) (Or.inl ⟨by rfl, ?_⟩) hS ?_
  rotate_left
  · intro w' _; go_simp; try with_reducible rfl
  try simp only [Act.put, pb, pz, ps]
  refine wpAnyF_takeD [6, 7, 8, 9, 10, 11] (i := 3) (oi := ⟨some 20, .load 94 (.tmp 19), 94, "house.go:88", #[⟨2, .data⟩], none⟩) (v := ?_) rfl (by kernel_rfl) (by kernel_rfl) (by kernel_rfl) (by kernel_rfl) (fun _ _ _ h => h) (Or.inl ⟨by rfl, ?_⟩) hS ?_
  rotate_left
  · intro w' hSw; have q0 := (hSw.cell (p := ⟨W.heap.size, 0, none⟩) lx).trans x0; have qf := (hSw.cell (p := ⟨W3.heap.size, 4, none⟩) lf).trans f0; go_simp; try with_reducible rfl
  try simp only [Act.put, pb, pz, ps]
  refine wpAnyF_takeD [6, 7, 8, 9, 10, 11] (i := 4) (oi := ⟨some 21, .move (.tmp 0), 23, "house.go:88", #[], none⟩) (v := ?_) rfl (by kernel_rfl) (by kernel_rfl) (by kernel_rfl) (by kernel_rfl) (fun _ _ _ h => h) (Or.inl ⟨by rfl, ?_⟩) hS ?_
  rotate_left
  · intro w' _; go_simp; try with_reducible rfl
  try simp only [Act.put, pb, pz, ps]
  refine wpAnyF_takeD [6, 7, 8, 9, 10, 11] (i := 5) (oi := ⟨some 22, .load 36 (.tmp 3), 36, "house.go:88", #[], none⟩) (v := ?_) rfl (by kernel_rfl) (by kernel_rfl) (by kernel_rfl) (by kernel_rfl) (fun _ _ _ h => h) (Or.inl ⟨by rfl, ?_⟩) hS ?_
  rotate_left
  · intro w' hSw; refine Eq.trans (exec_load_row 36 (.tmp 3) (by rfl) W.heap.size (by rfl) 36 #[.int .i64 4, .string oname, .int .i64 ocoins, .int .i64 obidder, .int .i64 olot, .int .i64 kind, .int .i64 opens, .int .i64 closes, .int .i64 start, .int .i64 step, .int .i64 extend, .int .i64 last, .int .i64 floor, .int .i64 fall, .int .i64 count, .int .i64 rule, .slice A ooff.length c, .int .i64 otick] (0, 0) _ (HX4.out.grow hSw) Tryz.underlying36 rfl (by kernel_rfl)) ?_; with_reducible rfl
  try simp only [Act.put, pb, pz, ps]
  refine wpAnyF_ready (rs := [6]) (by kernel_rfl) (by simp) ?_
  refine AllReadyF.fin (o := ⟨some 23, .call { callee := .value (.tmp 20), args := #[.tmp 21, .tmp 22], argTypes := #[23, 36] }, 97, "house.go:88", #[⟨3, .data⟩, ⟨4, .data⟩, ⟨5, .data⟩], none⟩) rfl (by rfl) (fun K hK => ?_) ?_
  · go_simp
    refine (HM.out W4.drew (((HH.out.grow HB4.out)).grow (Below.refl _ _).drew) (Offs.grow (Offs.grow HO.out HB4.out) (Below.refl _ _).drew)).mono ?_
    rintro e W5 ⟨rfl, T5, hH5, hM5⟩
    have hM5 : Moves W4 T W5 T5 := ⟨((Chg.refl _ W4).grow (Below.refl _ _).drew).trans hM5.chg, fun b hb => hM5.tag b hb⟩
    have HH5 := Lib.hid hH5
    have HM5 := Lib.hid hM5
    have hno : ∀ b, W.heap.size ≤ b → ¬ Own T b := fun b hb ho => ho.2 (HNO.out b hb)
    have HX5 := Lib.hid (HX4.out.chg hM5.chg (hno _ (Nat.le_refl _)))
    have HY5 := Lib.hid (HY4.out.chg hM5.chg (hno _ (Nat.le_succ _)))
    have HO5 := Lib.hid (Offs.chg (Offs.grow HO.out HB4.out) hM5.chg fun b _ hr ho => ho.2 (HRN.out b hr.2 hr.1))
    clear hH5 hM5 hno
    refine hK.out _ _ ?_
    clear hK K
    try simp only [Act.put, pb, pz, ps]
    refine wpAnyF_takeW (i := 7) (oi := ⟨some 16, .move (.tmp 23), 97, "house.go:88", #[⟨6, .data⟩], none⟩) (v := ?_) rfl (by kernel_rfl) (by kernel_rfl) (by kernel_rfl) (by kernel_rfl) (fun _ _ _ h => h) (Or.inl ⟨by rfl, ?_⟩) ?_
    rotate_left
    · intro w' _; go_simp; try with_reducible rfl
    try simp only [Act.put, pb, pz, ps]
    refine wpAnyF_takeW (i := 8) (oi := ⟨some 24, .extract (.tmp 16) 0, 2, "house.go:88", #[⟨7, .data⟩], none⟩) (v := ?_) rfl (by kernel_rfl) (by kernel_rfl) (by kernel_rfl) (by kernel_rfl) (fun _ _ _ h => h) (Or.inl ⟨by rfl, ?_⟩) ?_
    rotate_left
    · intro w' _; go_simp; try with_reducible rfl
    try simp only [Act.put, pb, pz, ps]
    refine wpAnyF_takeW (i := 9) (oi := ⟨some 25, .extract (.tmp 16) 1, 25, "house.go:88", #[⟨7, .data⟩, ⟨10, .gcOnly .lateStores⟩], none⟩) (v := ?_) rfl (by kernel_rfl) (by kernel_rfl) (by kernel_rfl) (by kernel_rfl) (fun _ _ _ h => h) (Or.inl ⟨by rfl, ?_⟩) ?_
    rotate_left
    · intro w' _; go_simp; try with_reducible rfl
    try simp only [Act.put, pb, pz, ps]
    refine wpAnyF_takeW (i := 10) (oi := ⟨some 6, .assign (.tmp 24), 2, "house.go:88", #[⟨8, .data⟩, ⟨6, .chain⟩, ⟨0, .phase⟩, ⟨1, .phase⟩, ⟨2, .phase⟩, ⟨3, .phase⟩, ⟨4, .phase⟩, ⟨5, .phase⟩, ⟨6, .phase⟩, ⟨7, .phase⟩, ⟨8, .phase⟩, ⟨9, .textOnly .lateStores⟩], none⟩) (v := ?_) rfl (by kernel_rfl) (by kernel_rfl) (by kernel_rfl) (by kernel_rfl) (fun _ _ _ h => h) (Or.inl ⟨by rfl, ?_⟩) ?_
    rotate_left
    · intro w' _; go_simp; try with_reducible rfl
    try simp only [Act.put, pb, pz, ps]
    refine wpAnyF_takeW (i := 11) (oi := ⟨some 7, .assign (.tmp 25), 25, "house.go:88", #[⟨9, .data⟩, ⟨10, .chain⟩, ⟨0, .phase⟩, ⟨1, .phase⟩, ⟨2, .phase⟩, ⟨3, .phase⟩, ⟨4, .phase⟩, ⟨5, .phase⟩, ⟨6, .phase⟩, ⟨7, .phase⟩, ⟨8, .phase⟩, ⟨9, .phase⟩, ⟨10, .phase⟩], none⟩) (v := ?_) rfl (by kernel_rfl) (by kernel_rfl) (by kernel_rfl) (by kernel_rfl) (fun _ _ _ h => h) (Or.inl ⟨by rfl, ?_⟩) ?_
    rotate_left
    · intro w' _; go_simp; try with_reducible rfl
    try simp only [Act.put, pb, pz, ps]
    refine wpAnyF_done (by kernel_rfl) ?_ _
    clear hS x0 f0 lf lx
    obtain ⟨pn, pc, va, vl, vb, vs, hH5⟩ := HH5.out
    obtain ⟨vo, hrow, hvo⟩ := hH5.book
    obtain ⟨Ab, cb, hvb⟩ := hrow.form
    obtain ⟨nb, hnb⟩ : ∃ n, n = H1.book.length := ⟨_, rfl⟩
    have HNB := Lib.hid hnb
    have HROW := Lib.hid (show RowAt W5 (fun b => T5 b = .book ∧ b < W5.heap.size) 36 18 (.slice Ab nb cb) nb (orderCells H1.book vo) by rw [hnb, ← hvb]; exact hrow.mono fun b hb hr => ⟨hr, hb⟩)
    have HVO := Lib.hid hvo
    have HVB := Lib.hid (show vb = .slice Ab nb cb by rw [hnb]; exact hvb)
    have HA5 := Lib.hid hH5
    have c4 : W5.cell? ⟨h, 4, none⟩ = some (.slice Ab nb cb) := hH5.cells.2.2.2.2.1.trans (by rw [hvb, hnb])
    have lh := hH5.cells.2.2.2.2.2.2
    have or1 : ¬ (Value.slice Ab nb cb).ownBlock = some h := fun e => by have h3 := (HROW.out.blk h e).1; rw [hH5.top] at h3; cases h3
    have HOR := Lib.hid or1
    have HT5 := Lib.hid (show ∀ b, W.heap.size ≤ b → b < W4.heap.size → T5 b = .no from fun b h1 h2 => (HM5.out.tag b h2).trans (HNO.out b h1))
    have hlx4 : W.heap.size < W4.heap.size := HX4.out.lt
    have ox1 : ¬ (Value.slice Ab nb cb).ownBlock = some W.heap.size := fun e => by have h3 := (HROW.out.blk _ e).1; rw [HT5.out _ (Nat.le_refl _) hlx4] at h3; cases h3
    clear hrow hvo hvb hnb hH5 hlx4
    go_wp2_with fail
    refine wp_region_F (Chg (fun b => (Value.slice Ab nb cb).ownBlock = some b) W5) [13] (by kernel_rfl) ((Chg.refl _ W5).grow (Below.refl _ _).drew) (fun hS => ?_)
    refine wpAnyF_take (i := 0) (oi := ⟨some 30, .move (.tmp 0), 23, "house.go:92", #[], none⟩) (v := ?_) rfl (by kernel_rfl) (by kernel_rfl) (by kernel_rfl) (by kernel_rfl) (fun _ _ _ h => h) (Or.inl ⟨by rfl, ?_⟩) hS ?_
    rotate_left
    · intro w' _; go_simp; try with_reducible rfl
    try simp only [Act.put, pb, pz, ps]
    refine wpAnyF_take (i := 1) (oi := ⟨some 31, .move (.tmp 0), 23, "house.go:92", #[], none⟩) (v := ?_) rfl (by kernel_rfl) (by kernel_rfl) (by kernel_rfl) (by kernel_rfl) (fun _ _ _ h => h) (Or.inl ⟨by rfl, ?_⟩) hS ?_
    rotate_left
    · intro w' _; go_simp; try with_reducible rfl
    try simp only [Act.put, pb, pz, ps]
    refine wpAnyF_take (i := 2) (oi := ⟨some 32, .nilCheck (.tmp 31), 0, "house.go:92", #[⟨1, .data⟩], none⟩) (v := ?_) rfl (by kernel_rfl) (by kernel_rfl) (by kernel_rfl) (by kernel_rfl) (fun _ _ _ h => h) (Or.inl ⟨by rfl, ?_⟩) hS ?_
    rotate_left
    · intro w' _; go_simp; try with_reducible rfl
    try simp only [Act.put, pb, pz, ps]
    refine wpAnyF_take (i := 3) (oi := ⟨some 33, .fieldAddr 92 (.tmp 32) 0, 0, "house.go:92", #[⟨2, .data⟩], none⟩) (v := ?_) rfl (by kernel_rfl) (by kernel_rfl) (by kernel_rfl) (by kernel_rfl) (fun _ _ _ h => h) (Or.inl ⟨by rfl, ?_⟩) hS ?_
    rotate_left
    · intro w' _; go_simp; try with_reducible rfl
    try simp only [Act.put, pb, pz, ps]
    refine wpAnyF_take (i := 4) (oi := ⟨some 34, .fieldAddr 90 (.tmp 33) 4, 0, "house.go:92", #[⟨3, .data⟩], none⟩) (v := ?_) rfl (by kernel_rfl) (by kernel_rfl) (by kernel_rfl) (by kernel_rfl) (fun _ _ _ h => h) (Or.inl ⟨by rfl, ?_⟩) hS ?_
    rotate_left
    · intro w' _; go_simp; try with_reducible rfl
    try simp only [Act.put, pb, pz, ps]
    refine wpAnyF_take (i := 5) (oi := ⟨some 35, .load 22 (.tmp 34), 22, "house.go:92", #[⟨4, .data⟩], none⟩) (v := ?_) rfl (by kernel_rfl) (by kernel_rfl) (by kernel_rfl) (by kernel_rfl) (fun _ _ _ h => h) (Or.inl ⟨by rfl, ?_⟩) hS ?_
    rotate_left
    · intro w' hSw; have q4 := (hSw.cell (p := ⟨h, 4, none⟩) lh or1).trans c4; go_simp; try with_reducible rfl
    try simp only [Act.put, pb, pz, ps]
    refine wpAnyF_take (i := 6) (oi := ⟨some 36, .load 36 (.tmp 3), 36, "house.go:92", #[], none⟩) (v := ?_) rfl (by kernel_rfl) (by kernel_rfl) (by kernel_rfl) (by kernel_rfl) (fun _ _ _ h => h) (Or.inl ⟨by rfl, ?_⟩) hS ?_
    rotate_left
    · intro w' hSw; refine Eq.trans (exec_load_row 36 (.tmp 3) (by rfl) W.heap.size (by rfl) 36 #[.int .i64 4, .string oname, .int .i64 ocoins, .int .i64 obidder, .int .i64 olot, .int .i64 kind, .int .i64 opens, .int .i64 closes, .int .i64 start, .int .i64 step, .int .i64 extend, .int .i64 last, .int .i64 floor, .int .i64 fall, .int .i64 count, .int .i64 rule, .slice A ooff.length c, .int .i64 otick] (0, 0) _ (HX5.out.chg hSw ox1) Tryz.underlying36 rfl (by kernel_rfl)) ?_; with_reducible rfl
    try simp only [Act.put, pb, pz, ps]
    refine wpAnyF_ready (rs := [7]) (by kernel_rfl) (by simp) ?_
    refine AllReadyF.cons (o := ⟨some 37, .call { callee := .value (.func 38), args := #[.tmp 36], argTypes := #[36] }, 36, "house.go:92", #[⟨6, .data⟩], none⟩) rfl (by rfl) (fun K hK => ?_) ?_
    · go_simp
      refine (hcopied_any (W := W5.drew) ⟨4, oname, ocoins, obidder, olot, ⟨kind, opens, closes, start, step, extend, last, floor, fall, count, rule⟩, ooff, otick⟩ (Offs.grow HO5.out (Below.refl _ _).drew) HLO.out).mono ?_
      rintro e W6 ⟨A6, c6, rfl, hO6, hb6⟩
      have hb6 : Below W5.heap.size W5 W6 := (Below.refl _ _).drew.trans (hb6.mono (Nat.le_refl _))
      simp only [OrderR.agg, OrderR.cells, LotR.cells, List.cons_append, List.nil_append]
      refine hK.out _ _ ?_ (fun hS => ?_)
      · exact (Chg.refl _ W5).grow hb6
      clear hK K
      try simp only [Act.put, pb, pz, ps]
      have HO6 := Lib.hid hO6
      have HB6 := Lib.hid hb6
      have HRW := Lib.hid ((HROW.out.grow hb6).grow ((Below.refl _ _).alloc (Nat.le_refl _) (.cells #[.int .i64 4, .string oname, .int .i64 ocoins, .int .i64 obidder, .int .i64 olot, .int .i64 kind, .int .i64 opens, .int .i64 closes, .int .i64 start, .int .i64 step, .int .i64 extend, .int .i64 last, .int .i64 floor, .int .i64 fall, .int .i64 count, .int .i64 rule, .slice A6 ooff.length c6, .int .i64 otick] 36)))
      clear hO6 hb6
      refine wpAnyF_ready (rs := [8]) (by kernel_rfl) (by simp) ?_
      refine AllReadyF.cons (o := ⟨some 38, .buildSlice 22 1 #[(0, .tmp 37)], 22, "house.go:92", #[⟨7, .data⟩], none⟩) rfl (by rfl) (fun K hK => ?_) ?_
      · go_simp
        refine hK.out _ _ ?_ (fun hS => ?_)
        · exact hS.grow ((Below.refl _ _).alloc (Nat.le_refl _) _)
        clear hK K
        try simp only [Act.put, pb, pz, ps]
        refine wpAnyF_ready (rs := [9]) (by kernel_rfl) (by simp) ?_
        refine AllReadyF.cons (o := ⟨some 39, .call { callee := .builtin .append, args := #[.tmp 35, .tmp 38], argTypes := #[22, 22] }, 22, "house.go:92", #[⟨5, .data⟩, ⟨8, .data⟩, ⟨7, .chain⟩], none⟩) rfl (by rfl) (fun K hK => ?_) ?_
        · refine step_row (W6.alloc (.cells #[.int .i64 4, .string oname, .int .i64 ocoins, .int .i64 obidder, .int .i64 olot, .int .i64 kind, .int .i64 opens, .int .i64 closes, .int .i64 start, .int .i64 step, .int .i64 extend, .int .i64 last, .int .i64 floor, .int .i64 fall, .int .i64 count, .int .i64 rule, .slice A6 ooff.length c6, .int .i64 otick] 36)) (.tmp 35) (.tmp 38) rfl et_order rfl (.slice Ab nb cb) nb (orderCells H1.book vo) rfl HRW.out (.slice (some ⟨W6.heap.size, 0, none⟩) 1 1) 1 [.int .i64 4, .string oname, .int .i64 ocoins, .int .i64 obidder, .int .i64 olot, .int .i64 kind, .int .i64 opens, .int .i64 closes, .int .i64 start, .int .i64 step, .int .i64 extend, .int .i64 last, .int .i64 floor, .int .i64 fall, .int .i64 count, .int .i64 rule, .slice A6 ooff.length c6, .int .i64 otick] rfl (Sl.lit1 (Blk.new W6 36 #[.int .i64 4, .string oname, .int .i64 ocoins, .int .i64 obidder, .int .i64 olot, .int .i64 kind, .int .i64 opens, .int .i64 closes, .int .i64 start, .int .i64 step, .int .i64 extend, .int .i64 last, .int .i64 floor, .int .i64 fall, .int .i64 count, .int .i64 rule, .slice A6 ooff.length c6, .int .i64 otick]) rfl) (by simp [Value.oneCell']) (by have := HBL.out; have := HNB.out; omega) (by have := HBL.out; have := HNB.out; unfold maxLen; omega) ?_
          intro A7 c7 Z hrZ hcZ
          refine hK.out _ _ ?_ (fun hS => ?_)
          · exact hS.trans hcZ
          clear hK K
          try simp only [Act.put, pb, pz, ps]
          have HHZ := Lib.hid (((HA5.out.blk.grow HB6.out).alloc (.cells #[.int .i64 4, .string oname, .int .i64 ocoins, .int .i64 obidder, .int .i64 olot, .int .i64 kind, .int .i64 opens, .int .i64 closes, .int .i64 start, .int .i64 step, .int .i64 extend, .int .i64 last, .int .i64 floor, .int .i64 fall, .int .i64 count, .int .i64 rule, .slice A6 ooff.length c6, .int .i64 otick] 36)).chg hcZ HOR.out)
          have HZR := Lib.hid hrZ
          have HZC := Lib.hid hcZ
          obtain ⟨U, hU⟩ : ∃ U, U = Z.setCell ⟨h, 4, none⟩ (.slice A7 (nb + 1) c7) := ⟨_, rfl⟩
          have HU := Lib.hid hU
          clear hrZ hcZ hU
          refine wpAnyF_takeD [11, 12, 13] (i := 10) (oi := ⟨some 40, .nilCheck (.tmp 30), 0, "house.go:92", #[⟨0, .data⟩, ⟨0, .phase⟩, ⟨1, .phase⟩, ⟨2, .phase⟩, ⟨3, .phase⟩, ⟨4, .phase⟩, ⟨5, .phase⟩, ⟨6, .phase⟩, ⟨7, .phase⟩, ⟨8, .phase⟩, ⟨9, .phase⟩], none⟩) (v := ?_) rfl (by kernel_rfl) (by kernel_rfl) (by kernel_rfl) (by kernel_rfl) (fun _ _ _ h => h) (Or.inl ⟨by rfl, ?_⟩) hS ?_
          rotate_left
          · intro w' _; go_simp; try with_reducible rfl
          try simp only [Act.put, pb, pz, ps]
          refine wpAnyF_takeD [12, 13] (i := 11) (oi := ⟨some 41, .fieldAddr 92 (.tmp 40) 0, 0, "house.go:92", #[⟨10, .data⟩, ⟨0, .phase⟩, ⟨1, .phase⟩, ⟨2, .phase⟩, ⟨3, .phase⟩, ⟨4, .phase⟩, ⟨5, .phase⟩, ⟨6, .phase⟩, ⟨7, .phase⟩, ⟨8, .phase⟩, ⟨9, .phase⟩], none⟩) (v := ?_) rfl (by kernel_rfl) (by kernel_rfl) (by kernel_rfl) (by kernel_rfl) (fun _ _ _ h => h) (Or.inl ⟨by rfl, ?_⟩) hS ?_
          rotate_left
          · intro w' _; go_simp; try with_reducible rfl
          try simp only [Act.put, pb, pz, ps]
          refine wpAnyF_take (i := 12) (oi := ⟨some 42, .fieldAddr 90 (.tmp 41) 4, 0, "house.go:92", #[⟨11, .data⟩, ⟨0, .phase⟩, ⟨1, .phase⟩, ⟨2, .phase⟩, ⟨3, .phase⟩, ⟨4, .phase⟩, ⟨5, .phase⟩, ⟨6, .phase⟩, ⟨7, .phase⟩, ⟨8, .phase⟩, ⟨9, .phase⟩], none⟩) (v := ?_) rfl (by kernel_rfl) (by kernel_rfl) (by kernel_rfl) (by kernel_rfl) (fun _ _ _ h => h) (Or.inl ⟨by rfl, ?_⟩) hS ?_
          rotate_left
          · intro w' _; go_simp; try with_reducible rfl
          try simp only [Act.put, pb, pz, ps]
          refine wpAnyF_ready (rs := [13]) (by kernel_rfl) (by simp) ?_
          refine AllReadyF.fin (o := ⟨none, .store 22 (.tmp 42) (.tmp 39), 0, "house.go:92", #[⟨12, .data⟩, ⟨9, .data⟩, ⟨9, .chain⟩, ⟨0, .phase⟩, ⟨1, .phase⟩, ⟨2, .phase⟩, ⟨3, .phase⟩, ⟨4, .phase⟩, ⟨5, .phase⟩, ⟨6, .phase⟩, ⟨7, .phase⟩, ⟨8, .phase⟩, ⟨9, .phase⟩], none⟩) rfl (by rfl) (fun K hK => ?_) ?_
          · have f4 := HHZ.out.frozen 4
            have d4 := HHZ.out.cell 4
            go_simp
            rw [← HU.out]
            refine hK.out _ _ ?_
            clear hK K
            try simp only [Act.put, pb, pz, ps]
            refine wpAnyF_done (by kernel_rfl) ?_ _
            clear hS c4 lh or1 ox1
            have hlh : h < W5.heap.size := HA5.out.blk.lt
            have hcU1 : Chg (· = h) Z U := by rw [HU.out]; exact Chg.set Z ⟨h, 4, none⟩ _
            have HBU := Lib.hid (show Blk U h 92 #[.pointer (some ⟨pn, 0, none⟩), va, vl, .pointer (some ⟨pc, 0, none⟩), .slice A7 (nb + 1) c7, vs] by rw [HU.out]; exact HHZ.out.set_ 4 _)
            have hrowU := HZR.out.chgB hcU1 (fun b hb e => by
              rcases HZR.out.blk b hb with k | k
              · have := k.1; rw [e, HA5.out.top] at this; cases this
              · have h1 := HB6.out.size; rw [World.size_alloc] at k; omega)
            have hend := book_end (o := ⟨4, oname, ocoins, obidder, olot, ⟨kind, opens, closes, start, step, extend, last, floor, fall, count, rule⟩, ooff, otick⟩) HA5.out HVO.out HNB.out HB6.out HO6.out (hrowU.mono fun b _ k => k.elim .inl (fun k => .inr (by rw [World.size_alloc] at k; omega)))
              ((((Chg.refl _ W6).grow ((Below.refl _ _).alloc (Nat.le_refl _) _)).step HZC.out fun b _ e => ⟨.inl (HROW.out.blk b e).1, (HROW.out.blk b e).2⟩).step hcU1 fun b _ e => ⟨.inr (e ▸ HA5.out.top), by omega⟩) HBU.out
            have HEND := Lib.hid hend
            have hys : W.heap.size + 1 < W4.heap.size := HY4.out.lt
            have hyU := ((((HY5.out.grow HB6.out).alloc (.cells #[.int .i64 4, .string oname, .int .i64 ocoins, .int .i64 obidder, .int .i64 olot, .int .i64 kind, .int .i64 opens, .int .i64 closes, .int .i64 start, .int .i64 step, .int .i64 extend, .int .i64 last, .int .i64 floor, .int .i64 fall, .int .i64 count, .int .i64 rule, .slice A6 ooff.length c6, .int .i64 otick] 36)).chg HZC.out (fun e => by have h3 := (HROW.out.blk _ e).1; rw [HT5.out _ (Nat.le_succ _) hys] at h3; cases h3))).chg hcU1 (fun e => by have h3 := HA5.out.top; rw [← e, HT5.out _ (Nat.le_succ _) hys] at h3; cases h3)
            have HYU := Lib.hid hyU
            have y0 : U.cell? ⟨W.heap.size + 1, 0, none⟩ = some (.int .i64 0) := hyU.cell 0
            have y1 : U.cell? ⟨W.heap.size + 1, 1, none⟩ = some (.int .i64 0) := hyU.cell 1
            have y2 : U.cell? ⟨W.heap.size + 1, 2, none⟩ = some (.int .i64 0) := hyU.cell 2
            have yf := hyU.frozen
            have d4 : U.cell? ⟨h, 4, none⟩ = some (.slice A7 (nb + 1) c7) := HBU.out.cell 4
            have hw1 : IntKind.i64.wrap (nb : Int) = (nb : Int) := IntWalk.i64_in _ (by have := HBL.out; have := HNB.out; omega)
            clear hlh hcU1 hrowU hend hyU hys
            go_wp2_with fail
            have hfin : Blk (((U.setCell ⟨W.heap.size + 1, 0, none⟩ (.int .i64 nb)).setCell ⟨W.heap.size + 1, 1, none⟩ (.int .i64 0)).setCell ⟨W.heap.size + 1, 2, none⟩ (.int .i64 v)) (W.heap.size + 1) 27 #[.int .i64 nb, .int .i64 0, .int .i64 v] := ((HYU.out.set_ 0 _).set_ 1 _).set_ 2 _
            have hcV : Chg (· = W.heap.size + 1) U (((U.setCell ⟨W.heap.size + 1, 0, none⟩ (.int .i64 nb)).setCell ⟨W.heap.size + 1, 1, none⟩ (.int .i64 0)).setCell ⟨W.heap.size + 1, 2, none⟩ (.int .i64 v)) := ((Chg.set U ⟨W.heap.size + 1, 0, none⟩ _).trans (Chg.set _ ⟨W.heap.size + 1, 1, none⟩ _)).trans (Chg.set _ ⟨W.heap.size + 1, 2, none⟩ _)
            refine bodyPost_ret (results_cell_row rfl _ _ (W.heap.size + 1) 27 #[.int .i64 nb, .int .i64 0, .int .i64 v] (0, 0) _ rfl hfin Tryz.underlying27 rfl (by kernel_rfl)) rfl ⟨by rw [HNB.out], ?_⟩
            obtain ⟨T6, hH6, hM6⟩ := HEND.out
            have hMM := HM5.out.trans hM6
            have hny : T6 (W.heap.size + 1) = .no := (hMM.tag _ HY4.out.lt).trans (HNO.out _ (Nat.le_succ _))
            refine ⟨T6, hH6.keep hcV (fun b hb e => hb (e ▸ hny)), ((Chg.of _ HB4.out).trans hMM.chg).step hcV (fun b hb e => by omega), fun b hb => hMM.tag b (Nat.lt_of_lt_of_le hb HB4.out.size)⟩
          exact AllReadyF.nil
        exact AllReadyF.nil
      exact AllReadyF.nil
    exact AllReadyF.nil
  exact AllReadyF.nil
set_option maxRecDepth 100000 in
set_option maxHeartbeats 4000000 in
theorem do_err_6 {W : World} {T : Nat → Part} {h K : Nat} {H : House} (hH : HouseIn W T h K H) (o : OrderR) {A : Option Addr} {c : Nat} (hk : o.kind = 6) (hsp : spareB o = true) {R : Nat → Prop} (hO : Offs W R (.slice A o.offers.length c) o.offers) {err : Int} (he : err ≠ 0)
    (hm : ∀ W1, HouseIn W1 T h K H → Offs W1 R (.slice A o.offers.length c) o.offers → Calls Tryz.prog 37 #[.pointer (some ⟨h, 0, none⟩), o.agg (.slice A o.offers.length c)] W1 fun e W' => e = .returned (.tuple #[.int .i64 0, .int .i64 err]) ∧ Below W1.heap.size W1 W') :
    Calls Tryz.prog 9 #[.pointer (some ⟨h, 0, none⟩), o.agg (.slice A o.offers.length c)] W fun e W' => e = .returned (ansV 0 err 0) ∧ Below W.heap.size W W' := by
  obtain ⟨okind, oname, ocoins, obidder, olot, ⟨kind, opens, closes, start, step, extend, last, floor, fall, count, rule⟩, ooff, otick⟩ := o
  simp only at hk hO
  subst hk
  have HSP := Lib.hid hsp
  have HM := Lib.hid hm
  have HH := Lib.hid hH
  have HO := Lib.hid hO
  have hspa := fun W => spare_any ⟨6, oname, ocoins, obidder, olot, ⟨kind, opens, closes, start, step, extend, last, floor, fall, count, rule⟩, ooff, otick⟩ A c W
  have HSPA := Lib.hid hspa
  simp only [OrderR.agg, OrderR.cells, LotR.cells, List.cons_append, List.nil_append] at HM HSPA ⊢
  obtain ⟨W1, hW1⟩ : ∃ W1, W1 = (W.alloc (.cells #[.int .i64 6, .string oname, .int .i64 ocoins, .int .i64 obidder, .int .i64 olot, .int .i64 kind, .int .i64 opens, .int .i64 closes, .int .i64 start, .int .i64 step, .int .i64 extend, .int .i64 last, .int .i64 floor, .int .i64 fall, .int .i64 count, .int .i64 rule, .slice A ooff.length c, .int .i64 otick] 36)).alloc (.cells #[.int .i64 0, .int .i64 0, .int .i64 0] 27) := ⟨_, rfl⟩
  have hb1 : Below W.heap.size W W1 := by rw [hW1]; exact ((Below.refl _ _).alloc (Nat.le_refl _) _).alloc (by simp) _
  have HX1 := Lib.hid (show Blk W1 W.heap.size 36 #[.int .i64 6, .string oname, .int .i64 ocoins, .int .i64 obidder, .int .i64 olot, .int .i64 kind, .int .i64 opens, .int .i64 closes, .int .i64 start, .int .i64 step, .int .i64 extend, .int .i64 last, .int .i64 floor, .int .i64 fall, .int .i64 count, .int .i64 rule, .slice A ooff.length c, .int .i64 otick] by rw [hW1]; exact (Blk.new W _ _).alloc _)
  have HY1 := Lib.hid (show Blk W1 (W.heap.size + 1) 27 #[.int .i64 0, .int .i64 0, .int .i64 0] by rw [hW1]; exact Blk.new' _ _ (by simp))
  have HB1 := Lib.hid hb1
  clear hH hO hsp hm hspa hb1
  go_enter Tryz.func9, Tryz.ntmps9
  go_wp2_with fail
  rw [← hW1]
  clear hW1
  refine (hnone_any (HH.out.grow HB1.out)).mono ?_
  rintro e W2 ⟨rfl, rfl⟩
  go_wp2_with (refine wpList_load_row rfl 36 (.tmp 3) rfl W.heap.size rfl 36 #[.int .i64 6, .string oname, .int .i64 ocoins, .int .i64 obidder, .int .i64 olot, .int .i64 kind, .int .i64 opens, .int .i64 closes, .int .i64 start, .int .i64 step, .int .i64 extend, .int .i64 last, .int .i64 floor, .int .i64 fall, .int .i64 count, .int .i64 rule, .slice A ooff.length c, .int .i64 otick] (0, 0) _ HX1.out Tryz.underlying36 rfl (by kernel_rfl) ?_)
  refine (HSPA.out _).mono ?_
  rintro e W3 ⟨rfl, hb3⟩
  rw [HSP.out]
  have HX3 := Lib.hid (HX1.out.grow hb3)
  have HY3 := Lib.hid (HY1.out.grow hb3)
  have HB3 := Lib.hid (HB1.out.trans (hb3.mono HB1.out.size))
  clear hb3
  obtain ⟨W4, hW4⟩ : ∃ W4, W4 = W3.alloc (.cells #[.nilFunc, .func (.func 32) #[] #[], .func (.func 33) #[] #[], .func (.func 34) #[] #[], .func (.func 35) #[] #[], .func (.func 36) #[] #[], .func (.func 37) #[] #[]] 96) := ⟨_, rfl⟩
  have hb4 : Below W3.heap.size W3 W4 := by rw [hW4]; exact (Below.refl _ _).alloc (Nat.le_refl _) _
  have HF4 := Lib.hid (show Blk W4 W3.heap.size 96 #[.nilFunc, .func (.func 32) #[] #[], .func (.func 33) #[] #[], .func (.func 34) #[] #[], .func (.func 35) #[] #[], .func (.func 36) #[] #[], .func (.func 37) #[] #[]] by rw [hW4]; exact Blk.new _ _ _)
  have HX4 := Lib.hid (HX3.out.grow hb4)
  have HB4 := Lib.hid (HB3.out.trans (hb4.mono HB3.out.size))
  have HY4 := Lib.hid (HY3.out.grow hb4)
  clear hb4
  go_wp2_with fail
  rw [← hW4]
  clear hW4
  have x0 : W4.cell? ⟨W.heap.size, 0, none⟩ = some (.int .i64 6) := HX4.out.cell 0
  have lx := HX4.out.lt
  have f0 : W4.cell? ⟨W3.heap.size, 6, none⟩ = some (.func (.func 37) #[] #[]) := HF4.out.cell 6
  have lf := HF4.out.lt
  refine wp_region_F (Below W4.heap.size W4) [] (by kernel_rfl) ((Below.refl _ _).drew) (fun hS => ?_)
  refine wpAnyF_take (i := 0) (oi := ⟨some 17, .fieldAddr 36 (.tmp 3) 0, 0, "house.go:88", #[], none⟩) (v := ?_) rfl (by kernel_rfl) (by kernel_rfl) (by kernel_rfl) (by kernel_rfl) (fun _ _ _ h => h) (Or.inl ⟨by rfl, ?_⟩) hS ?_
  rotate_left
  · intro w' _; go_simp; try with_reducible rfl
  try simp only [Act.put, pb, pz, ps]
  refine wpAnyF_take (i := 1) (oi := ⟨some 18, .load 29 (.tmp 17), 29, "house.go:88", #[⟨0, .data⟩], none⟩) (v := ?_) rfl (by kernel_rfl) (by kernel_rfl) (by kernel_rfl) (by kernel_rfl) (fun _ _ _ h => h) (Or.inl ⟨by rfl, ?_⟩) hS ?_
  rotate_left
  · intro w' hSw; have q0 := (hSw.cell (p := ⟨W.heap.size, 0, none⟩) lx).trans x0; have qf := (hSw.cell (p := ⟨W3.heap.size, 6, none⟩) lf).trans f0; go_simp; try with_reducible rfl
  try simp only [Act.put, pb, pz, ps]
  refine wpAnyF_take (i := 2) (oi := ⟨some 19, .indexAddr 96 (.tmp 5) (.tmp 18), 0, "house.go:88", #[⟨1, .data⟩], none⟩) (v := ?_) rfl (by kernel_rfl) (by kernel_rfl) (by kernel_rfl) (by kernel_rfl) (fun _ _ _ h => h) (Or.inl ⟨by rfl, ?_⟩) hS ?_
  rotate_left
  · intro w' _; go_simp; try with_reducible rfl
  try simp only [Act.put, pb, pz, ps]
  refine wpAnyF_take (i := 3) (oi := ⟨some 20, .load 94 (.tmp 19), 94, "house.go:88", #[⟨2, .data⟩], none⟩) (v := ?_) rfl (by kernel_rfl) (by kernel_rfl) (by kernel_rfl) (by kernel_rfl) (fun _ _ _ h => h) (Or.inl ⟨by rfl, ?_⟩) hS ?_
  rotate_left
  · intro w' hSw; have q0 := (hSw.cell (p := ⟨W.heap.size, 0, none⟩) lx).trans x0; have qf := (hSw.cell (p := ⟨W3.heap.size, 6, none⟩) lf).trans f0; go_simp; try with_reducible rfl
  try simp only [Act.put, pb, pz, ps]
  refine wpAnyF_take (i := 4) (oi := ⟨some 21, .move (.tmp 0), 23, "house.go:88", #[], none⟩) (v := ?_) rfl (by kernel_rfl) (by kernel_rfl) (by kernel_rfl) (by kernel_rfl) (fun _ _ _ h => h) (Or.inl ⟨by rfl, ?_⟩) hS ?_
  rotate_left
  · intro w' _; go_simp; try with_reducible rfl
  try simp only [Act.put, pb, pz, ps]
  refine wpAnyF_take (i := 5) (oi := ⟨some 22, .load 36 (.tmp 3), 36, "house.go:88", #[], none⟩) (v := ?_) rfl (by kernel_rfl) (by kernel_rfl) (by kernel_rfl) (by kernel_rfl) (fun _ _ _ h => h) (Or.inl ⟨by rfl, ?_⟩) hS ?_
  rotate_left
  · intro w' hSw; refine Eq.trans (exec_load_row 36 (.tmp 3) (by rfl) W.heap.size (by rfl) 36 #[.int .i64 6, .string oname, .int .i64 ocoins, .int .i64 obidder, .int .i64 olot, .int .i64 kind, .int .i64 opens, .int .i64 closes, .int .i64 start, .int .i64 step, .int .i64 extend, .int .i64 last, .int .i64 floor, .int .i64 fall, .int .i64 count, .int .i64 rule, .slice A ooff.length c, .int .i64 otick] (0, 0) _ (HX4.out.grow hSw) Tryz.underlying36 rfl (by kernel_rfl)) ?_; with_reducible rfl
  try simp only [Act.put, pb, pz, ps]
  refine wpAnyF_ready (rs := [6]) (by kernel_rfl) (by simp) ?_
  refine AllReadyF.cons (o := ⟨some 23, .call { callee := .value (.tmp 20), args := #[.tmp 21, .tmp 22], argTypes := #[23, 36] }, 97, "house.go:88", #[⟨3, .data⟩, ⟨4, .data⟩, ⟨5, .data⟩], none⟩) rfl (by rfl) (fun K hK => ?_) ?_
  · go_simp
    refine (HM.out W4.drew (((HH.out.grow HB4.out)).grow (Below.refl _ _).drew) (Offs.grow (Offs.grow HO.out HB4.out) (Below.refl _ _).drew)).mono ?_
    rintro e W5 ⟨rfl, hb5⟩
    have HB5 := Lib.hid ((Below.refl W4.heap.size W4).drew.trans (hb5.mono (by simp)))
    clear hb5
    refine hK.out _ _ ?_ (fun hS => ?_)
    · exact HB5.out
    clear hK K
    try simp only [Act.put, pb, pz, ps]
    refine wpAnyF_take (i := 7) (oi := ⟨some 16, .move (.tmp 23), 97, "house.go:88", #[⟨6, .data⟩], none⟩) (v := ?_) rfl (by kernel_rfl) (by kernel_rfl) (by kernel_rfl) (by kernel_rfl) (fun _ _ _ h => h) (Or.inl ⟨by rfl, ?_⟩) hS ?_
    rotate_left
    · intro w' _; go_simp; try with_reducible rfl
    try simp only [Act.put, pb, pz, ps]
    refine wpAnyF_take (i := 8) (oi := ⟨some 24, .extract (.tmp 16) 0, 2, "house.go:88", #[⟨7, .data⟩], none⟩) (v := ?_) rfl (by kernel_rfl) (by kernel_rfl) (by kernel_rfl) (by kernel_rfl) (fun _ _ _ h => h) (Or.inl ⟨by rfl, ?_⟩) hS ?_
    rotate_left
    · intro w' _; go_simp; try with_reducible rfl
    try simp only [Act.put, pb, pz, ps]
    refine wpAnyF_take (i := 9) (oi := ⟨some 25, .extract (.tmp 16) 1, 25, "house.go:88", #[⟨7, .data⟩, ⟨10, .gcOnly .lateStores⟩], none⟩) (v := ?_) rfl (by kernel_rfl) (by kernel_rfl) (by kernel_rfl) (by kernel_rfl) (fun _ _ _ h => h) (Or.inl ⟨by rfl, ?_⟩) hS ?_
    rotate_left
    · intro w' _; go_simp; try with_reducible rfl
    try simp only [Act.put, pb, pz, ps]
    refine wpAnyF_take (i := 10) (oi := ⟨some 6, .assign (.tmp 24), 2, "house.go:88", #[⟨8, .data⟩, ⟨6, .chain⟩, ⟨0, .phase⟩, ⟨1, .phase⟩, ⟨2, .phase⟩, ⟨3, .phase⟩, ⟨4, .phase⟩, ⟨5, .phase⟩, ⟨6, .phase⟩, ⟨7, .phase⟩, ⟨8, .phase⟩, ⟨9, .textOnly .lateStores⟩], none⟩) (v := ?_) rfl (by kernel_rfl) (by kernel_rfl) (by kernel_rfl) (by kernel_rfl) (fun _ _ _ h => h) (Or.inl ⟨by rfl, ?_⟩) hS ?_
    rotate_left
    · intro w' _; go_simp; try with_reducible rfl
    try simp only [Act.put, pb, pz, ps]
    refine wpAnyF_take (i := 11) (oi := ⟨some 7, .assign (.tmp 25), 25, "house.go:88", #[⟨9, .data⟩, ⟨10, .chain⟩, ⟨0, .phase⟩, ⟨1, .phase⟩, ⟨2, .phase⟩, ⟨3, .phase⟩, ⟨4, .phase⟩, ⟨5, .phase⟩, ⟨6, .phase⟩, ⟨7, .phase⟩, ⟨8, .phase⟩, ⟨9, .phase⟩, ⟨10, .phase⟩], none⟩) (v := ?_) rfl (by kernel_rfl) (by kernel_rfl) (by kernel_rfl) (by kernel_rfl) (fun _ _ _ h => h) (Or.inl ⟨by rfl, ?_⟩) hS ?_
    rotate_left
    · intro w' _; go_simp; try with_reducible rfl
    try simp only [Act.put, pb, pz, ps]
    refine wpAnyF_done (by kernel_rfl) ?_ _
    clear hS x0 f0 lf lx
    have hz : (err == 0) = false := by simpa using he
    have hy5 := HY4.out.grow HB5.out
    have y0 : W5.cell? ⟨W.heap.size + 1, 0, none⟩ = some (.int .i64 0) := hy5.cell 0
    have y1 : W5.cell? ⟨W.heap.size + 1, 1, none⟩ = some (.int .i64 0) := hy5.cell 1
    have y2 : W5.cell? ⟨W.heap.size + 1, 2, none⟩ = some (.int .i64 0) := hy5.cell 2
    have yf := hy5.frozen
    have HY5 := Lib.hid hy5
    clear hy5
    go_wp2_with fail
    have hfin : Blk (((W5.setCell ⟨W.heap.size + 1, 0, none⟩ (.int .i64 0)).setCell ⟨W.heap.size + 1, 1, none⟩ (.int .i64 err)).setCell ⟨W.heap.size + 1, 2, none⟩ (.int .i64 0)) (W.heap.size + 1) 27 #[.int .i64 0, .int .i64 err, .int .i64 0] := ((HY5.out.set_ 0 _).set_ 1 _).set_ 2 _
    refine bodyPost_ret (results_cell_row rfl _ _ (W.heap.size + 1) 27 #[.int .i64 0, .int .i64 err, .int .i64 0] (0, 0) _ rfl hfin Tryz.underlying27 rfl (by kernel_rfl)) rfl ⟨rfl, ?_⟩
    exact (((HB4.out.trans (HB5.out.mono HB4.out.size)).setCell (p := ⟨W.heap.size + 1, 0, none⟩) (by simp) _).setCell (p := ⟨W.heap.size + 1, 1, none⟩) (by simp) _).setCell (p := ⟨W.heap.size + 1, 2, none⟩) (by simp) _
  exact AllReadyF.nil
set_option maxRecDepth 100000 in
set_option maxHeartbeats 4000000 in
theorem do_ok_6 {W : World} {T : Nat → Part} {h K : Nat} {H : House} (hH : HouseIn W T h K H) (o : OrderR) {A : Option Addr} {c : Nat} (hk : o.kind = 6) (hsp : spareB o = true) {R : Nat → Prop} (hO : Offs W R (.slice A o.offers.length c) o.offers) (hR : ∀ b, b < W.heap.size → R b → T b = .no)
    (hlo : o.offers.length ≤ 1099511627776) {K' : Nat} {H1 : House} {v : Int} (hbl : H1.book.length ≤ 1000000)
    (hm : ∀ W1, HouseIn W1 T h K H → Offs W1 (fun b => R b ∧ b < W.heap.size) (.slice A o.offers.length c) o.offers → Calls Tryz.prog 37 #[.pointer (some ⟨h, 0, none⟩), o.agg (.slice A o.offers.length c)] W1 fun e W' => e = .returned (.tuple #[.int .i64 v, .int .i64 0]) ∧ ∃ T', HouseIn W' T' h K' H1 ∧ Moves W1 T W' T') :
    Calls Tryz.prog 9 #[.pointer (some ⟨h, 0, none⟩), o.agg (.slice A o.offers.length c)] W fun e W' => e = .returned (ansV H1.book.length 0 v) ∧ ∃ T', HouseIn W' T' h K' { H1 with book := H1.book ++ [o] } ∧ Moves W T W' T' := by
  replace hO := Offs.mono (R' := fun b => R b ∧ b < W.heap.size) hO fun b hb hr => ⟨hr, hb⟩
  have HNO := Lib.hid (show ∀ b, W.heap.size ≤ b → T b = .no by obtain ⟨_, _, _, _, _, _, hH⟩ := hH; exact hH.out)
  have HRN := Lib.hid hR
  have HBL := Lib.hid hbl
  have HLO := Lib.hid hlo
  clear hR hbl hlo
  obtain ⟨okind, oname, ocoins, obidder, olot, ⟨kind, opens, closes, start, step, extend, last, floor, fall, count, rule⟩, ooff, otick⟩ := o
  simp only at hk hO HLO
  subst hk
  have HSP := Lib.hid hsp
  have HM := Lib.hid hm
  have HH := Lib.hid hH
  have HO := Lib.hid hO
  have hspa := fun W => spare_any ⟨6, oname, ocoins, obidder, olot, ⟨kind, opens, closes, start, step, extend, last, floor, fall, count, rule⟩, ooff, otick⟩ A c W
  have HSPA := Lib.hid hspa
  simp only [OrderR.agg, OrderR.cells, LotR.cells, List.cons_append, List.nil_append] at HM HSPA ⊢
  obtain ⟨W1, hW1⟩ : ∃ W1, W1 = (W.alloc (.cells #[.int .i64 6, .string oname, .int .i64 ocoins, .int .i64 obidder, .int .i64 olot, .int .i64 kind, .int .i64 opens, .int .i64 closes, .int .i64 start, .int .i64 step, .int .i64 extend, .int .i64 last, .int .i64 floor, .int .i64 fall, .int .i64 count, .int .i64 rule, .slice A ooff.length c, .int .i64 otick] 36)).alloc (.cells #[.int .i64 0, .int .i64 0, .int .i64 0] 27) := ⟨_, rfl⟩
  have hb1 : Below W.heap.size W W1 := by rw [hW1]; exact ((Below.refl _ _).alloc (Nat.le_refl _) _).alloc (by simp) _
  have HX1 := Lib.hid (show Blk W1 W.heap.size 36 #[.int .i64 6, .string oname, .int .i64 ocoins, .int .i64 obidder, .int .i64 olot, .int .i64 kind, .int .i64 opens, .int .i64 closes, .int .i64 start, .int .i64 step, .int .i64 extend, .int .i64 last, .int .i64 floor, .int .i64 fall, .int .i64 count, .int .i64 rule, .slice A ooff.length c, .int .i64 otick] by rw [hW1]; exact (Blk.new W _ _).alloc _)
  have HY1 := Lib.hid (show Blk W1 (W.heap.size + 1) 27 #[.int .i64 0, .int .i64 0, .int .i64 0] by rw [hW1]; exact Blk.new' _ _ (by simp))
  have HB1 := Lib.hid hb1
  clear hH hO hsp hm hspa hb1
  go_enter Tryz.func9, Tryz.ntmps9
  go_wp2_with fail
  rw [← hW1]
  clear hW1
  refine (hnone_any (HH.out.grow HB1.out)).mono ?_
  rintro e W2 ⟨rfl, rfl⟩
  go_wp2_with (refine wpList_load_row rfl 36 (.tmp 3) rfl W.heap.size rfl 36 #[.int .i64 6, .string oname, .int .i64 ocoins, .int .i64 obidder, .int .i64 olot, .int .i64 kind, .int .i64 opens, .int .i64 closes, .int .i64 start, .int .i64 step, .int .i64 extend, .int .i64 last, .int .i64 floor, .int .i64 fall, .int .i64 count, .int .i64 rule, .slice A ooff.length c, .int .i64 otick] (0, 0) _ HX1.out Tryz.underlying36 rfl (by kernel_rfl) ?_)
  refine (HSPA.out _).mono ?_
  rintro e W3 ⟨rfl, hb3⟩
  rw [HSP.out]
  have HX3 := Lib.hid (HX1.out.grow hb3)
  have HY3 := Lib.hid (HY1.out.grow hb3)
  have HB3 := Lib.hid (HB1.out.trans (hb3.mono HB1.out.size))
  clear hb3
  obtain ⟨W4, hW4⟩ : ∃ W4, W4 = W3.alloc (.cells #[.nilFunc, .func (.func 32) #[] #[], .func (.func 33) #[] #[], .func (.func 34) #[] #[], .func (.func 35) #[] #[], .func (.func 36) #[] #[], .func (.func 37) #[] #[]] 96) := ⟨_, rfl⟩
  have hb4 : Below W3.heap.size W3 W4 := by rw [hW4]; exact (Below.refl _ _).alloc (Nat.le_refl _) _
  have HF4 := Lib.hid (show Blk W4 W3.heap.size 96 #[.nilFunc, .func (.func 32) #[] #[], .func (.func 33) #[] #[], .func (.func 34) #[] #[], .func (.func 35) #[] #[], .func (.func 36) #[] #[], .func (.func 37) #[] #[]] by rw [hW4]; exact Blk.new _ _ _)
  have HX4 := Lib.hid (HX3.out.grow hb4)
  have HB4 := Lib.hid (HB3.out.trans (hb4.mono HB3.out.size))
  have HY4 := Lib.hid (HY3.out.grow hb4)
  clear hb4
  go_wp2_with fail
  rw [← hW4]
  clear hW4
  have x0 : W4.cell? ⟨W.heap.size, 0, none⟩ = some (.int .i64 6) := HX4.out.cell 0
  have lx := HX4.out.lt
  have f0 : W4.cell? ⟨W3.heap.size, 6, none⟩ = some (.func (.func 37) #[] #[]) := HF4.out.cell 6
  have lf := HF4.out.lt
  refine wp_region_F (Below W4.heap.size W4) [6, 7, 8, 9, 10, 11] (by kernel_rfl) ((Below.refl _ _).drew) (fun hS => ?_)
  refine wpAnyF_takeD [1, 2, 3, 6, 7, 8, 9, 10, 11] (i := 0) (oi := ⟨some 17, .fieldAddr 36 (.tmp 3) 0, 0, "house.go:88", #[], none⟩) (v := ?_) rfl (by kernel_rfl) (by kernel_rfl) (by kernel_rfl) (by kernel_rfl) (fun _ _ _ h => h) (Or.inl ⟨by rfl, ?_⟩) hS ?_
  rotate_left
  · intro w' _; go_simp; try with_reducible rfl
  try simp only [Act.put, pb, pz, ps]
  refine wpAnyF_takeD [2, 3, 6, 7, 8, 9, 10, 11] (i := 1) (oi := ⟨some 18, .load 29 (.tmp 17), 29, "house.go:88", #[⟨0, .data⟩], none⟩) (v := ?_) rfl (by kernel_rfl) (by kernel_rfl) (by kernel_rfl) (by kernel_rfl) (fun _ _ _ h => h) (Or.inl ⟨by rfl, ?_⟩) hS ?_
  rotate_left
  · intro w' hSw; have q0 := (hSw.cell (p := ⟨W.heap.size, 0, none⟩) lx).trans x0; have qf := (hSw.cell (p := ⟨W3.heap.size, 6, none⟩) lf).trans f0; go_simp; try with_reducible rfl
  try simp only [Act.put, pb, pz, ps]
  refine wpAnyF_takeD [3, 6, 7, 8, 9, 10, 11] (i := 2) (oi := ⟨some 19, .indexAddr 96 (.tmp 5) (.tmp 18), 0, "house.go:88", #[⟨1, .data⟩], none⟩) (v := ?_) rfl (by kernel_rfl) (by kernel_rfl) (by kernel_rfl) (by kernel_rfl) (fun _ _ _ h => h) (Or.inl ⟨by rfl, ?_⟩) hS ?_
  rotate_left
  · intro w' _; go_simp; try with_reducible rfl
  try simp only [Act.put, pb, pz, ps]
  refine wpAnyF_takeD [6, 7, 8, 9, 10, 11] (i := 3) (oi := ⟨some 20, .load 94 (.tmp 19), 94, "house.go:88", #[⟨2, .data⟩], none⟩) (v := ?_) rfl (by kernel_rfl) (by kernel_rfl) (by kernel_rfl) (by kernel_rfl) (fun _ _ _ h => h) (Or.inl ⟨by rfl, ?_⟩) hS ?_
  rotate_left
  · intro w' hSw; have q0 := (hSw.cell (p := ⟨W.heap.size, 0, none⟩) lx).trans x0; have qf := (hSw.cell (p := ⟨W3.heap.size, 6, none⟩) lf).trans f0; go_simp; try with_reducible rfl
  try simp only [Act.put, pb, pz, ps]
  refine wpAnyF_takeD [6, 7, 8, 9, 10, 11] (i := 4) (oi := ⟨some 21, .move (.tmp 0), 23, "house.go:88", #[], none⟩) (v := ?_) rfl (by kernel_rfl) (by kernel_rfl) (by kernel_rfl) (by kernel_rfl) (fun _ _ _ h => h) (Or.inl ⟨by rfl, ?_⟩) hS ?_
  rotate_left
  · intro w' _; go_simp; try with_reducible rfl
  try simp only [Act.put, pb, pz, ps]
  refine wpAnyF_takeD [6, 7, 8, 9, 10, 11] (i := 5) (oi := ⟨some 22, .load 36 (.tmp 3), 36, "house.go:88", #[], none⟩) (v := ?_) rfl (by kernel_rfl) (by kernel_rfl) (by kernel_rfl) (by kernel_rfl) (fun _ _ _ h => h) (Or.inl ⟨by rfl, ?_⟩) hS ?_
  rotate_left
  · intro w' hSw; refine Eq.trans (exec_load_row 36 (.tmp 3) (by rfl) W.heap.size (by rfl) 36 #[.int .i64 6, .string oname, .int .i64 ocoins, .int .i64 obidder, .int .i64 olot, .int .i64 kind, .int .i64 opens, .int .i64 closes, .int .i64 start, .int .i64 step, .int .i64 extend, .int .i64 last, .int .i64 floor, .int .i64 fall, .int .i64 count, .int .i64 rule, .slice A ooff.length c, .int .i64 otick] (0, 0) _ (HX4.out.grow hSw) Tryz.underlying36 rfl (by kernel_rfl)) ?_; with_reducible rfl
  try simp only [Act.put, pb, pz, ps]
  refine wpAnyF_ready (rs := [6]) (by kernel_rfl) (by simp) ?_
  refine AllReadyF.fin (o := ⟨some 23, .call { callee := .value (.tmp 20), args := #[.tmp 21, .tmp 22], argTypes := #[23, 36] }, 97, "house.go:88", #[⟨3, .data⟩, ⟨4, .data⟩, ⟨5, .data⟩], none⟩) rfl (by rfl) (fun K hK => ?_) ?_
  · go_simp
    refine (HM.out W4.drew (((HH.out.grow HB4.out)).grow (Below.refl _ _).drew) (Offs.grow (Offs.grow HO.out HB4.out) (Below.refl _ _).drew)).mono ?_
    rintro e W5 ⟨rfl, T5, hH5, hM5⟩
    have hM5 : Moves W4 T W5 T5 := ⟨((Chg.refl _ W4).grow (Below.refl _ _).drew).trans hM5.chg, fun b hb => hM5.tag b hb⟩
    have HH5 := Lib.hid hH5
    have HM5 := Lib.hid hM5
    have hno : ∀ b, W.heap.size ≤ b → ¬ Own T b := fun b hb ho => ho.2 (HNO.out b hb)
    have HX5 := Lib.hid (HX4.out.chg hM5.chg (hno _ (Nat.le_refl _)))
    have HY5 := Lib.hid (HY4.out.chg hM5.chg (hno _ (Nat.le_succ _)))
    have HO5 := Lib.hid (Offs.chg (Offs.grow HO.out HB4.out) hM5.chg fun b _ hr ho => ho.2 (HRN.out b hr.2 hr.1))
    clear hH5 hM5 hno
    refine hK.out _ _ ?_
    clear hK K
    try simp only [Act.put, pb, pz, ps]
    refine wpAnyF_takeW (i := 7) (oi := ⟨some 16, .move (.tmp 23), 97, "house.go:88", #[⟨6, .data⟩], none⟩) (v := ?_) rfl (by kernel_rfl) (by kernel_rfl) (by kernel_rfl) (by kernel_rfl) (fun _ _ _ h => h) (Or.inl ⟨by rfl, ?_⟩) ?_
    rotate_left
    · intro w' _; go_simp; try with_reducible rfl
    try simp only [Act.put, pb, pz, ps]
    refine wpAnyF_takeW (i := 8) (oi := ⟨some 24, .extract (.tmp 16) 0, 2, "house.go:88", #[⟨7, .data⟩], none⟩) (v := ?_) rfl (by kernel_rfl) (by kernel_rfl) (by kernel_rfl) (by kernel_rfl) (fun _ _ _ h => h) (Or.inl ⟨by rfl, ?_⟩) ?_
    rotate_left
    · intro w' _; go_simp; try with_reducible rfl
    try simp only [Act.put, pb, pz, ps]
    refine wpAnyF_takeW (i := 9) (oi := ⟨some 25, .extract (.tmp 16) 1, 25, "house.go:88", #[⟨7, .data⟩, ⟨10, .gcOnly .lateStores⟩], none⟩) (v := ?_) rfl (by kernel_rfl) (by kernel_rfl) (by kernel_rfl) (by kernel_rfl) (fun _ _ _ h => h) (Or.inl ⟨by rfl, ?_⟩) ?_
    rotate_left
    · intro w' _; go_simp; try with_reducible rfl
    try simp only [Act.put, pb, pz, ps]
    refine wpAnyF_takeW (i := 10) (oi := ⟨some 6, .assign (.tmp 24), 2, "house.go:88", #[⟨8, .data⟩, ⟨6, .chain⟩, ⟨0, .phase⟩, ⟨1, .phase⟩, ⟨2, .phase⟩, ⟨3, .phase⟩, ⟨4, .phase⟩, ⟨5, .phase⟩, ⟨6, .phase⟩, ⟨7, .phase⟩, ⟨8, .phase⟩, ⟨9, .textOnly .lateStores⟩], none⟩) (v := ?_) rfl (by kernel_rfl) (by kernel_rfl) (by kernel_rfl) (by kernel_rfl) (fun _ _ _ h => h) (Or.inl ⟨by rfl, ?_⟩) ?_
    rotate_left
    · intro w' _; go_simp; try with_reducible rfl
    try simp only [Act.put, pb, pz, ps]
    refine wpAnyF_takeW (i := 11) (oi := ⟨some 7, .assign (.tmp 25), 25, "house.go:88", #[⟨9, .data⟩, ⟨10, .chain⟩, ⟨0, .phase⟩, ⟨1, .phase⟩, ⟨2, .phase⟩, ⟨3, .phase⟩, ⟨4, .phase⟩, ⟨5, .phase⟩, ⟨6, .phase⟩, ⟨7, .phase⟩, ⟨8, .phase⟩, ⟨9, .phase⟩, ⟨10, .phase⟩], none⟩) (v := ?_) rfl (by kernel_rfl) (by kernel_rfl) (by kernel_rfl) (by kernel_rfl) (fun _ _ _ h => h) (Or.inl ⟨by rfl, ?_⟩) ?_
    rotate_left
    · intro w' _; go_simp; try with_reducible rfl
    try simp only [Act.put, pb, pz, ps]
    refine wpAnyF_done (by kernel_rfl) ?_ _
    clear hS x0 f0 lf lx
    obtain ⟨pn, pc, va, vl, vb, vs, hH5⟩ := HH5.out
    obtain ⟨vo, hrow, hvo⟩ := hH5.book
    obtain ⟨Ab, cb, hvb⟩ := hrow.form
    obtain ⟨nb, hnb⟩ : ∃ n, n = H1.book.length := ⟨_, rfl⟩
    have HNB := Lib.hid hnb
    have HROW := Lib.hid (show RowAt W5 (fun b => T5 b = .book ∧ b < W5.heap.size) 36 18 (.slice Ab nb cb) nb (orderCells H1.book vo) by rw [hnb, ← hvb]; exact hrow.mono fun b hb hr => ⟨hr, hb⟩)
    have HVO := Lib.hid hvo
    have HVB := Lib.hid (show vb = .slice Ab nb cb by rw [hnb]; exact hvb)
    have HA5 := Lib.hid hH5
    have c4 : W5.cell? ⟨h, 4, none⟩ = some (.slice Ab nb cb) := hH5.cells.2.2.2.2.1.trans (by rw [hvb, hnb])
    have lh := hH5.cells.2.2.2.2.2.2
    have or1 : ¬ (Value.slice Ab nb cb).ownBlock = some h := fun e => by have h3 := (HROW.out.blk h e).1; rw [hH5.top] at h3; cases h3
    have HOR := Lib.hid or1
    have HT5 := Lib.hid (show ∀ b, W.heap.size ≤ b → b < W4.heap.size → T5 b = .no from fun b h1 h2 => (HM5.out.tag b h2).trans (HNO.out b h1))
    have hlx4 : W.heap.size < W4.heap.size := HX4.out.lt
    have ox1 : ¬ (Value.slice Ab nb cb).ownBlock = some W.heap.size := fun e => by have h3 := (HROW.out.blk _ e).1; rw [HT5.out _ (Nat.le_refl _) hlx4] at h3; cases h3
    clear hrow hvo hvb hnb hH5 hlx4
    go_wp2_with fail
    refine wp_region_F (Chg (fun b => (Value.slice Ab nb cb).ownBlock = some b) W5) [13] (by kernel_rfl) ((Chg.refl _ W5).grow (Below.refl _ _).drew) (fun hS => ?_)
    refine wpAnyF_take (i := 0) (oi := ⟨some 30, .move (.tmp 0), 23, "house.go:92", #[], none⟩) (v := ?_) rfl (by kernel_rfl) (by kernel_rfl) (by kernel_rfl) (by kernel_rfl) (fun _ _ _ h => h) (Or.inl ⟨by rfl, ?_⟩) hS ?_
    rotate_left
    · intro w' _; go_simp; try with_reducible rfl
    try simp only [Act.put, pb, pz, ps]
    refine wpAnyF_take (i := 1) (oi := ⟨some 31, .move (.tmp 0), 23, "house.go:92", #[], none⟩) (v := ?_) rfl (by kernel_rfl) (by kernel_rfl) (by kernel_rfl) (by kernel_rfl) (fun _ _ _ h => h) (Or.inl ⟨by rfl, ?_⟩) hS ?_
    rotate_left
    · intro w' _; go_simp; try with_reducible rfl
    try simp only [Act.put, pb, pz, ps]
    refine wpAnyF_take (i := 2) (oi := ⟨some 32, .nilCheck (.tmp 31), 0, "house.go:92", #[⟨1, .data⟩], none⟩) (v := ?_) rfl (by kernel_rfl) (by kernel_rfl) (by kernel_rfl) (by kernel_rfl) (fun _ _ _ h => h) (Or.inl ⟨by rfl, ?_⟩) hS ?_
    rotate_left
    · intro w' _; go_simp; try with_reducible rfl
    try simp only [Act.put, pb, pz, ps]
    refine wpAnyF_take (i := 3) (oi := ⟨some 33, .fieldAddr 92 (.tmp 32) 0, 0, "house.go:92", #[⟨2, .data⟩], none⟩) (v := ?_) rfl (by kernel_rfl) (by kernel_rfl) (by kernel_rfl) (by kernel_rfl) (fun _ _ _ h => h) (Or.inl ⟨by rfl, ?_⟩) hS ?_
    rotate_left
    · intro w' _; go_simp; try with_reducible rfl
    try simp only [Act.put, pb, pz, ps]
    refine wpAnyF_take (i := 4) (oi := ⟨some 34, .fieldAddr 90 (.tmp 33) 4, 0, "house.go:92", #[⟨3, .data⟩], none⟩) (v := ?_) rfl (by kernel_rfl) (by kernel_rfl) (by kernel_rfl) (by kernel_rfl) (fun _ _ _ h => h) (Or.inl ⟨by rfl, ?_⟩) hS ?_
    rotate_left
    · intro w' _; go_simp; try with_reducible rfl
    try simp only [Act.put, pb, pz, ps]
    refine wpAnyF_take (i := 5) (oi := ⟨some 35, .load 22 (.tmp 34), 22, "house.go:92", #[⟨4, .data⟩], none⟩) (v := ?_) rfl (by kernel_rfl) (by kernel_rfl) (by kernel_rfl) (by kernel_rfl) (fun _ _ _ h => h) (Or.inl ⟨by rfl, ?_⟩) hS ?_
    rotate_left
    · intro w' hSw; have q4 := (hSw.cell (p := ⟨h, 4, none⟩) lh or1).trans c4; go_simp; try with_reducible rfl
    try simp only [Act.put, pb, pz, ps]
    refine wpAnyF_take (i := 6) (oi := ⟨some 36, .load 36 (.tmp 3), 36, "house.go:92", #[], none⟩) (v := ?_) rfl (by kernel_rfl) (by kernel_rfl) (by kernel_rfl) (by kernel_rfl) (fun _ _ _ h => h) (Or.inl ⟨by rfl, ?_⟩) hS ?_
    rotate_left
    · intro w' hSw; refine Eq.trans (exec_load_row 36 (.tmp 3) (by rfl) W.heap.size (by rfl) 36 #[.int .i64 6, .string oname, .int .i64 ocoins, .int .i64 obidder, .int .i64 olot, .int .i64 kind, .int .i64 opens, .int .i64 closes, .int .i64 start, .int .i64 step, .int .i64 extend, .int .i64 last, .int .i64 floor, .int .i64 fall, .int .i64 count, .int .i64 rule, .slice A ooff.length c, .int .i64 otick] (0, 0) _ (HX5.out.chg hSw ox1) Tryz.underlying36 rfl (by kernel_rfl)) ?_; with_reducible rfl
    try simp only [Act.put, pb, pz, ps]
    refine wpAnyF_ready (rs := [7]) (by kernel_rfl) (by simp) ?_
    refine AllReadyF.cons (o := ⟨some 37, .call { callee := .value (.func 38), args := #[.tmp 36], argTypes := #[36] }, 36, "house.go:92", #[⟨6, .data⟩], none⟩) rfl (by rfl) (fun K hK => ?_) ?_
    · go_simp
      refine (hcopied_any (W := W5.drew) ⟨6, oname, ocoins, obidder, olot, ⟨kind, opens, closes, start, step, extend, last, floor, fall, count, rule⟩, ooff, otick⟩ (Offs.grow HO5.out (Below.refl _ _).drew) HLO.out).mono ?_
      rintro e W6 ⟨A6, c6, rfl, hO6, hb6⟩
      have hb6 : Below W5.heap.size W5 W6 := (Below.refl _ _).drew.trans (hb6.mono (Nat.le_refl _))
      simp only [OrderR.agg, OrderR.cells, LotR.cells, List.cons_append, List.nil_append]
      refine hK.out _ _ ?_ (fun hS => ?_)
      · exact (Chg.refl _ W5).grow hb6
      clear hK K
      try simp only [Act.put, pb, pz, ps]
      have HO6 := Lib.hid hO6
      have HB6 := Lib.hid hb6
      have HRW := Lib.hid ((HROW.out.grow hb6).grow ((Below.refl _ _).alloc (Nat.le_refl _) (.cells #[.int .i64 6, .string oname, .int .i64 ocoins, .int .i64 obidder, .int .i64 olot, .int .i64 kind, .int .i64 opens, .int .i64 closes, .int .i64 start, .int .i64 step, .int .i64 extend, .int .i64 last, .int .i64 floor, .int .i64 fall, .int .i64 count, .int .i64 rule, .slice A6 ooff.length c6, .int .i64 otick] 36)))
      clear hO6 hb6
      refine wpAnyF_ready (rs := [8]) (by kernel_rfl) (by simp) ?_
      refine AllReadyF.cons (o := ⟨some 38, .buildSlice 22 1 #[(0, .tmp 37)], 22, "house.go:92", #[⟨7, .data⟩], none⟩) rfl (by rfl) (fun K hK => ?_) ?_
      · go_simp
        refine hK.out _ _ ?_ (fun hS => ?_)
        · exact hS.grow ((Below.refl _ _).alloc (Nat.le_refl _) _)
        clear hK K
        try simp only [Act.put, pb, pz, ps]
        refine wpAnyF_ready (rs := [9]) (by kernel_rfl) (by simp) ?_
        refine AllReadyF.cons (o := ⟨some 39, .call { callee := .builtin .append, args := #[.tmp 35, .tmp 38], argTypes := #[22, 22] }, 22, "house.go:92", #[⟨5, .data⟩, ⟨8, .data⟩, ⟨7, .chain⟩], none⟩) rfl (by rfl) (fun K hK => ?_) ?_
        · refine step_row (W6.alloc (.cells #[.int .i64 6, .string oname, .int .i64 ocoins, .int .i64 obidder, .int .i64 olot, .int .i64 kind, .int .i64 opens, .int .i64 closes, .int .i64 start, .int .i64 step, .int .i64 extend, .int .i64 last, .int .i64 floor, .int .i64 fall, .int .i64 count, .int .i64 rule, .slice A6 ooff.length c6, .int .i64 otick] 36)) (.tmp 35) (.tmp 38) rfl et_order rfl (.slice Ab nb cb) nb (orderCells H1.book vo) rfl HRW.out (.slice (some ⟨W6.heap.size, 0, none⟩) 1 1) 1 [.int .i64 6, .string oname, .int .i64 ocoins, .int .i64 obidder, .int .i64 olot, .int .i64 kind, .int .i64 opens, .int .i64 closes, .int .i64 start, .int .i64 step, .int .i64 extend, .int .i64 last, .int .i64 floor, .int .i64 fall, .int .i64 count, .int .i64 rule, .slice A6 ooff.length c6, .int .i64 otick] rfl (Sl.lit1 (Blk.new W6 36 #[.int .i64 6, .string oname, .int .i64 ocoins, .int .i64 obidder, .int .i64 olot, .int .i64 kind, .int .i64 opens, .int .i64 closes, .int .i64 start, .int .i64 step, .int .i64 extend, .int .i64 last, .int .i64 floor, .int .i64 fall, .int .i64 count, .int .i64 rule, .slice A6 ooff.length c6, .int .i64 otick]) rfl) (by simp [Value.oneCell']) (by have := HBL.out; have := HNB.out; omega) (by have := HBL.out; have := HNB.out; unfold maxLen; omega) ?_
          intro A7 c7 Z hrZ hcZ
          refine hK.out _ _ ?_ (fun hS => ?_)
          · exact hS.trans hcZ
          clear hK K
          try simp only [Act.put, pb, pz, ps]
          have HHZ := Lib.hid (((HA5.out.blk.grow HB6.out).alloc (.cells #[.int .i64 6, .string oname, .int .i64 ocoins, .int .i64 obidder, .int .i64 olot, .int .i64 kind, .int .i64 opens, .int .i64 closes, .int .i64 start, .int .i64 step, .int .i64 extend, .int .i64 last, .int .i64 floor, .int .i64 fall, .int .i64 count, .int .i64 rule, .slice A6 ooff.length c6, .int .i64 otick] 36)).chg hcZ HOR.out)
          have HZR := Lib.hid hrZ
          have HZC := Lib.hid hcZ
          obtain ⟨U, hU⟩ : ∃ U, U = Z.setCell ⟨h, 4, none⟩ (.slice A7 (nb + 1) c7) := ⟨_, rfl⟩
          have HU := Lib.hid hU
          clear hrZ hcZ hU
          refine wpAnyF_takeD [11, 12, 13] (i := 10) (oi := ⟨some 40, .nilCheck (.tmp 30), 0, "house.go:92", #[⟨0, .data⟩, ⟨0, .phase⟩, ⟨1, .phase⟩, ⟨2, .phase⟩, ⟨3, .phase⟩, ⟨4, .phase⟩, ⟨5, .phase⟩, ⟨6, .phase⟩, ⟨7, .phase⟩, ⟨8, .phase⟩, ⟨9, .phase⟩], none⟩) (v := ?_) rfl (by kernel_rfl) (by kernel_rfl) (by kernel_rfl) (by kernel_rfl) (fun _ _ _ h => h) (Or.inl ⟨by rfl, ?_⟩) hS ?_
          rotate_left
          · intro w' _; go_simp; try with_reducible rfl
          try simp only [Act.put, pb, pz, ps]
          refine wpAnyF_takeD [12, 13] (i := 11) (oi := ⟨some 41, .fieldAddr 92 (.tmp 40) 0, 0, "house.go:92", #[⟨10, .data⟩, ⟨0, .phase⟩, ⟨1, .phase⟩, ⟨2, .phase⟩, ⟨3, .phase⟩, ⟨4, .phase⟩, ⟨5, .phase⟩, ⟨6, .phase⟩, ⟨7, .phase⟩, ⟨8, .phase⟩, ⟨9, .phase⟩], none⟩) (v := ?_) rfl (by kernel_rfl) (by kernel_rfl) (by kernel_rfl) (by kernel_rfl) (fun _ _ _ h => h) (Or.inl ⟨by rfl, ?_⟩) hS ?_
          rotate_left
          · intro w' _; go_simp; try with_reducible rfl
          try simp only [Act.put, pb, pz, ps]
          refine wpAnyF_take (i := 12) (oi := ⟨some 42, .fieldAddr 90 (.tmp 41) 4, 0, "house.go:92", #[⟨11, .data⟩, ⟨0, .phase⟩, ⟨1, .phase⟩, ⟨2, .phase⟩, ⟨3, .phase⟩, ⟨4, .phase⟩, ⟨5, .phase⟩, ⟨6, .phase⟩, ⟨7, .phase⟩, ⟨8, .phase⟩, ⟨9, .phase⟩], none⟩) (v := ?_) rfl (by kernel_rfl) (by kernel_rfl) (by kernel_rfl) (by kernel_rfl) (fun _ _ _ h => h) (Or.inl ⟨by rfl, ?_⟩) hS ?_
          rotate_left
          · intro w' _; go_simp; try with_reducible rfl
          try simp only [Act.put, pb, pz, ps]
          refine wpAnyF_ready (rs := [13]) (by kernel_rfl) (by simp) ?_
          refine AllReadyF.fin (o := ⟨none, .store 22 (.tmp 42) (.tmp 39), 0, "house.go:92", #[⟨12, .data⟩, ⟨9, .data⟩, ⟨9, .chain⟩, ⟨0, .phase⟩, ⟨1, .phase⟩, ⟨2, .phase⟩, ⟨3, .phase⟩, ⟨4, .phase⟩, ⟨5, .phase⟩, ⟨6, .phase⟩, ⟨7, .phase⟩, ⟨8, .phase⟩, ⟨9, .phase⟩], none⟩) rfl (by rfl) (fun K hK => ?_) ?_
          · have f4 := HHZ.out.frozen 4
            have d4 := HHZ.out.cell 4
            go_simp
            rw [← HU.out]
            refine hK.out _ _ ?_
            clear hK K
            try simp only [Act.put, pb, pz, ps]
            refine wpAnyF_done (by kernel_rfl) ?_ _
            clear hS c4 lh or1 ox1
            have hlh : h < W5.heap.size := HA5.out.blk.lt
            have hcU1 : Chg (· = h) Z U := by rw [HU.out]; exact Chg.set Z ⟨h, 4, none⟩ _
            have HBU := Lib.hid (show Blk U h 92 #[.pointer (some ⟨pn, 0, none⟩), va, vl, .pointer (some ⟨pc, 0, none⟩), .slice A7 (nb + 1) c7, vs] by rw [HU.out]; exact HHZ.out.set_ 4 _)
            have hrowU := HZR.out.chgB hcU1 (fun b hb e => by
              rcases HZR.out.blk b hb with k | k
              · have := k.1; rw [e, HA5.out.top] at this; cases this
              · have h1 := HB6.out.size; rw [World.size_alloc] at k; omega)
            have hend := book_end (o := ⟨6, oname, ocoins, obidder, olot, ⟨kind, opens, closes, start, step, extend, last, floor, fall, count, rule⟩, ooff, otick⟩) HA5.out HVO.out HNB.out HB6.out HO6.out (hrowU.mono fun b _ k => k.elim .inl (fun k => .inr (by rw [World.size_alloc] at k; omega)))
              ((((Chg.refl _ W6).grow ((Below.refl _ _).alloc (Nat.le_refl _) _)).step HZC.out fun b _ e => ⟨.inl (HROW.out.blk b e).1, (HROW.out.blk b e).2⟩).step hcU1 fun b _ e => ⟨.inr (e ▸ HA5.out.top), by omega⟩) HBU.out
            have HEND := Lib.hid hend
            have hys : W.heap.size + 1 < W4.heap.size := HY4.out.lt
            have hyU := ((((HY5.out.grow HB6.out).alloc (.cells #[.int .i64 6, .string oname, .int .i64 ocoins, .int .i64 obidder, .int .i64 olot, .int .i64 kind, .int .i64 opens, .int .i64 closes, .int .i64 start, .int .i64 step, .int .i64 extend, .int .i64 last, .int .i64 floor, .int .i64 fall, .int .i64 count, .int .i64 rule, .slice A6 ooff.length c6, .int .i64 otick] 36)).chg HZC.out (fun e => by have h3 := (HROW.out.blk _ e).1; rw [HT5.out _ (Nat.le_succ _) hys] at h3; cases h3))).chg hcU1 (fun e => by have h3 := HA5.out.top; rw [← e, HT5.out _ (Nat.le_succ _) hys] at h3; cases h3)
            have HYU := Lib.hid hyU
            have y0 : U.cell? ⟨W.heap.size + 1, 0, none⟩ = some (.int .i64 0) := hyU.cell 0
            have y1 : U.cell? ⟨W.heap.size + 1, 1, none⟩ = some (.int .i64 0) := hyU.cell 1
            have y2 : U.cell? ⟨W.heap.size + 1, 2, none⟩ = some (.int .i64 0) := hyU.cell 2
            have yf := hyU.frozen
            have d4 : U.cell? ⟨h, 4, none⟩ = some (.slice A7 (nb + 1) c7) := HBU.out.cell 4
            have hw1 : IntKind.i64.wrap (nb : Int) = (nb : Int) := IntWalk.i64_in _ (by have := HBL.out; have := HNB.out; omega)
            clear hlh hcU1 hrowU hend hyU hys
            go_wp2_with fail
            have hfin : Blk (((U.setCell ⟨W.heap.size + 1, 0, none⟩ (.int .i64 nb)).setCell ⟨W.heap.size + 1, 1, none⟩ (.int .i64 0)).setCell ⟨W.heap.size + 1, 2, none⟩ (.int .i64 v)) (W.heap.size + 1) 27 #[.int .i64 nb, .int .i64 0, .int .i64 v] := ((HYU.out.set_ 0 _).set_ 1 _).set_ 2 _
            have hcV : Chg (· = W.heap.size + 1) U (((U.setCell ⟨W.heap.size + 1, 0, none⟩ (.int .i64 nb)).setCell ⟨W.heap.size + 1, 1, none⟩ (.int .i64 0)).setCell ⟨W.heap.size + 1, 2, none⟩ (.int .i64 v)) := ((Chg.set U ⟨W.heap.size + 1, 0, none⟩ _).trans (Chg.set _ ⟨W.heap.size + 1, 1, none⟩ _)).trans (Chg.set _ ⟨W.heap.size + 1, 2, none⟩ _)
            refine bodyPost_ret (results_cell_row rfl _ _ (W.heap.size + 1) 27 #[.int .i64 nb, .int .i64 0, .int .i64 v] (0, 0) _ rfl hfin Tryz.underlying27 rfl (by kernel_rfl)) rfl ⟨by rw [HNB.out], ?_⟩
            obtain ⟨T6, hH6, hM6⟩ := HEND.out
            have hMM := HM5.out.trans hM6
            have hny : T6 (W.heap.size + 1) = .no := (hMM.tag _ HY4.out.lt).trans (HNO.out _ (Nat.le_succ _))
            refine ⟨T6, hH6.keep hcV (fun b hb e => hb (e ▸ hny)), ((Chg.of _ HB4.out).trans hMM.chg).step hcV (fun b hb e => by omega), fun b hb => hMM.tag b (Nat.lt_of_lt_of_le hb HB4.out.size)⟩
          exact AllReadyF.nil
        exact AllReadyF.nil
      exact AllReadyF.nil
    exact AllReadyF.nil
  exact AllReadyF.nil
end Go.Proofs.YthoaidfpgijbfaaGreat.Ho

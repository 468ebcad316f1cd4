import Derived.Test.YthoaidfpgijbfaaGreatZo
namespace Go.Proofs.YthoaidfpgijbfaaGreat.Ho
open Go.RowKit
open Go.Proofs.YthoaidfpgijbfaaGreat.Vb Go.Proofs.YthoaidfpgijbfaaGreat.Ac
set_option maxRecDepth 100000 in
set_option maxHeartbeats 8000000 in
theorem rdoes_3 {W : World} {r : Nat} (o : OrderR) {A : Option Addr} {c : Nat} (hk : o.kind = 3) (hsp : spareB o = true) {Q : World → Int → Int → World → Prop}
    (hm : ∀ W1, Below W.heap.size W W1 → Calls Tryz.prog 96 #[.pointer (some ⟨r, 0, none⟩), o.agg (.slice A o.offers.length c)] W1 fun e W' => ∃ v er, e = .returned (.tuple #[.int .i64 v, .int .i64 er]) ∧ Q W1 v er W') :
    Calls Tryz.prog 43 #[.pointer (some ⟨r, 0, none⟩), o.agg (.slice A o.offers.length c)] W fun e W' => ∃ v er, e = .returned (.tuple #[.int .i64 v, .int .i64 er]) ∧ ∃ W1, Below W.heap.size W W1 ∧ Q W1 v er W' := by
  have HM := Lib.hid hm
  clear hm
  obtain ⟨b, hb⟩ : ∃ b, b = spareB o := ⟨_, rfl⟩
  have hze := fun W => rzero_3 o A c hk W
  have hsb : (decide (o.name.size = 0) && (o.coins == 0) && (o.bidder == 0) && (o.lot == 0) && ((o.offers.length : Int) == 0) && (o.tick == 0)) = spareB o := by unfold spareB; rw [hk]; simp [Bool.and_comm, Bool.and_left_comm, Bool.and_assoc]
  rw [hsb, ← hb] at hze
  have HZE := Lib.hid hze
  have HSB := Lib.hid (hb.trans hsp)
  clear hze hsb hb hsp
  obtain ⟨okind, oname, ocoins, obidder, olot, ⟨kind, opens, closes, start, step, extend, last, floor, fall, count, rule⟩, ooff, otick⟩ := o
  simp only at hk
  subst hk
  simp only [OrderR.agg, OrderR.cells, LotR.cells, List.cons_append, List.nil_append] at HZE HM ⊢
  obtain ⟨W1, hW1⟩ : ∃ W1, W1 = (W.alloc (.cells #[.int .i64 3, .string oname, .int .i64 ocoins, .int .i64 obidder, .int .i64 olot, .int .i64 kind, .int .i64 opens, .int .i64 closes, .int .i64 start, .int .i64 step, .int .i64 extend, .int .i64 last, .int .i64 floor, .int .i64 fall, .int .i64 count, .int .i64 rule, .slice A ooff.length c, .int .i64 otick] 36)).alloc (.cells #[.string { data := #[] }, .string { data := #[110, 99] }, .string { data := #[98, 99] }, .string { data := #[112] }, .string { data := #[98, 108, 111] }, .string { data := #[98, 108] }, .string { data := #[116] }] 9) := ⟨_, rfl⟩
  have hb1 : Below W.heap.size W W1 := by rw [hW1]; exact ((Below.refl _ _).alloc (Nat.le_refl _) _).alloc (by simp) _
  have hx1 : Ac.Blk W1 W.heap.size 36 #[.int .i64 3, .string oname, .int .i64 ocoins, .int .i64 obidder, .int .i64 olot, .int .i64 kind, .int .i64 opens, .int .i64 closes, .int .i64 start, .int .i64 step, .int .i64 extend, .int .i64 last, .int .i64 floor, .int .i64 fall, .int .i64 count, .int .i64 rule, .slice A ooff.length c, .int .i64 otick] := by rw [hW1]; exact (Blk.new W _ _).alloc _
  have hy1 : Ac.Blk W1 (W.heap.size + 1) 9 #[.string { data := #[] }, .string { data := #[110, 99] }, .string { data := #[98, 99] }, .string { data := #[112] }, .string { data := #[98, 108, 111] }, .string { data := #[98, 108] }, .string { data := #[116] }] := by rw [hW1]; exact Blk.new' _ _ (by simp)
  have x0 : W1.cell? ⟨W.heap.size, 0, none⟩ = some (.int .i64 3) := hx1.cell 0
  have lx := hx1.lt
  have s0 : W1.cell? ⟨W.heap.size + 1, 3, none⟩ = some (.string { data := #[112] }) := hy1.cell 3
  have ls := hy1.lt
  have HB1 := Lib.hid hb1
  have HX1 := Lib.hid hx1
  clear hb1 hx1 hy1
  go_enter Tryz.func43, Tryz.ntmps43
  go_wp2_with fail
  rw [← hW1]
  clear hW1
  refine wp_region_F (Below W1.heap.size W1) [] (by kernel_rfl) ((Below.refl _ _).drew) (fun hS => ?_)
  refine wpAnyF_take (i := 0) (oi := ⟨some 9, .fieldAddr 36 (.tmp 3) 0, 0, "ref.go:151", #[], none⟩) (v := ?_) rfl (by kernel_rfl) (by kernel_rfl) (by kernel_rfl) (by kernel_rfl) (fun _ _ _ h => h) (Or.inl ⟨by rfl, ?_⟩) hS ?_
  rotate_left
  · intro w' _; go_simp; try with_reducible rfl
  try simp only [Act.put, pb, pz, ps]
  refine wpAnyF_take (i := 1) (oi := ⟨some 10, .load 29 (.tmp 9), 29, "ref.go:151", #[⟨0, .data⟩], none⟩) (v := ?_) rfl (by kernel_rfl) (by kernel_rfl) (by kernel_rfl) (by kernel_rfl) (fun _ _ _ h => h) (Or.inl ⟨by rfl, ?_⟩) hS ?_
  rotate_left
  · intro w' hSw; have q0 := (hSw.cell (p := ⟨W.heap.size, 0, none⟩) lx).trans x0; have qs := (hSw.cell (p := ⟨W.heap.size + 1, 3, none⟩) ls).trans s0; go_simp; try with_reducible rfl
  try simp only [Act.put, pb, pz, ps]
  refine wpAnyF_take (i := 2) (oi := ⟨some 11, .binOp .lss 3 (.tmp 10) (.const (.int .i64 1)) 3, 4, "ref.go:151", #[⟨1, .data⟩], none⟩) (v := ?_) rfl (by kernel_rfl) (by kernel_rfl) (by kernel_rfl) (by kernel_rfl) (fun _ _ _ h => h) (Or.inl ⟨by rfl, ?_⟩) hS ?_
  rotate_left
  · intro w' _; go_simp; try with_reducible rfl
  try simp only [Act.put, pb, pz, ps]
  refine wpAnyF_take (i := 3) (oi := ⟨some 12, .move (.tmp 11), 4, "ref.go:151", #[⟨2, .data⟩], none⟩) (v := ?_) rfl (by kernel_rfl) (by kernel_rfl) (by kernel_rfl) (by kernel_rfl) (fun _ _ _ h => h) (Or.inl ⟨by rfl, ?_⟩) hS ?_
  rotate_left
  · intro w' _; go_simp; try with_reducible rfl
  try simp only [Act.put, pb, pz, ps]
  refine wpAnyF_take (i := 4) (oi := ⟨some 13, .fieldAddr 36 (.tmp 3) 0, 0, "ref.go:151", #[⟨3, .guard⟩], some (3, false)⟩) (v := ?_) rfl (by kernel_rfl) (by kernel_rfl) (by kernel_rfl) (by kernel_rfl) (fun _ _ _ h => h) (Or.inl ⟨by rfl, ?_⟩) hS ?_
  rotate_left
  · intro w' _; go_simp; try with_reducible rfl
  try simp only [Act.put, pb, pz, ps]
  refine wpAnyF_take (i := 5) (oi := ⟨some 14, .load 29 (.tmp 13), 29, "ref.go:151", #[⟨4, .data⟩, ⟨3, .guard⟩], some (3, false)⟩) (v := ?_) rfl (by kernel_rfl) (by kernel_rfl) (by kernel_rfl) (by kernel_rfl) (fun _ _ _ h => h) (Or.inl ⟨by rfl, ?_⟩) hS ?_
  rotate_left
  · intro w' hSw; have q0 := (hSw.cell (p := ⟨W.heap.size, 0, none⟩) lx).trans x0; have qs := (hSw.cell (p := ⟨W.heap.size + 1, 3, none⟩) ls).trans s0; go_simp; try with_reducible rfl
  try simp only [Act.put, pb, pz, ps]
  refine wpAnyF_take (i := 6) (oi := ⟨some 15, .binOp .gtr 3 (.tmp 14) (.const (.int .i64 6)) 3, 4, "ref.go:151", #[⟨5, .data⟩, ⟨3, .guard⟩], some (3, false)⟩) (v := ?_) rfl (by kernel_rfl) (by kernel_rfl) (by kernel_rfl) (by kernel_rfl) (fun _ _ _ h => h) (Or.inl ⟨by rfl, ?_⟩) hS ?_
  rotate_left
  · intro w' _; go_simp; try with_reducible rfl
  try simp only [Act.put, pb, pz, ps]
  refine wpAnyF_take (i := 7) (oi := ⟨some 16, .pick (.tmp 12) (.const (.bool true)) (.tmp 15), 4, "ref.go:151", #[⟨3, .data⟩, ⟨6, .data⟩], none⟩) (v := ?_) rfl (by kernel_rfl) (by kernel_rfl) (by kernel_rfl) (by kernel_rfl) (fun _ _ _ h => h) (Or.inl ⟨by rfl, ?_⟩) hS ?_
  rotate_left
  · intro w' _; go_simp; try with_reducible rfl
  try simp only [Act.put, pb, pz, ps]
  refine wpAnyF_take (i := 8) (oi := ⟨some 17, .move (.tmp 16), 4, "ref.go:151", #[⟨7, .data⟩, ⟨3, .chain⟩], none⟩) (v := ?_) rfl (by kernel_rfl) (by kernel_rfl) (by kernel_rfl) (by kernel_rfl) (fun _ _ _ h => h) (Or.inl ⟨by rfl, ?_⟩) hS ?_
  rotate_left
  · intro w' _; go_simp; try with_reducible rfl
  try simp only [Act.put, pb, pz, ps]
  refine wpAnyF_take (i := 9) (oi := ⟨some 18, .load 36 (.tmp 3), 36, "ref.go:151", #[⟨8, .guard⟩], some (8, false)⟩) (v := ?_) rfl (by kernel_rfl) (by kernel_rfl) (by kernel_rfl) (by kernel_rfl) (fun _ _ _ h => h) (Or.inl ⟨by rfl, ?_⟩) hS ?_
  rotate_left
  · intro w' hSw; refine Eq.trans (exec_load_row 36 (.tmp 3) (by rfl) W.heap.size (by rfl) 36 #[.int .i64 3, .string oname, .int .i64 ocoins, .int .i64 obidder, .int .i64 olot, .int .i64 kind, .int .i64 opens, .int .i64 closes, .int .i64 start, .int .i64 step, .int .i64 extend, .int .i64 last, .int .i64 floor, .int .i64 fall, .int .i64 count, .int .i64 rule, .slice A ooff.length c, .int .i64 otick] (0, 0) _ (HX1.out.grow hSw) Tryz.underlying36 rfl (by kernel_rfl)) ?_; with_reducible rfl
  try simp only [Act.put, pb, pz, ps]
  refine wpAnyF_take (i := 10) (oi := ⟨some 19, .move (.tmp 6), 48, "ref.go:151", #[⟨8, .guard⟩], some (8, false)⟩) (v := ?_) rfl (by kernel_rfl) (by kernel_rfl) (by kernel_rfl) (by kernel_rfl) (fun _ _ _ h => h) (Or.inl ⟨by rfl, ?_⟩) hS ?_
  rotate_left
  · intro w' _; go_simp; try with_reducible rfl
  try simp only [Act.put, pb, pz, ps]
  refine wpAnyF_take (i := 11) (oi := ⟨some 20, .fieldAddr 36 (.tmp 3) 0, 0, "ref.go:151", #[⟨8, .guard⟩], some (8, false)⟩) (v := ?_) rfl (by kernel_rfl) (by kernel_rfl) (by kernel_rfl) (by kernel_rfl) (fun _ _ _ h => h) (Or.inl ⟨by rfl, ?_⟩) hS ?_
  rotate_left
  · intro w' _; go_simp; try with_reducible rfl
  try simp only [Act.put, pb, pz, ps]
  refine wpAnyF_take (i := 12) (oi := ⟨some 21, .load 29 (.tmp 20), 29, "ref.go:151", #[⟨11, .data⟩, ⟨8, .guard⟩], some (8, false)⟩) (v := ?_) rfl (by kernel_rfl) (by kernel_rfl) (by kernel_rfl) (by kernel_rfl) (fun _ _ _ h => h) (Or.inl ⟨by rfl, ?_⟩) hS ?_
  rotate_left
  · intro w' hSw; have q0 := (hSw.cell (p := ⟨W.heap.size, 0, none⟩) lx).trans x0; have qs := (hSw.cell (p := ⟨W.heap.size + 1, 3, none⟩) ls).trans s0; go_simp; try with_reducible rfl
  try simp only [Act.put, pb, pz, ps]
  refine wpAnyF_take (i := 13) (oi := ⟨some 22, .indexAddr 48 (.tmp 19) (.tmp 21), 0, "ref.go:151", #[⟨10, .data⟩, ⟨12, .data⟩, ⟨8, .guard⟩], some (8, false)⟩) (v := ?_) rfl (by kernel_rfl) (by kernel_rfl) (by kernel_rfl) (by kernel_rfl) (fun _ _ _ h => h) (Or.inl ⟨by rfl, ?_⟩) hS ?_
  rotate_left
  · intro w' _; go_simp; try with_reducible rfl
  try simp only [Act.put, pb, pz, ps]
  refine wpAnyF_take (i := 14) (oi := ⟨some 23, .load 9 (.tmp 22), 9, "ref.go:151", #[⟨13, .data⟩, ⟨8, .guard⟩], some (8, false)⟩) (v := ?_) rfl (by kernel_rfl) (by kernel_rfl) (by kernel_rfl) (by kernel_rfl) (fun _ _ _ h => h) (Or.inl ⟨by rfl, ?_⟩) hS ?_
  rotate_left
  · intro w' hSw; have q0 := (hSw.cell (p := ⟨W.heap.size, 0, none⟩) lx).trans x0; have qs := (hSw.cell (p := ⟨W.heap.size + 1, 3, none⟩) ls).trans s0; go_simp; try with_reducible rfl
  try simp only [Act.put, pb, pz, ps]
  refine wpAnyF_ready (rs := [15]) (by kernel_rfl) (by simp) ?_
  refine AllReadyF.cons (o := ⟨some 24, .call { callee := .value (.func 93), args := #[.tmp 18, .tmp 23], argTypes := #[36, 9] }, 4, "ref.go:151", #[⟨9, .data⟩, ⟨14, .data⟩, ⟨8, .chain⟩, ⟨8, .guard⟩], some (8, false)⟩) rfl (by rfl) (fun K hK => ?_) ?_
  · go_simp
    refine (HZE.out W1.drew).mono ?_
    rintro e W3 ⟨rfl, hb3⟩
    have hb3 : Below W1.heap.size W1 W3 := (Below.refl _ _).drew.trans (hb3.mono (Nat.le_refl _))
    rw [HSB.out]
    have HX3 := Lib.hid (HX1.out.grow hb3)
    have HB3 := Lib.hid (HB1.out.trans (hb3.mono HB1.out.size))
    have HB13 := Lib.hid hb3
    clear hb3
    refine hK.out _ _ ?_ (fun hS => ?_)
    · exact HB13.out
    clear hK K
    try simp only [Act.put, pb, pz, ps]
    refine wpAnyF_take (i := 16) (oi := ⟨some 25, .unOp .not 4 (.tmp 24), 4, "ref.go:151", #[⟨15, .data⟩, ⟨8, .guard⟩], some (8, false)⟩) (v := ?_) rfl (by kernel_rfl) (by kernel_rfl) (by kernel_rfl) (by kernel_rfl) (fun _ _ _ h => h) (Or.inl ⟨by rfl, ?_⟩) hS ?_
    rotate_left
    · intro w' _; go_simp; try with_reducible rfl
    try simp only [Act.put, pb, pz, ps]
    refine wpAnyF_take (i := 17) (oi := ⟨some 26, .pick (.tmp 17) (.const (.bool true)) (.tmp 25), 4, "ref.go:151", #[⟨8, .data⟩, ⟨16, .data⟩], none⟩) (v := ?_) rfl (by kernel_rfl) (by kernel_rfl) (by kernel_rfl) (by kernel_rfl) (fun _ _ _ h => h) (Or.inl ⟨by rfl, ?_⟩) hS ?_
    rotate_left
    · intro w' _; go_simp; try with_reducible rfl
    try simp only [Act.put, pb, pz, ps]
    refine wpAnyF_done (by kernel_rfl) ?_ _
    clear hS x0 s0 lx ls
    have x0 : W3.cell? ⟨W.heap.size, 0, none⟩ = some (.int .i64 3) := HX3.out.cell 0
    go_wp2_with (refine wpList_load_row rfl 36 (.tmp 3) rfl W.heap.size rfl 36 #[.int .i64 3, .string oname, .int .i64 ocoins, .int .i64 obidder, .int .i64 olot, .int .i64 kind, .int .i64 opens, .int .i64 closes, .int .i64 start, .int .i64 step, .int .i64 extend, .int .i64 last, .int .i64 floor, .int .i64 fall, .int .i64 count, .int .i64 rule, .slice A ooff.length c, .int .i64 otick] (0, 0) _ HX3.out Tryz.underlying36 rfl (by kernel_rfl) ?_)
    refine (HM.out W3 HB3.out).mono ?_
    rintro e W4 ⟨v, er, rfl, hq⟩
    have HQ := Lib.hid hq
    clear hq
    go_wp2_with fail
    go_ret2
    exact ⟨v, er, rfl, W3, HB3.out, HQ.out⟩
  exact AllReadyF.nil
set_option maxRecDepth 100000 in
set_option maxHeartbeats 8000000 in
theorem rdoes_6 {W : World} {r : Nat} (o : OrderR) {A : Option Addr} {c : Nat} (hk : o.kind = 6) (hsp : spareB o = true) {Q : World → Int → Int → World → Prop}
    (hm : ∀ W1, Below W.heap.size W W1 → Calls Tryz.prog 97 #[.pointer (some ⟨r, 0, none⟩), o.agg (.slice A o.offers.length c)] W1 fun e W' => ∃ v er, e = .returned (.tuple #[.int .i64 v, .int .i64 er]) ∧ Q W1 v er W') :
    Calls Tryz.prog 43 #[.pointer (some ⟨r, 0, none⟩), o.agg (.slice A o.offers.length c)] W fun e W' => ∃ v er, e = .returned (.tuple #[.int .i64 v, .int .i64 er]) ∧ ∃ W1, Below W.heap.size W W1 ∧ Q W1 v er W' := by
  have HM := Lib.hid hm
  clear hm
  obtain ⟨b, hb⟩ : ∃ b, b = spareB o := ⟨_, rfl⟩
  have hze := fun W => rzero_6 o A c hk W
  have hsb : (decide (o.name.size = 0) && (o.coins == 0) && (o.bidder == 0) && (o.lot == 0) && decide (o.put = zeroLot) && ((o.offers.length : Int) == 0)) = spareB o := by unfold spareB; rw [hk]; simp [Bool.and_comm, Bool.and_left_comm, Bool.and_assoc]
  rw [hsb, ← hb] at hze
  have HZE := Lib.hid hze
  have HSB := Lib.hid (hb.trans hsp)
  clear hze hsb hb hsp
  obtain ⟨okind, oname, ocoins, obidder, olot, ⟨kind, opens, closes, start, step, extend, last, floor, fall, count, rule⟩, ooff, otick⟩ := o
  simp only at hk
  subst hk
  simp only [OrderR.agg, OrderR.cells, LotR.cells, List.cons_append, List.nil_append] at HZE HM ⊢
  obtain ⟨W1, hW1⟩ : ∃ W1, W1 = (W.alloc (.cells #[.int .i64 6, .string oname, .int .i64 ocoins, .int .i64 obidder, .int .i64 olot, .int .i64 kind, .int .i64 opens, .int .i64 closes, .int .i64 start, .int .i64 step, .int .i64 extend, .int .i64 last, .int .i64 floor, .int .i64 fall, .int .i64 count, .int .i64 rule, .slice A ooff.length c, .int .i64 otick] 36)).alloc (.cells #[.string { data := #[] }, .string { data := #[110, 99] }, .string { data := #[98, 99] }, .string { data := #[112] }, .string { data := #[98, 108, 111] }, .string { data := #[98, 108] }, .string { data := #[116] }] 9) := ⟨_, rfl⟩
  have hb1 : Below W.heap.size W W1 := by rw [hW1]; exact ((Below.refl _ _).alloc (Nat.le_refl _) _).alloc (by simp) _
  have hx1 : Ac.Blk W1 W.heap.size 36 #[.int .i64 6, .string oname, .int .i64 ocoins, .int .i64 obidder, .int .i64 olot, .int .i64 kind, .int .i64 opens, .int .i64 closes, .int .i64 start, .int .i64 step, .int .i64 extend, .int .i64 last, .int .i64 floor, .int .i64 fall, .int .i64 count, .int .i64 rule, .slice A ooff.length c, .int .i64 otick] := by rw [hW1]; exact (Blk.new W _ _).alloc _
  have hy1 : Ac.Blk W1 (W.heap.size + 1) 9 #[.string { data := #[] }, .string { data := #[110, 99] }, .string { data := #[98, 99] }, .string { data := #[112] }, .string { data := #[98, 108, 111] }, .string { data := #[98, 108] }, .string { data := #[116] }] := by rw [hW1]; exact Blk.new' _ _ (by simp)
  have x0 : W1.cell? ⟨W.heap.size, 0, none⟩ = some (.int .i64 6) := hx1.cell 0
  have lx := hx1.lt
  have s0 : W1.cell? ⟨W.heap.size + 1, 6, none⟩ = some (.string { data := #[116] }) := hy1.cell 6
  have ls := hy1.lt
  have HB1 := Lib.hid hb1
  have HX1 := Lib.hid hx1
  clear hb1 hx1 hy1
  go_enter Tryz.func43, Tryz.ntmps43
  go_wp2_with fail
  rw [← hW1]
  clear hW1
  refine wp_region_F (Below W1.heap.size W1) [] (by kernel_rfl) ((Below.refl _ _).drew) (fun hS => ?_)
  refine wpAnyF_take (i := 0) (oi := ⟨some 9, .fieldAddr 36 (.tmp 3) 0, 0, "ref.go:151", #[], none⟩) (v := ?_) rfl (by kernel_rfl) (by kernel_rfl) (by kernel_rfl) (by kernel_rfl) (fun _ _ _ h => h) (Or.inl ⟨by rfl, ?_⟩) hS ?_
  rotate_left
  · intro w' _; go_simp; try with_reducible rfl
  try simp only [Act.put, pb, pz, ps]
  refine wpAnyF_take (i := 1) (oi := ⟨some 10, .load 29 (.tmp 9), 29, "ref.go:151", #[⟨0, .data⟩], none⟩) (v := ?_) rfl (by kernel_rfl) (by kernel_rfl) (by kernel_rfl) (by kernel_rfl) (fun _ _ _ h => h) (Or.inl ⟨by rfl, ?_⟩) hS ?_
  rotate_left
  · intro w' hSw; have q0 := (hSw.cell (p := ⟨W.heap.size, 0, none⟩) lx).trans x0; have qs := (hSw.cell (p := ⟨W.heap.size + 1, 6, none⟩) ls).trans s0; go_simp; try with_reducible rfl
  try simp only [Act.put, pb, pz, ps]
  refine wpAnyF_take (i := 2) (oi := ⟨some 11, .binOp .lss 3 (.tmp 10) (.const (.int .i64 1)) 3, 4, "ref.go:151", #[⟨1, .data⟩], none⟩) (v := ?_) rfl (by kernel_rfl) (by kernel_rfl) (by kernel_rfl) (by kernel_rfl) (fun _ _ _ h => h) (Or.inl ⟨by rfl, ?_⟩) hS ?_
  rotate_left
  · intro w' _; go_simp; try with_reducible rfl
  try simp only [Act.put, pb, pz, ps]
  refine wpAnyF_take (i := 3) (oi := ⟨some 12, .move (.tmp 11), 4, "ref.go:151", #[⟨2, .data⟩], none⟩) (v := ?_) rfl (by kernel_rfl) (by kernel_rfl) (by kernel_rfl) (by kernel_rfl) (fun _ _ _ h => h) (Or.inl ⟨by rfl, ?_⟩) hS ?_
  rotate_left
  · intro w' _; go_simp; try with_reducible rfl
  try simp only [Act.put, pb, pz, ps]
  refine wpAnyF_take (i := 4) (oi := ⟨some 13, .fieldAddr 36 (.tmp 3) 0, 0, "ref.go:151", #[⟨3, .guard⟩], some (3, false)⟩) (v := ?_) rfl (by kernel_rfl) (by kernel_rfl) (by kernel_rfl) (by kernel_rfl) (fun _ _ _ h => h) (Or.inl ⟨by rfl, ?_⟩) hS ?_
  rotate_left
  · intro w' _; go_simp; try with_reducible rfl
  try simp only [Act.put, pb, pz, ps]
  refine wpAnyF_take (i := 5) (oi := ⟨some 14, .load 29 (.tmp 13), 29, "ref.go:151", #[⟨4, .data⟩, ⟨3, .guard⟩], some (3, false)⟩) (v := ?_) rfl (by kernel_rfl) (by kernel_rfl) (by kernel_rfl) (by kernel_rfl) (fun _ _ _ h => h) (Or.inl ⟨by rfl, ?_⟩) hS ?_
  rotate_left
  · intro w' hSw; have q0 := (hSw.cell (p := ⟨W.heap.size, 0, none⟩) lx).trans x0; have qs := (hSw.cell (p := ⟨W.heap.size + 1, 6, none⟩) ls).trans s0; go_simp; try with_reducible rfl
  try simp only [Act.put, pb, pz, ps]
  refine wpAnyF_take (i := 6) (oi := ⟨some 15, .binOp .gtr 3 (.tmp 14) (.const (.int .i64 6)) 3, 4, "ref.go:151", #[⟨5, .data⟩, ⟨3, .guard⟩], some (3, false)⟩) (v := ?_) rfl (by kernel_rfl) (by kernel_rfl) (by kernel_rfl) (by kernel_rfl) (fun _ _ _ h => h) (Or.inl ⟨by rfl, ?_⟩) hS ?_
  rotate_left
  · intro w' _; go_simp; try with_reducible rfl
  try simp only [Act.put, pb, pz, ps]
  refine wpAnyF_take (i := 7) (oi := ⟨some 16, .pick (.tmp 12) (.const (.bool true)) (.tmp 15), 4, "ref.go:151", #[⟨3, .data⟩, ⟨6, .data⟩], none⟩) (v := ?_) rfl (by kernel_rfl) (by kernel_rfl) (by kernel_rfl) (by kernel_rfl) (fun _ _ _ h => h) (Or.inl ⟨by rfl, ?_⟩) hS ?_
  rotate_left
  · intro w' _; go_simp; try with_reducible rfl
  try simp only [Act.put, pb, pz, ps]
  refine wpAnyF_take (i := 8) (oi := ⟨some 17, .move (.tmp 16), 4, "ref.go:151", #[⟨7, .data⟩, ⟨3, .chain⟩], none⟩) (v := ?_) rfl (by kernel_rfl) (by kernel_rfl) (by kernel_rfl) (by kernel_rfl) (fun _ _ _ h => h) (Or.inl ⟨by rfl, ?_⟩) hS ?_
  rotate_left
  · intro w' _; go_simp; try with_reducible rfl
  try simp only [Act.put, pb, pz, ps]
  refine wpAnyF_take (i := 9) (oi := ⟨some 18, .load 36 (.tmp 3), 36, "ref.go:151", #[⟨8, .guard⟩], some (8, false)⟩) (v := ?_) rfl (by kernel_rfl) (by kernel_rfl) (by kernel_rfl) (by kernel_rfl) (fun _ _ _ h => h) (Or.inl ⟨by rfl, ?_⟩) hS ?_
  rotate_left
  · intro w' hSw; refine Eq.trans (exec_load_row 36 (.tmp 3) (by rfl) W.heap.size (by rfl) 36 #[.int .i64 6, .string oname, .int .i64 ocoins, .int .i64 obidder, .int .i64 olot, .int .i64 kind, .int .i64 opens, .int .i64 closes, .int .i64 start, .int .i64 step, .int .i64 extend, .int .i64 last, .int .i64 floor, .int .i64 fall, .int .i64 count, .int .i64 rule, .slice A ooff.length c, .int .i64 otick] (0, 0) _ (HX1.out.grow hSw) Tryz.underlying36 rfl (by kernel_rfl)) ?_; with_reducible rfl
  try simp only [Act.put, pb, pz, ps]
  refine wpAnyF_take (i := 10) (oi := ⟨some 19, .move (.tmp 6), 48, "ref.go:151", #[⟨8, .guard⟩], some (8, false)⟩) (v := ?_) rfl (by kernel_rfl) (by kernel_rfl) (by kernel_rfl) (by kernel_rfl) (fun _ _ _ h => h) (Or.inl ⟨by rfl, ?_⟩) hS ?_
  rotate_left
  · intro w' _; go_simp; try with_reducible rfl
  try simp only [Act.put, pb, pz, ps]
  refine wpAnyF_take (i := 11) (oi := ⟨some 20, .fieldAddr 36 (.tmp 3) 0, 0, "ref.go:151", #[⟨8, .guard⟩], some (8, false)⟩) (v := ?_) rfl (by kernel_rfl) (by kernel_rfl) (by kernel_rfl) (by kernel_rfl) (fun _ _ _ h => h) (Or.inl ⟨by rfl, ?_⟩) hS ?_
  rotate_left
  · intro w' _; go_simp; try with_reducible rfl
  try simp only [Act.put, pb, pz, ps]
  refine wpAnyF_take (i := 12) (oi := ⟨some 21, .load 29 (.tmp 20), 29, "ref.go:151", #[⟨11, .data⟩, ⟨8, .guard⟩], some (8, false)⟩) (v := ?_) rfl (by kernel_rfl) (by kernel_rfl) (by kernel_rfl) (by kernel_rfl) (fun _ _ _ h => h) (Or.inl ⟨by rfl, ?_⟩) hS ?_
  rotate_left
  · intro w' hSw; have q0 := (hSw.cell (p := ⟨W.heap.size, 0, none⟩) lx).trans x0; have qs := (hSw.cell (p := ⟨W.heap.size + 1, 6, none⟩) ls).trans s0; go_simp; try with_reducible rfl
  try simp only [Act.put, pb, pz, ps]
  refine wpAnyF_take (i := 13) (oi := ⟨some 22, .indexAddr 48 (.tmp 19) (.tmp 21), 0, "ref.go:151", #[⟨10, .data⟩, ⟨12, .data⟩, ⟨8, .guard⟩], some (8, false)⟩) (v := ?_) rfl (by kernel_rfl) (by kernel_rfl) (by kernel_rfl) (by kernel_rfl) (fun _ _ _ h => h) (Or.inl ⟨by rfl, ?_⟩) hS ?_
  rotate_left
  · intro w' _; go_simp; try with_reducible rfl
  try simp only [Act.put, pb, pz, ps]
  refine wpAnyF_take (i := 14) (oi := ⟨some 23, .load 9 (.tmp 22), 9, "ref.go:151", #[⟨13, .data⟩, ⟨8, .guard⟩], some (8, false)⟩) (v := ?_) rfl (by kernel_rfl) (by kernel_rfl) (by kernel_rfl) (by kernel_rfl) (fun _ _ _ h => h) (Or.inl ⟨by rfl, ?_⟩) hS ?_
  rotate_left
  · intro w' hSw; have q0 := (hSw.cell (p := ⟨W.heap.size, 0, none⟩) lx).trans x0; have qs := (hSw.cell (p := ⟨W.heap.size + 1, 6, none⟩) ls).trans s0; go_simp; try with_reducible rfl
  try simp only [Act.put, pb, pz, ps]
  refine wpAnyF_ready (rs := [15]) (by kernel_rfl) (by simp) ?_
  refine AllReadyF.cons (o := ⟨some 24, .call { callee := .value (.func 93), args := #[.tmp 18, .tmp 23], argTypes := #[36, 9] }, 4, "ref.go:151", #[⟨9, .data⟩, ⟨14, .data⟩, ⟨8, .chain⟩, ⟨8, .guard⟩], some (8, false)⟩) rfl (by rfl) (fun K hK => ?_) ?_
  · go_simp
    refine (HZE.out W1.drew).mono ?_
    rintro e W3 ⟨rfl, hb3⟩
    have hb3 : Below W1.heap.size W1 W3 := (Below.refl _ _).drew.trans (hb3.mono (Nat.le_refl _))
    rw [HSB.out]
    have HX3 := Lib.hid (HX1.out.grow hb3)
    have HB3 := Lib.hid (HB1.out.trans (hb3.mono HB1.out.size))
    have HB13 := Lib.hid hb3
    clear hb3
    refine hK.out _ _ ?_ (fun hS => ?_)
    · exact HB13.out
    clear hK K
    try simp only [Act.put, pb, pz, ps]
    refine wpAnyF_take (i := 16) (oi := ⟨some 25, .unOp .not 4 (.tmp 24), 4, "ref.go:151", #[⟨15, .data⟩, ⟨8, .guard⟩], some (8, false)⟩) (v := ?_) rfl (by kernel_rfl) (by kernel_rfl) (by kernel_rfl) (by kernel_rfl) (fun _ _ _ h => h) (Or.inl ⟨by rfl, ?_⟩) hS ?_
    rotate_left
    · intro w' _; go_simp; try with_reducible rfl
    try simp only [Act.put, pb, pz, ps]
    refine wpAnyF_take (i := 17) (oi := ⟨some 26, .pick (.tmp 17) (.const (.bool true)) (.tmp 25), 4, "ref.go:151", #[⟨8, .data⟩, ⟨16, .data⟩], none⟩) (v := ?_) rfl (by kernel_rfl) (by kernel_rfl) (by kernel_rfl) (by kernel_rfl) (fun _ _ _ h => h) (Or.inl ⟨by rfl, ?_⟩) hS ?_
    rotate_left
    · intro w' _; go_simp; try with_reducible rfl
    try simp only [Act.put, pb, pz, ps]
    refine wpAnyF_done (by kernel_rfl) ?_ _
    clear hS x0 s0 lx ls
    have x0 : W3.cell? ⟨W.heap.size, 0, none⟩ = some (.int .i64 6) := HX3.out.cell 0
    go_wp2_with (refine wpList_load_row rfl 36 (.tmp 3) rfl W.heap.size rfl 36 #[.int .i64 6, .string oname, .int .i64 ocoins, .int .i64 obidder, .int .i64 olot, .int .i64 kind, .int .i64 opens, .int .i64 closes, .int .i64 start, .int .i64 step, .int .i64 extend, .int .i64 last, .int .i64 floor, .int .i64 fall, .int .i64 count, .int .i64 rule, .slice A ooff.length c, .int .i64 otick] (0, 0) _ HX3.out Tryz.underlying36 rfl (by kernel_rfl) ?_)
    refine (HM.out W3 HB3.out).mono ?_
    rintro e W4 ⟨v, er, rfl, hq⟩
    have HQ := Lib.hid hq
    clear hq
    go_wp2_with fail
    go_ret2
    exact ⟨v, er, rfl, W3, HB3.out, HQ.out⟩
  exact AllReadyF.nil
end Go.Proofs.YthoaidfpgijbfaaGreat.Ho
namespace Go.Proofs.YthoaidfpgijbfaaGreat.Ho
open Go.RowKit
open Go.Proofs.YthoaidfpgijbfaaGreat.Vb Go.Proofs.YthoaidfpgijbfaaGreat.Ac
set_option maxRecDepth 100000 in
set_option maxHeartbeats 8000000 in
theorem rtime_err {W : World} {R : Nat → Prop} {r : Nat} {H : House} (hR : RefIn W R r H) (o : OrderR) (vo : Value) (he : coinB o.tick = false ∨ o.tick < H.now) :
    Calls Tryz.prog 97 #[.pointer (some ⟨r, 0, none⟩), o.agg vo] W fun e W' => e = .returned (.tuple #[.int .i64 0, .int .i64 (if coinB o.tick = true then 6 else 2)]) ∧ Below W.heap.size W W' := by
  obtain ⟨W1, hW1⟩ : ∃ W1, W1 = W.alloc (.cells (o.cells vo).toArray 36) := ⟨_, rfl⟩
  have hb1 : Below W.heap.size W W1 := by rw [hW1]; exact (Below.refl _ _).alloc (Nat.le_refl _) _
  have hx : Ac.Blk W1 W.heap.size 36 (o.cells vo).toArray := by rw [hW1]; exact Blk.new _ _ _
  obtain ⟨vn, vb, vp, vl, vs, vk, h1⟩ := hR.grow hb1
  have c6 := h1.cells.2.2.2.2.2.2.1
  have rl := h1.blk.lt
  obtain ⟨now, hnow⟩ : ∃ n, n = H.now := ⟨_, rfl⟩
  rw [← hnow] at c6 he
  have HB1 := Lib.hid hb1
  obtain ⟨okind, oname, ocoins, obidder, olot, ⟨kind, opens, closes, start, step, extend, last, floor, fall, count, rule⟩, ooff, otick⟩ := o
  simp only at he ⊢
  simp only [OrderR.agg, OrderR.cells, LotR.cells, List.cons_append, List.nil_append] at hW1 hx ⊢
  have x17 : W1.cell? ⟨W.heap.size, 17, none⟩ = some (.int .i64 otick) := hx.cell 17
  have xl := hx.lt
  clear hR hb1 hx h1 hnow
  cases hc : coinB otick with
  | false =>
    have HC := Lib.hid hc
    clear he hc
    go_enter Tryz.func97, Tryz.ntmps97
    go_wp2_with fail
    rw [← hW1]
    clear hW1
    refine (rcoins_any otick _).mono ?_
    rintro e w9 ⟨rfl, hw9⟩
    rw [hw9, HC.out]
    clear hw9 w9
    go_wp2_with fail
    go_ret2
    exact ⟨rfl, HB1.out⟩
  | true =>
    have hlt : otick < now := he.resolve_left (by rw [hc]; simp)
    have HC := Lib.hid hc
    clear he hc
    go_enter Tryz.func97, Tryz.ntmps97
    go_wp2_with fail
    rw [← hW1]
    clear hW1
    refine (rcoins_any otick _).mono ?_
    rintro e w9 ⟨rfl, hw9⟩
    rw [hw9, HC.out]
    clear hw9 w9
    go_wp2_with fail
    refine wp_region_F (Below W1.heap.size W1) [] (by kernel_rfl) ((Below.refl _ _).drew) (fun hS => ?_)
    refine wpAnyF_take (i := 0) (oi := ⟨some 14, .fieldAddr 36 (.tmp 3) 7, 0, "ref.go:366", #[], none⟩) (v := ?_) rfl (by kernel_rfl) (by kernel_rfl) (by kernel_rfl) (by kernel_rfl) (fun _ _ _ h => h) (Or.inl ⟨by rfl, ?_⟩) hS ?_
    rotate_left
    · intro w' _; go_simp; try with_reducible rfl
    try simp only [Act.put, pb, pz, ps]
    refine wpAnyF_take (i := 1) (oi := ⟨some 15, .load 2 (.tmp 14), 2, "ref.go:366", #[⟨0, .data⟩], none⟩) (v := ?_) rfl (by kernel_rfl) (by kernel_rfl) (by kernel_rfl) (by kernel_rfl) (fun _ _ _ h => h) (Or.inl ⟨by rfl, ?_⟩) hS ?_
    rotate_left
    · intro w' hSw; have q0 := (hSw.cell (p := ⟨W.heap.size, 17, none⟩) xl).trans x17; have q1 := (hSw.cell (p := ⟨r, 6, none⟩) rl).trans c6; go_simp; try with_reducible rfl
    try simp only [Act.put, pb, pz, ps]
    refine wpAnyF_take (i := 2) (oi := ⟨some 16, .move (.tmp 0), 47, "ref.go:366", #[], none⟩) (v := ?_) rfl (by kernel_rfl) (by kernel_rfl) (by kernel_rfl) (by kernel_rfl) (fun _ _ _ h => h) (Or.inl ⟨by rfl, ?_⟩) hS ?_
    rotate_left
    · intro w' _; go_simp; try with_reducible rfl
    try simp only [Act.put, pb, pz, ps]
    refine wpAnyF_take (i := 3) (oi := ⟨some 17, .nilCheck (.tmp 16), 0, "ref.go:366", #[⟨2, .data⟩], none⟩) (v := ?_) rfl (by kernel_rfl) (by kernel_rfl) (by kernel_rfl) (by kernel_rfl) (fun _ _ _ h => h) (Or.inl ⟨by rfl, ?_⟩) hS ?_
    rotate_left
    · intro w' _; go_simp; try with_reducible rfl
    try simp only [Act.put, pb, pz, ps]
    refine wpAnyF_take (i := 4) (oi := ⟨some 18, .fieldAddr 52 (.tmp 17) 6, 0, "ref.go:366", #[⟨3, .data⟩], none⟩) (v := ?_) rfl (by kernel_rfl) (by kernel_rfl) (by kernel_rfl) (by kernel_rfl) (fun _ _ _ h => h) (Or.inl ⟨by rfl, ?_⟩) hS ?_
    rotate_left
    · intro w' _; go_simp; try with_reducible rfl
    try simp only [Act.put, pb, pz, ps]
    refine wpAnyF_take (i := 5) (oi := ⟨some 19, .load 2 (.tmp 18), 2, "ref.go:366", #[⟨4, .data⟩], none⟩) (v := ?_) rfl (by kernel_rfl) (by kernel_rfl) (by kernel_rfl) (by kernel_rfl) (fun _ _ _ h => h) (Or.inl ⟨by rfl, ?_⟩) hS ?_
    rotate_left
    · intro w' hSw; have q0 := (hSw.cell (p := ⟨W.heap.size, 17, none⟩) xl).trans x17; have q1 := (hSw.cell (p := ⟨r, 6, none⟩) rl).trans c6; go_simp; try with_reducible rfl
    try simp only [Act.put, pb, pz, ps]
    refine wpAnyF_take (i := 6) (oi := ⟨some 20, .binOp .lss 2 (.tmp 15) (.tmp 19) 2, 4, "ref.go:366", #[⟨1, .data⟩, ⟨5, .data⟩], none⟩) (v := ?_) rfl (by kernel_rfl) (by kernel_rfl) (by kernel_rfl) (by kernel_rfl) (fun _ _ _ h => h) (Or.inl ⟨by rfl, ?_⟩) hS ?_
    rotate_left
    · intro w' _; go_simp; try with_reducible rfl
    try simp only [Act.put, pb, pz, ps]
    refine wpAnyF_done (by kernel_rfl) ?_ _
    have HS := Lib.hid hS
    clear hS
    go_wp2_with fail
    go_ret2
    exact ⟨rfl, HB1.out.trans (HS.out.mono HB1.out.size)⟩
set_option maxRecDepth 100000 in
set_option maxHeartbeats 8000000 in
theorem rtime_nil {W : World} {R : Nat → Prop} {r : Nat} {H : House} (hR : RefIn W R r H) (hl : H.lots = []) (o : OrderR) (vo : Value) (ht : coinB o.tick = true) (hnow : H.now ≤ o.tick) (due : Int → Option Int) :
    Calls Tryz.prog 97 #[.pointer (some ⟨r, 0, none⟩), o.agg vo] W fun e W' => e = .returned (.tuple #[.int .i64 0, .int .i64 0]) ∧ RefIn W' (fun b => R b ∨ W.heap.size ≤ b) r { H with now := o.tick, due := due } ∧ Chg (· = r) W W' := by
  have hrl0 : r < W.heap.size := by obtain ⟨_, _, _, _, _, _, h⟩ := hR; exact h.blk.lt
  obtain ⟨W1, hW1⟩ : ∃ W1, W1 = W.alloc (.cells (o.cells vo).toArray 36) := ⟨_, rfl⟩
  have hb1 : Below W.heap.size W W1 := by rw [hW1]; exact (Below.refl _ _).alloc (Nat.le_refl _) _
  have hx : Ac.Blk W1 W.heap.size 36 (o.cells vo).toArray := by rw [hW1]; exact Blk.new _ _ _
  obtain ⟨vn, vb, vp, vl, vs, vk, h1⟩ := hR.grow hb1
  obtain ⟨A, c, hvl⟩ := h1.lots.form
  rw [hl] at hvl
  have c3 := h1.cells.2.2.2.1
  rw [hvl] at c3
  have c6 := h1.cells.2.2.2.2.2.2.1
  have f6 := h1.blk.frozen 6
  have rl := h1.blk.lt
  obtain ⟨now, hnw⟩ : ∃ n, n = H.now := ⟨_, rfl⟩
  rw [← hnw] at c6 hnow
  have HRA := Lib.hid h1
  have HB1 := Lib.hid hb1
  obtain ⟨okind, oname, ocoins, obidder, olot, ⟨kind, opens, closes, start, step, extend, last, floor, fall, count, rule⟩, ooff, otick⟩ := o
  simp only at ht hnow ⊢
  simp only [OrderR.agg, OrderR.cells, LotR.cells, List.cons_append, List.nil_append] at hW1 hx ⊢
  have x17 : W1.cell? ⟨W.heap.size, 17, none⟩ = some (.int .i64 otick) := hx.cell 17
  have xl := hx.lt
  have HC := Lib.hid ht
  have hn2 : ¬ otick < now := by omega
  clear hR hb1 hx h1 hnw ht hvl hl hnow
  go_enter Tryz.func97, Tryz.ntmps97
  go_wp2_with fail
  rw [← hW1]
  clear hW1
  refine (rcoins_any otick _).mono ?_
  rintro e w9 ⟨rfl, hw9⟩
  rw [hw9, HC.out]
  clear hw9 w9
  go_wp2_with fail
  refine wp_region_F (Below W1.heap.size W1) [] (by kernel_rfl) ((Below.refl _ _).drew) (fun hS => ?_)
  refine wpAnyF_take (i := 0) (oi := ⟨some 14, .fieldAddr 36 (.tmp 3) 7, 0, "ref.go:366", #[], none⟩) (v := ?_) rfl (by kernel_rfl) (by kernel_rfl) (by kernel_rfl) (by kernel_rfl) (fun _ _ _ h => h) (Or.inl ⟨by rfl, ?_⟩) hS ?_
  rotate_left
  · intro w' _; go_simp; try with_reducible rfl
  try simp only [Act.put, pb, pz, ps]
  refine wpAnyF_take (i := 1) (oi := ⟨some 15, .load 2 (.tmp 14), 2, "ref.go:366", #[⟨0, .data⟩], none⟩) (v := ?_) rfl (by kernel_rfl) (by kernel_rfl) (by kernel_rfl) (by kernel_rfl) (fun _ _ _ h => h) (Or.inl ⟨by rfl, ?_⟩) hS ?_
  rotate_left
  · intro w' hSw; have q0 := (hSw.cell (p := ⟨W.heap.size, 17, none⟩) xl).trans x17; have q1 := (hSw.cell (p := ⟨r, 6, none⟩) rl).trans c6; go_simp; try with_reducible rfl
  try simp only [Act.put, pb, pz, ps]
  refine wpAnyF_take (i := 2) (oi := ⟨some 16, .move (.tmp 0), 47, "ref.go:366", #[], none⟩) (v := ?_) rfl (by kernel_rfl) (by kernel_rfl) (by kernel_rfl) (by kernel_rfl) (fun _ _ _ h => h) (Or.inl ⟨by rfl, ?_⟩) hS ?_
  rotate_left
  · intro w' _; go_simp; try with_reducible rfl
  try simp only [Act.put, pb, pz, ps]
  refine wpAnyF_take (i := 3) (oi := ⟨some 17, .nilCheck (.tmp 16), 0, "ref.go:366", #[⟨2, .data⟩], none⟩) (v := ?_) rfl (by kernel_rfl) (by kernel_rfl) (by kernel_rfl) (by kernel_rfl) (fun _ _ _ h => h) (Or.inl ⟨by rfl, ?_⟩) hS ?_
  rotate_left
  · intro w' _; go_simp; try with_reducible rfl
  try simp only [Act.put, pb, pz, ps]
  refine wpAnyF_take (i := 4) (oi := ⟨some 18, .fieldAddr 52 (.tmp 17) 6, 0, "ref.go:366", #[⟨3, .data⟩], none⟩) (v := ?_) rfl (by kernel_rfl) (by kernel_rfl) (by kernel_rfl) (by kernel_rfl) (fun _ _ _ h => h) (Or.inl ⟨by rfl, ?_⟩) hS ?_
  rotate_left
  · intro w' _; go_simp; try with_reducible rfl
  try simp only [Act.put, pb, pz, ps]
  refine wpAnyF_take (i := 5) (oi := ⟨some 19, .load 2 (.tmp 18), 2, "ref.go:366", #[⟨4, .data⟩], none⟩) (v := ?_) rfl (by kernel_rfl) (by kernel_rfl) (by kernel_rfl) (by kernel_rfl) (fun _ _ _ h => h) (Or.inl ⟨by rfl, ?_⟩) hS ?_
  rotate_left
  · intro w' hSw; have q0 := (hSw.cell (p := ⟨W.heap.size, 17, none⟩) xl).trans x17; have q1 := (hSw.cell (p := ⟨r, 6, none⟩) rl).trans c6; go_simp; try with_reducible rfl
  try simp only [Act.put, pb, pz, ps]
  refine wpAnyF_take (i := 6) (oi := ⟨some 20, .binOp .lss 2 (.tmp 15) (.tmp 19) 2, 4, "ref.go:366", #[⟨1, .data⟩, ⟨5, .data⟩], none⟩) (v := ?_) rfl (by kernel_rfl) (by kernel_rfl) (by kernel_rfl) (by kernel_rfl) (fun _ _ _ h => h) (Or.inl ⟨by rfl, ?_⟩) hS ?_
  rotate_left
  · intro w' _; go_simp; try with_reducible rfl
  try simp only [Act.put, pb, pz, ps]
  refine wpAnyF_done (by kernel_rfl) ?_ _
  clear hS
  obtain ⟨W2, hW2⟩ : ∃ W2, W2 = W1.drew := ⟨_, rfl⟩
  rw [← hW2]
  have hb2 : Below W1.heap.size W1 W2 := by rw [hW2]; exact (Below.refl _ _).drew
  have HRA2 := Lib.hid (HRA.out.grow hb2)
  have HB2 := Lib.hid (HB1.out.trans (hb2.mono HB1.out.size))
  have y17 := (hb2.cell (p := ⟨W.heap.size, 17, none⟩) xl).trans x17
  have d6 := (hb2.cell (p := ⟨r, 6, none⟩) rl).trans c6
  have g6 := HRA2.out.blk.frozen 6
  have d3 := (hb2.cell (p := ⟨r, 3, none⟩) rl).trans c3
  clear hW2 hb2 x17 c6 c3 f6 rl xl
  go_wp2_with fail
  obtain ⟨U, hU⟩ : ∃ U, U = W2.setCell ⟨r, 6, none⟩ (.int .i64 otick) := ⟨_, rfl⟩
  have hcU : Chg (· = r) W2 U := by rw [hU]; exact Chg.set W2 ⟨r, 6, none⟩ _
  have hrU : Ac.Blk U r 52 #[vn, vb, vp, vl, vs, vk, .int .i64 otick] := by rw [hU]; exact HRA2.out.blk.set_ 6 _
  have e3 : U.cell? ⟨r, 3, none⟩ = some (.slice A 0 c) := by
    have := hrU.cell 3
    rw [this]
    have h3 := HRA2.out.blk.cell 3
    rw [d3] at h3
    exact h3.symm
  rw [← hU]
  have HCU := Lib.hid hcU
  have HRU := Lib.hid hrU
  clear hU hcU hrU d3 g6 d6 y17
  refine wp_loop_rounds 1 ?_
  rw [rounds_succ]
  go_wp2_with fail
  refine wp_loop_rounds 1 ?_
  rw [rounds_succ]
  go_wp2_with fail
  go_ret2
  refine ⟨rfl, ?_, (Chg.of _ HB2.out).step HCU.out fun b _ e => e⟩
  have hA := HRA2.out
  have hsub : ∀ b, b < W2.heap.size → R b → (R b ∨ W.heap.size ≤ b) := fun b _ h => .inl h
  have hnx : ∀ b, b < W2.heap.size → R b → ¬ b = r := fun b _ h e => hA.not (e ▸ h)
  exact ⟨vn, vb, vp, vl, vs, vk, HRU.out, fun h => h.elim hA.not fun h => by omega, Sl.step hA.names HCU.out hnx hsub, Sl.step hA.buds HCU.out hnx hsub, Sl.step hA.spent HCU.out hnx hsub, hA.lots.step HCU.out hnx hsub, Sl.step hA.sales HCU.out hnx hsub, hA.book.step HCU.out hnx hsub⟩
theorem rbidder_err {W : World} {R : Nat → Prop} {r : Nat} {H : House} (hR : RefIn W R r H) {x : Int} (hx : x < 0 ∨ (H.names.length : Int) ≤ x) :
    Calls Tryz.prog 48 #[.pointer (some ⟨r, 0, none⟩), .int .i64 x] W fun e W' => e = .returned (.tuple #[bidderV { data := #[] } 0 0 0, .int .i64 4]) ∧ Below W.heap.size W W' := by
  obtain ⟨W1, hW1⟩ : ∃ W1, W1 = W.alloc (.cells #[.string { data := #[] }, .int .i64 0, .int .i64 0, .int .i64 0] 62) := ⟨_, rfl⟩
  have hb1 : Below W.heap.size W W1 := by rw [hW1]; exact (Below.refl _ _).alloc (Nat.le_refl _) _
  have hx1 : Ac.Blk W1 W.heap.size 62 #[.string { data := #[] }, .int .i64 0, .int .i64 0, .int .i64 0] := by rw [hW1]; exact Blk.new _ _ _
  obtain ⟨vn, vb, vp, vl, vs, vk, h1⟩ := hR.grow hb1
  obtain ⟨A, c, hvn⟩ := Sl.form h1.names
  have c0 := h1.cells.1
  rw [hvn] at c0
  obtain ⟨n, hn⟩ : ∃ n, n = H.names.length := ⟨_, rfl⟩
  rw [← hn] at c0 hx
  have HX1 := Lib.hid hx1
  have HB1 := Lib.hid hb1
  have q0 := hx1.cell 0
  have q1 := hx1.cell 1
  have q2 := hx1.cell 2
  have q3 := hx1.cell 3
  have qf := hx1.frozen
  rw [hW1] at c0 q0 q1 q2 q3 qf
  clear hR h1 hx1 hb1 hvn hn
  by_cases h1 : x < 0
  · clear hx
    go_enter Tryz.func48, Tryz.ntmps48
    go_wp2_with fail
    refine bodyPost_ret (results_cell_row2 rfl _ _ W.heap.size 62 #[.string { data := #[] }, .int .i64 0, .int .i64 0, .int .i64 0] (0, 0) _ rfl (by rw [← hW1]; exact HX1.out) Tryz.underlying62 rfl (by kernel_rfl)) rfl ⟨rfl, ?_⟩
    rw [← hW1]
    exact HB1.out
  · have h2 : (n : Int) ≤ x := hx.resolve_left h1
    clear hx
    go_enter Tryz.func48, Tryz.ntmps48
    go_wp2_with fail
    refine bodyPost_ret (results_cell_row2 rfl _ _ W.heap.size 62 #[.string { data := #[] }, .int .i64 0, .int .i64 0, .int .i64 0] (0, 0) _ rfl (by rw [← hW1]; exact HX1.out) Tryz.underlying62 rfl (by kernel_rfl)) rfl ⟨rfl, ?_⟩
    rw [← hW1]
    exact HB1.out
end Go.Proofs.YthoaidfpgijbfaaGreat.Ho
namespace Go.Proofs.YthoaidfpgijbfaaGreat.Ho
open Go.RowKit
open Go.Proofs.YthoaidfpgijbfaaGreat.Vb Go.Proofs.YthoaidfpgijbfaaGreat.Ac
def fallsI (l : LotR) (t : Int) : Int := if l.fall = 0 ∨ t - l.opens ≤ 0 then l.start else if (l.start - l.floor) / l.fall < t - l.opens then l.floor else l.start - l.fall * (t - l.opens)
theorem fallsI_eq {l : LotR} (h : FallB l) (t : Int) (hc : max t l.opens < l.closes) : fallsI l t = fallPrice l (max t l.opens) := by
  have h1 := h.start; have h2 := h.floor; have h3 := h.fall
  unfold coin at h1 h3
  unfold fallPrice
  rw [if_pos ⟨by omega, hc⟩]
  unfold fallsI fallP fallEnd
  by_cases h0 : l.fall = 0
  · rw [if_pos (.inl h0), if_pos (.inl h0), h0]
    omega
  · have hf : 0 < l.fall := by omega
    obtain ⟨d, hd⟩ : ∃ d, d = max t l.opens - l.opens := ⟨_, rfl⟩
    have e1 : max t l.opens < l.opens + (l.start - l.floor + l.fall - 1) / l.fall ↔ l.fall * d < l.start - l.floor := by
      have := Int.le_ediv_iff_mul_le (a := d + 1) (b := l.start - l.floor + l.fall - 1) hf
      rw [Int.add_mul, Int.one_mul, Int.mul_comm d] at this
      omega
    rw [show max t l.opens - l.opens = d from hd.symm]
    by_cases ht : t - l.opens ≤ 0
    · have hd0 : d = 0 := by omega
      rw [if_pos (.inr ht)]
      rw [hd0, Int.mul_zero] at e1
      rw [hd0, Int.mul_zero]
      by_cases hx : max t l.opens < l.opens + (l.start - l.floor + l.fall - 1) / l.fall
      · rw [if_pos (.inr hx)]; omega
      · rw [if_neg (fun e => e.elim h0 hx)]
        have := mt e1.2 hx
        omega
    · rw [if_neg (fun e => e.elim h0 ht)]
      have hdt : d = t - l.opens := by omega
      rw [← hdt]
      have e2 : (l.start - l.floor) / l.fall < d ↔ l.start - l.floor < l.fall * d := by
        have := Int.ediv_lt_iff_lt_mul (a := l.start - l.floor) (b := d) hf
        rwa [Int.mul_comm d] at this
      by_cases hx : max t l.opens < l.opens + (l.start - l.floor + l.fall - 1) / l.fall
      · have h5 := e1.1 hx
        have hny : ¬ (l.start - l.floor) / l.fall < d := fun e => by have := e2.1 e; omega
        rw [if_neg hny, if_pos (.inr hx)]
      · have h5 := mt e1.2 hx
        by_cases hy : (l.start - l.floor) / l.fall < d
        · rw [if_pos hy, if_neg (fun e => e.elim h0 hx)]
        · have h6 := mt e2.2 hy
          rw [if_neg hy, if_neg (fun e => e.elim h0 hx)]
          omega
set_option maxRecDepth 100000 in
theorem rfalls_any {l : LotR} (h : FallB l) {t : Int} (ht : coin t) (w : World) : Calls Tryz.prog 102 #[l.agg, .int .i64 t] w fun e w' => e = .returned (.int .i64 (fallsI l t)) ∧ Below w.heap.size w w' := by
  have h0 := h.opens; have h1 := h.start; have h2 := h.floor; have h3 := h.fall
  have HM := Lib.hid (show ¬ l.fall = 0 → 0 < t - l.opens → ¬ (l.start - l.floor) / l.fall < t - l.opens → 0 ≤ l.fall * (t - l.opens) ∧ l.fall * (t - l.opens) ≤ l.start - l.floor from fun a b c => by
    unfold coin at h3
    have := Int.ediv_lt_iff_lt_mul (a := l.start - l.floor) (b := t - l.opens) (c := l.fall) (by omega)
    have h4 := mt this.2 c
    rw [Int.mul_comm] at h4
    exact ⟨Int.mul_nonneg h3.1 (by omega), by omega⟩)
  have HQ := Lib.hid (show ¬ l.fall = 0 → 0 ≤ (l.start - l.floor) / l.fall ∧ (l.start - l.floor) / l.fall ≤ 2199023255552 from fun a => by
    unfold coin at h1 h3
    exact ⟨Int.ediv_nonneg (by omega) (by omega), Int.le_trans (Int.ediv_le_self _ (by omega)) (by omega)⟩)
  unfold coin at h0 h1 h3 ht
  obtain ⟨z, hz⟩ : ∃ z, z = fallsI l t := ⟨_, rfl⟩
  rw [← hz]
  unfold fallsI at hz
  obtain ⟨kind, opens, closes, start, step, extend, last, floor, fall, count, rule⟩ := l
  simp only at hz HM HQ h0 h1 h2 h3
  simp only [LotR.agg, LotR.cells]
  have HZ := Lib.hid hz
  clear hz h
  have w1 : IntKind.i64.wrap (t - opens) = t - opens := IntWalk.i64_in _ (by omega)
  have w2 : IntKind.i64.wrap (start - floor) = start - floor := IntWalk.i64_in _ (by omega)
  have HB := Lib.hid (show Below w.heap.size w (w.alloc (.cells #[.int .i64 kind, .int .i64 opens, .int .i64 closes, .int .i64 start, .int .i64 step, .int .i64 extend, .int .i64 last, .int .i64 floor, .int .i64 fall, .int .i64 count, .int .i64 rule] 33)) from (Below.refl _ _).alloc (Nat.le_refl _) _)
  by_cases hf : fall = 0
  · have HE := Lib.hid (HZ.out.trans (if_pos (.inl hf)))
    have b0 : (fall == 0) = true := by simp [hf]
    clear hf
    go_enter Tryz.func102, Tryz.ntmps102
    go_wp2_with fail
    go_ret
    exact ⟨by rw [HE.out]; rfl, HB.out⟩
  · have b0 : (fall == 0) = false := by simp [hf]
    by_cases hs : t - opens ≤ 0
    · have HE := Lib.hid (HZ.out.trans (if_pos (.inr hs)))
      clear hf
      go_enter Tryz.func102, Tryz.ntmps102
      go_wp2_with fail
      go_ret
      exact ⟨by rw [HE.out]; rfl, HB.out⟩
    · have hq := HQ.out hf
      obtain ⟨q, hqd⟩ : ∃ q, q = (start - floor) / fall := ⟨_, rfl⟩
      have hqt : Int.tdiv (start - floor) fall = q := by rw [hqd, Int.tdiv_eq_ediv_of_nonneg (by omega)]
      have HE1 := Lib.hid (HZ.out.trans (if_neg fun e => e.elim hf hs))
      have HM1 := Lib.hid (HM.out hf (by omega))
      rw [← hqd] at hq HE1 HM1
      have d0 : decide (fall = 0) = false := decide_eq_false hf
      have w4 : IntKind.i64.wrap q = q := IntWalk.i64_in _ (by omega)
      clear hqd
      by_cases hlt : q < t - opens
      · have HE := Lib.hid (HE1.out.trans (if_pos hlt))
        go_enter Tryz.func102, Tryz.ntmps102
        go_wp2_with fail
        go_ret
        exact ⟨by rw [HE.out]; rfl, HB.out⟩
      · have HE := Lib.hid (HE1.out.trans (if_neg hlt))
        have hm := HM1.out hlt
        have w5 : IntKind.i64.wrap (fall * (t - opens)) = fall * (t - opens) := IntWalk.i64_in _ (by omega)
        have w6 : IntKind.i64.wrap (start - fall * (t - opens)) = start - fall * (t - opens) := IntWalk.i64_in _ (by omega)
        clear hm
        go_enter Tryz.func102, Tryz.ntmps102
        go_wp2_with fail
        go_ret
        exact ⟨by rw [HE.out]; rfl, HB.out⟩
end Go.Proofs.YthoaidfpgijbfaaGreat.Ho

/- Joined by program: TruN. -/
import Derived.Test.YtcigobiolbojhaaGreatZj
import Derived.Test.YtcigobiolbojhaaGreatZk
/- Law 29's own: remains, goes. -/
namespace Go.Proofs.YtcigobiolbojhaaGreat.Vb
open Go.RowKit Go.Shelf
attribute [local go_sem] Oper.semAt_some

set_option maxRecDepth 100000 in
set_option maxHeartbeats 3200000 in
theorem remains29_any (n : Int) (bs : List (List Off)) (buyer r : Int) (tr : List Off) (ts : List (List Off)) (vx vtx vsx : Value) (lo g c cb ct : Nat) (Ab At : Option Addr) (R Rt Rs : Nat → Prop) (w : World) (hl : Buys w R vx bs) (ht : Offs w Rt vtx tr) (hs : Buys w Rs vsx ts)
    (hyt : LentO w lo g c tr) (hyb : LentB w lo (.slice Ab bs.length cb) bs) (hys : LentB w lo (.slice At ts.length ct) ts) (hbl : bs.length ≤ 40) (htl : ts.length ≤ 40) (hb40 : ∀ l ∈ bs, l.length ≤ 40) (ht40 : ∀ l ∈ ts, l.length ≤ 40) (htr : tr.length ≤ 40) :
    Calls Tryz.prog 12 #[.agg #[.int .i64 n, .slice Ab bs.length cb, .int .i64 buyer, .int .i64 r, .slice (some ⟨g, 0, none⟩) tr.length c, .slice At ts.length ct], .agg #[.int .i64 n, vx, .int .i64 buyer, .int .i64 r, vtx, vsx]] w fun e w' => e = .returned (.bool true) ∧ Below w.heap.size w w' := by
  obtain ⟨_, ⟨_, Axb, cxb, rfl, _⟩, _⟩ := id hl
  obtain ⟨_, ⟨_, Axs, cxs, rfl, _⟩, _⟩ := id hs
  obtain ⟨⟨_, Axt, cxt, rfl, _⟩, _⟩ := id ht
  have HBS := Lib.hid hl
  have HTS := Lib.hid hs
  have HT := Lib.hid ht
  have HYT := Lib.hid hyt
  have HYB := Lib.hid hyb
  have HYS := Lib.hid hys
  have HSM := Lib.hid hb40
  have HSMs := Lib.hid ht40
  clear hl ht hs hyt hyb hys hb40 ht40
  go_enter Tryz.func12, Tryz.ntmps12
  go_wp2_with fail
  obtain ⟨W0, hW0⟩ : ∃ V, V = (w.alloc (.cells #[.int .i64 n, .slice Ab bs.length cb, .int .i64 buyer, .int .i64 r, .slice (some ⟨g, 0, none⟩) tr.length c, .slice At ts.length ct] 28)).alloc (.cells #[.int .i64 n, .slice Axb bs.length cxb, .int .i64 buyer, .int .i64 r, .slice Axt tr.length cxt, .slice Axs ts.length cxs] 28) := ⟨_, rfl⟩
  have HY := Lib.hid (show Blk W0 w.heap.size 28 #[.int .i64 n, .slice Ab bs.length cb, .int .i64 buyer, .int .i64 r, .slice (some ⟨g, 0, none⟩) tr.length c, .slice At ts.length ct] from by rw [hW0]; exact (Blk.new w _ _).alloc _)
  have HX := Lib.hid (show Blk W0 (w.heap.size + 1) 28 #[.int .i64 n, .slice Axb bs.length cxb, .int .i64 buyer, .int .i64 r, .slice Axt tr.length cxt, .slice Axs ts.length cxs] from by rw [hW0]; exact Blk.new' _ _ (by simp))
  have HBW := Lib.hid (show Below w.heap.size w W0 from by rw [hW0]; exact ((Below.refl _ _).alloc (Nat.le_refl _) _).alloc (by simp) _)
  rw [← hW0]
  clear hW0
  go_loopw [5] (fun i wr => ∃ k : Nat, k ≤ bs.length ∧ i = .int .i64 k ∧ Below W0.heap.size W0 wr) (fun i _ => bs.length - (intOf i).toNat)
  case atStart => exact ⟨0, Nat.zero_le _, rfl, Below.refl _ _⟩
  case round =>
    obtain ⟨k, hk, rfl, hb⟩ := hrel
    have hy := HY.out.grow hb
    have hx := HX.out.grow hb
    have y1 : wr.cell? ⟨w.heap.size, 1, none⟩ = some (.slice Ab bs.length cb) := hy.cell 1
    have x1 : wr.cell? ⟨w.heap.size + 1, 1, none⟩ = some (.slice Axb bs.length cxb) := hx.cell 1
    have hyl := hy.lt
    have hxl := hx.lt
    have HB := Lib.hid hb
    have HBB := Lib.hid (HBW.out.trans (hb.mono HBW.out.size))
    by_cases hlt : k < bs.length
    · obtain ⟨l, ho⟩ : ∃ l, bs[k]? = some l := ⟨_, List.getElem?_eq_getElem hlt⟩
      obtain ⟨bq, of, u, hAx, hbq, hcu, hol⟩ := (HBS.out.grow HBB.out).at_ ho
      obtain ⟨by_, oy, gy, cy, hAy, hby, hcy, hoy⟩ := (HYB.out.grow HBB.out).at_ ho rfl
      obtain ⟨⟨_, A1, cap1, rfl, _⟩, _⟩ := id hol
      have hll := HSM.out l (List.mem_of_getElem? ho)
      subst hAx hAy
      have HOL := Lib.hid hol
      have HOY := Lib.hid hoy
      have e1 : (0 : Int) ≤ (k : Int) := by omega
      have e2 : (k : Int) < (bs.length : Int) := by omega
      clear hy hx hb ho hol hoy
      go_wp2_with fail
      refine wp_region_F (Below wr.heap.size wr) [] (by kernel_rfl) ((Below.refl _ _).drew) (fun hS => ?_)
      refine wpAnyF_take (i := 0) (oi := { dst := some 15, op := Go.Op.fieldAddr 28 (Go.Operand.tmp 2) 0, type := 0, pos := "law.go:111", after := #[], guard := none }) (v := ?_) rfl (by kernel_rfl) (by kernel_rfl) (by kernel_rfl) (by kernel_rfl) (fun _ _ _ h => h) (Or.inl ⟨by rfl, ?_⟩) hS ?_
      rotate_left
      · intro w' hSw; have q1 := (hSw.cell (p := ⟨w.heap.size, 1, none⟩) hyl).trans y1; have q2 := (hSw.cell (p := ⟨w.heap.size + 1, 1, none⟩) hxl).trans x1; have q3 := (hSw.cell (p := ⟨bq, of + k, none⟩) hbq).trans hcu; have q4 := (hSw.cell (p := ⟨by_, oy + k, none⟩) hby).trans hcy; go_simp; try with_reducible rfl
      try simp only [Act.put, List.setIfInBounds_toArray, List.set_cons_zero, List.set_cons_succ]
      refine wpAnyF_take (i := 1) (oi := { dst := some 16, op := Go.Op.fieldAddr 24 (Go.Operand.tmp 15) 1, type := 0, pos := "law.go:111", after := #[{ on := 0, ground := Go.Ground.data }], guard := none }) (v := ?_) rfl (by kernel_rfl) (by kernel_rfl) (by kernel_rfl) (by kernel_rfl) (fun _ _ _ h => h) (Or.inl ⟨by rfl, ?_⟩) hS ?_
      rotate_left
      · intro w' hSw; have q1 := (hSw.cell (p := ⟨w.heap.size, 1, none⟩) hyl).trans y1; have q2 := (hSw.cell (p := ⟨w.heap.size + 1, 1, none⟩) hxl).trans x1; have q3 := (hSw.cell (p := ⟨bq, of + k, none⟩) hbq).trans hcu; have q4 := (hSw.cell (p := ⟨by_, oy + k, none⟩) hby).trans hcy; go_simp; try with_reducible rfl
      try simp only [Act.put, List.setIfInBounds_toArray, List.set_cons_zero, List.set_cons_succ]
      refine wpAnyF_take (i := 2) (oi := { dst := some 17, op := Go.Op.load 22 (Go.Operand.tmp 16), type := 22, pos := "law.go:111", after := #[{ on := 1, ground := Go.Ground.data }], guard := none }) (v := ?_) rfl (by kernel_rfl) (by kernel_rfl) (by kernel_rfl) (by kernel_rfl) (fun _ _ _ h => h) (Or.inl ⟨by rfl, ?_⟩) hS ?_
      rotate_left
      · intro w' hSw; have q1 := (hSw.cell (p := ⟨w.heap.size, 1, none⟩) hyl).trans y1; have q2 := (hSw.cell (p := ⟨w.heap.size + 1, 1, none⟩) hxl).trans x1; have q3 := (hSw.cell (p := ⟨bq, of + k, none⟩) hbq).trans hcu; have q4 := (hSw.cell (p := ⟨by_, oy + k, none⟩) hby).trans hcy; go_simp; try with_reducible rfl
      try simp only [Act.put, List.setIfInBounds_toArray, List.set_cons_zero, List.set_cons_succ]
      refine wpAnyF_take (i := 3) (oi := { dst := some 18, op := Go.Op.move (Go.Operand.tmp 5), type := 3, pos := "law.go:111", after := #[], guard := none }) (v := ?_) rfl (by kernel_rfl) (by kernel_rfl) (by kernel_rfl) (by kernel_rfl) (fun _ _ _ h => h) (Or.inl ⟨by rfl, ?_⟩) hS ?_
      rotate_left
      · intro w' hSw; have q1 := (hSw.cell (p := ⟨w.heap.size, 1, none⟩) hyl).trans y1; have q2 := (hSw.cell (p := ⟨w.heap.size + 1, 1, none⟩) hxl).trans x1; have q3 := (hSw.cell (p := ⟨bq, of + k, none⟩) hbq).trans hcu; have q4 := (hSw.cell (p := ⟨by_, oy + k, none⟩) hby).trans hcy; go_simp; try with_reducible rfl
      try simp only [Act.put, List.setIfInBounds_toArray, List.set_cons_zero, List.set_cons_succ]
      refine wpAnyF_take (i := 4) (oi := { dst := some 19, op := Go.Op.indexAddr 22 (Go.Operand.tmp 17) (Go.Operand.tmp 18), type := 0, pos := "law.go:111", after := #[{ on := 2, ground := Go.Ground.data }, { on := 3, ground := Go.Ground.data }], guard := none }) (v := ?_) rfl (by kernel_rfl) (by kernel_rfl) (by kernel_rfl) (by kernel_rfl) (fun _ _ _ h => h) (Or.inl ⟨by rfl, ?_⟩) hS ?_
      rotate_left
      · intro w' hSw; have q1 := (hSw.cell (p := ⟨w.heap.size, 1, none⟩) hyl).trans y1; have q2 := (hSw.cell (p := ⟨w.heap.size + 1, 1, none⟩) hxl).trans x1; have q3 := (hSw.cell (p := ⟨bq, of + k, none⟩) hbq).trans hcu; have q4 := (hSw.cell (p := ⟨by_, oy + k, none⟩) hby).trans hcy; go_simp; try with_reducible rfl
      try simp only [Act.put, List.setIfInBounds_toArray, List.set_cons_zero, List.set_cons_succ]
      refine wpAnyF_take (i := 5) (oi := { dst := some 20, op := Go.Op.load 26 (Go.Operand.tmp 19), type := 26, pos := "law.go:111", after := #[{ on := 4, ground := Go.Ground.data }], guard := none }) (v := ?_) rfl (by kernel_rfl) (by kernel_rfl) (by kernel_rfl) (by kernel_rfl) (fun _ _ _ h => h) (Or.inl ⟨by rfl, ?_⟩) hS ?_
      rotate_left
      · intro w' hSw; have q1 := (hSw.cell (p := ⟨w.heap.size, 1, none⟩) hyl).trans y1; have q2 := (hSw.cell (p := ⟨w.heap.size + 1, 1, none⟩) hxl).trans x1; have q3 := (hSw.cell (p := ⟨bq, of + k, none⟩) hbq).trans hcu; have q4 := (hSw.cell (p := ⟨by_, oy + k, none⟩) hby).trans hcy; go_simp; try with_reducible rfl
      try simp only [Act.put, List.setIfInBounds_toArray, List.set_cons_zero, List.set_cons_succ]
      refine wpAnyF_take (i := 6) (oi := { dst := some 21, op := Go.Op.fieldAddr 28 (Go.Operand.tmp 3) 0, type := 0, pos := "law.go:111", after := #[], guard := none }) (v := ?_) rfl (by kernel_rfl) (by kernel_rfl) (by kernel_rfl) (by kernel_rfl) (fun _ _ _ h => h) (Or.inl ⟨by rfl, ?_⟩) hS ?_
      rotate_left
      · intro w' hSw; have q1 := (hSw.cell (p := ⟨w.heap.size, 1, none⟩) hyl).trans y1; have q2 := (hSw.cell (p := ⟨w.heap.size + 1, 1, none⟩) hxl).trans x1; have q3 := (hSw.cell (p := ⟨bq, of + k, none⟩) hbq).trans hcu; have q4 := (hSw.cell (p := ⟨by_, oy + k, none⟩) hby).trans hcy; go_simp; try with_reducible rfl
      try simp only [Act.put, List.setIfInBounds_toArray, List.set_cons_zero, List.set_cons_succ]
      refine wpAnyF_take (i := 7) (oi := { dst := some 22, op := Go.Op.fieldAddr 24 (Go.Operand.tmp 21) 1, type := 0, pos := "law.go:111", after := #[{ on := 6, ground := Go.Ground.data }], guard := none }) (v := ?_) rfl (by kernel_rfl) (by kernel_rfl) (by kernel_rfl) (by kernel_rfl) (fun _ _ _ h => h) (Or.inl ⟨by rfl, ?_⟩) hS ?_
      rotate_left
      · intro w' hSw; have q1 := (hSw.cell (p := ⟨w.heap.size, 1, none⟩) hyl).trans y1; have q2 := (hSw.cell (p := ⟨w.heap.size + 1, 1, none⟩) hxl).trans x1; have q3 := (hSw.cell (p := ⟨bq, of + k, none⟩) hbq).trans hcu; have q4 := (hSw.cell (p := ⟨by_, oy + k, none⟩) hby).trans hcy; go_simp; try with_reducible rfl
      try simp only [Act.put, List.setIfInBounds_toArray, List.set_cons_zero, List.set_cons_succ]
      refine wpAnyF_take (i := 8) (oi := { dst := some 23, op := Go.Op.load 22 (Go.Operand.tmp 22), type := 22, pos := "law.go:111", after := #[{ on := 7, ground := Go.Ground.data }], guard := none }) (v := ?_) rfl (by kernel_rfl) (by kernel_rfl) (by kernel_rfl) (by kernel_rfl) (fun _ _ _ h => h) (Or.inl ⟨by rfl, ?_⟩) hS ?_
      rotate_left
      · intro w' hSw; have q1 := (hSw.cell (p := ⟨w.heap.size, 1, none⟩) hyl).trans y1; have q2 := (hSw.cell (p := ⟨w.heap.size + 1, 1, none⟩) hxl).trans x1; have q3 := (hSw.cell (p := ⟨bq, of + k, none⟩) hbq).trans hcu; have q4 := (hSw.cell (p := ⟨by_, oy + k, none⟩) hby).trans hcy; go_simp; try with_reducible rfl
      try simp only [Act.put, List.setIfInBounds_toArray, List.set_cons_zero, List.set_cons_succ]
      refine wpAnyF_take (i := 9) (oi := { dst := some 24, op := Go.Op.move (Go.Operand.tmp 5), type := 3, pos := "law.go:111", after := #[], guard := none }) (v := ?_) rfl (by kernel_rfl) (by kernel_rfl) (by kernel_rfl) (by kernel_rfl) (fun _ _ _ h => h) (Or.inl ⟨by rfl, ?_⟩) hS ?_
      rotate_left
      · intro w' hSw; have q1 := (hSw.cell (p := ⟨w.heap.size, 1, none⟩) hyl).trans y1; have q2 := (hSw.cell (p := ⟨w.heap.size + 1, 1, none⟩) hxl).trans x1; have q3 := (hSw.cell (p := ⟨bq, of + k, none⟩) hbq).trans hcu; have q4 := (hSw.cell (p := ⟨by_, oy + k, none⟩) hby).trans hcy; go_simp; try with_reducible rfl
      try simp only [Act.put, List.setIfInBounds_toArray, List.set_cons_zero, List.set_cons_succ]
      refine wpAnyF_take (i := 10) (oi := { dst := some 25, op := Go.Op.indexAddr 22 (Go.Operand.tmp 23) (Go.Operand.tmp 24), type := 0, pos := "law.go:111", after := #[{ on := 8, ground := Go.Ground.data }, { on := 9, ground := Go.Ground.data }], guard := none }) (v := ?_) rfl (by kernel_rfl) (by kernel_rfl) (by kernel_rfl) (by kernel_rfl) (fun _ _ _ h => h) (Or.inl ⟨by rfl, ?_⟩) hS ?_
      rotate_left
      · intro w' hSw; have q1 := (hSw.cell (p := ⟨w.heap.size, 1, none⟩) hyl).trans y1; have q2 := (hSw.cell (p := ⟨w.heap.size + 1, 1, none⟩) hxl).trans x1; have q3 := (hSw.cell (p := ⟨bq, of + k, none⟩) hbq).trans hcu; have q4 := (hSw.cell (p := ⟨by_, oy + k, none⟩) hby).trans hcy; go_simp; try with_reducible rfl
      try simp only [Act.put, List.setIfInBounds_toArray, List.set_cons_zero, List.set_cons_succ]
      refine wpAnyF_take (i := 11) (oi := { dst := some 26, op := Go.Op.load 26 (Go.Operand.tmp 25), type := 26, pos := "law.go:111", after := #[{ on := 10, ground := Go.Ground.data }], guard := none }) (v := ?_) rfl (by kernel_rfl) (by kernel_rfl) (by kernel_rfl) (by kernel_rfl) (fun _ _ _ h => h) (Or.inl ⟨by rfl, ?_⟩) hS ?_
      rotate_left
      · intro w' hSw; have q1 := (hSw.cell (p := ⟨w.heap.size, 1, none⟩) hyl).trans y1; have q2 := (hSw.cell (p := ⟨w.heap.size + 1, 1, none⟩) hxl).trans x1; have q3 := (hSw.cell (p := ⟨bq, of + k, none⟩) hbq).trans hcu; have q4 := (hSw.cell (p := ⟨by_, oy + k, none⟩) hby).trans hcy; go_simp; try with_reducible rfl
      try simp only [Act.put, List.setIfInBounds_toArray, List.set_cons_zero, List.set_cons_succ]
      refine wpAnyF_ready (rs := [12]) (by kernel_rfl) (by simp) ?_
      refine AllReadyF.cons (o := { dst := some 27, op := Go.Op.call { callee := Go.Callee.value (Go.Operand.func 24), args := #[Go.Operand.tmp 20, Go.Operand.tmp 26], argTypes := #[26, 26] }, type := 4, pos := "law.go:111", after := #[{ on := 5, ground := Go.Ground.data }, { on := 11, ground := Go.Ground.data }], guard := none }) rfl (by rfl) (fun K hK => ?_) ?_
      · go_simp
        refine (stays29_any l gy cy lo _ _ wr.drew (HOY.out.grow (Below.refl _ _).drew) (HOL.out.grow (Below.refl _ _).drew) (by omega)).mono ?_
        rintro e w7 ⟨rfl, hb7⟩
        refine hK.out _ _ ?_ (fun hS => ?_)
        · exact (Below.refl wr.heap.size wr).drew.trans (hb7.mono (by simp))
        clear hK K
        try simp only [Act.put, List.setIfInBounds_toArray, List.set_cons_zero, List.set_cons_succ]
        have HB7 := Lib.hid ((Below.refl wr.heap.size wr).drew.trans (hb7.mono (by simp)))
        clear hb7
        refine wpAnyF_take (i := 13) (oi := { dst := some 28, op := Go.Op.unOp Go.UnOp.not 4 (Go.Operand.tmp 27), type := 4, pos := "law.go:111", after := #[{ on := 12, ground := Go.Ground.data }], guard := none }) (v := ?_) rfl (by kernel_rfl) (by kernel_rfl) (by kernel_rfl) (by kernel_rfl) (fun _ _ _ h => h) (Or.inl ⟨by rfl, ?_⟩) hS ?_
        rotate_left
        · intro w' hSw; have q1 := (hSw.cell (p := ⟨w.heap.size, 1, none⟩) hyl).trans y1; have q2 := (hSw.cell (p := ⟨w.heap.size + 1, 1, none⟩) hxl).trans x1; have q3 := (hSw.cell (p := ⟨bq, of + k, none⟩) hbq).trans hcu; have q4 := (hSw.cell (p := ⟨by_, oy + k, none⟩) hby).trans hcy; go_simp; try with_reducible rfl
        try simp only [Act.put, List.setIfInBounds_toArray, List.set_cons_zero, List.set_cons_succ]
        refine wpAnyF_done (by kernel_rfl) ?_ _
        clear hS
        go_wp2_with fail
        go_roundw
        case rel => exact ⟨k + 1, by omega, by go_num, HB.out.trans (HB7.out.mono HB.out.size)⟩
        case measure => simp [intOf]; omega
      exact AllReadyF.nil
    · obtain rfl : k = bs.length := by omega
      clear hy hx hb
      go_wp2_with fail
      obtain ⟨wq, hwq⟩ : ∃ z, z = wr := ⟨_, rfl⟩
      rw [← hwq] at HB HBB ⊢
      clear hwq y1 x1 hyl hxl hk hlt
      go_loopw [6] (fun i wr => ∃ k : Nat, k ≤ ts.length ∧ i = .int .i64 k ∧ Below W0.heap.size W0 wr) (fun i _ => ts.length - (intOf i).toNat)
      case atStart => exact ⟨0, Nat.zero_le _, rfl, HB.out⟩
      case round =>
        obtain ⟨k, hk, rfl, hb⟩ := hrel
        have hy := HY.out.grow hb
        have hx := HX.out.grow hb
        have y5 : wr.cell? ⟨w.heap.size, 5, none⟩ = some (.slice At ts.length ct) := hy.cell 5
        have x5 : wr.cell? ⟨w.heap.size + 1, 5, none⟩ = some (.slice Axs ts.length cxs) := hx.cell 5
        have hyl := hy.lt
        have hxl := hx.lt
        have HB2 := Lib.hid hb
        have HBB2 := Lib.hid (HBW.out.trans (hb.mono HBW.out.size))
        by_cases hlt : k < ts.length
        · obtain ⟨l, ho⟩ : ∃ l, ts[k]? = some l := ⟨_, List.getElem?_eq_getElem hlt⟩
          obtain ⟨bq, of, u, hAx, hbq, hcu, hol⟩ := (HTS.out.grow HBB2.out).at_ ho
          obtain ⟨by_, oy, gy, cy, hAy, hby, hcy, hoy⟩ := (HYS.out.grow HBB2.out).at_ ho rfl
          obtain ⟨⟨_, A1, cap1, rfl, _⟩, _⟩ := id hol
          have hll := HSMs.out l (List.mem_of_getElem? ho)
          subst hAx hAy
          have HOL := Lib.hid hol
          have HOY := Lib.hid hoy
          have e1 : (0 : Int) ≤ (k : Int) := by omega
          have e2 : (k : Int) < (ts.length : Int) := by omega
          clear hy hx hb ho hol hoy
          go_wp2_with fail
          refine wp_region_F (Below wr.heap.size wr) [] (by kernel_rfl) ((Below.refl _ _).drew) (fun hS => ?_)
          refine wpAnyF_take (i := 0) (oi := { dst := some 36, op := Go.Op.fieldAddr 28 (Go.Operand.tmp 2) 4, type := 0, pos := "law.go:116", after := #[], guard := none }) (v := ?_) rfl (by kernel_rfl) (by kernel_rfl) (by kernel_rfl) (by kernel_rfl) (fun _ _ _ h => h) (Or.inl ⟨by rfl, ?_⟩) hS ?_
          rotate_left
          · intro w' hSw; have q1 := (hSw.cell (p := ⟨w.heap.size, 5, none⟩) hyl).trans y5; have q2 := (hSw.cell (p := ⟨w.heap.size + 1, 5, none⟩) hxl).trans x5; have q3 := (hSw.cell (p := ⟨bq, of + k, none⟩) hbq).trans hcu; have q4 := (hSw.cell (p := ⟨by_, oy + k, none⟩) hby).trans hcy; go_simp; try with_reducible rfl
          try simp only [Act.put, List.setIfInBounds_toArray, List.set_cons_zero, List.set_cons_succ]
          refine wpAnyF_take (i := 1) (oi := { dst := some 37, op := Go.Op.load 22 (Go.Operand.tmp 36), type := 22, pos := "law.go:116", after := #[{ on := 0, ground := Go.Ground.data }], guard := none }) (v := ?_) rfl (by kernel_rfl) (by kernel_rfl) (by kernel_rfl) (by kernel_rfl) (fun _ _ _ h => h) (Or.inl ⟨by rfl, ?_⟩) hS ?_
          rotate_left
          · intro w' hSw; have q1 := (hSw.cell (p := ⟨w.heap.size, 5, none⟩) hyl).trans y5; have q2 := (hSw.cell (p := ⟨w.heap.size + 1, 5, none⟩) hxl).trans x5; have q3 := (hSw.cell (p := ⟨bq, of + k, none⟩) hbq).trans hcu; have q4 := (hSw.cell (p := ⟨by_, oy + k, none⟩) hby).trans hcy; go_simp; try with_reducible rfl
          try simp only [Act.put, List.setIfInBounds_toArray, List.set_cons_zero, List.set_cons_succ]
          refine wpAnyF_take (i := 2) (oi := { dst := some 38, op := Go.Op.move (Go.Operand.tmp 6), type := 3, pos := "law.go:116", after := #[], guard := none }) (v := ?_) rfl (by kernel_rfl) (by kernel_rfl) (by kernel_rfl) (by kernel_rfl) (fun _ _ _ h => h) (Or.inl ⟨by rfl, ?_⟩) hS ?_
          rotate_left
          · intro w' hSw; have q1 := (hSw.cell (p := ⟨w.heap.size, 5, none⟩) hyl).trans y5; have q2 := (hSw.cell (p := ⟨w.heap.size + 1, 5, none⟩) hxl).trans x5; have q3 := (hSw.cell (p := ⟨bq, of + k, none⟩) hbq).trans hcu; have q4 := (hSw.cell (p := ⟨by_, oy + k, none⟩) hby).trans hcy; go_simp; try with_reducible rfl
          try simp only [Act.put, List.setIfInBounds_toArray, List.set_cons_zero, List.set_cons_succ]
          refine wpAnyF_take (i := 3) (oi := { dst := some 39, op := Go.Op.indexAddr 22 (Go.Operand.tmp 37) (Go.Operand.tmp 38), type := 0, pos := "law.go:116", after := #[{ on := 1, ground := Go.Ground.data }, { on := 2, ground := Go.Ground.data }], guard := none }) (v := ?_) rfl (by kernel_rfl) (by kernel_rfl) (by kernel_rfl) (by kernel_rfl) (fun _ _ _ h => h) (Or.inl ⟨by rfl, ?_⟩) hS ?_
          rotate_left
          · intro w' hSw; have q1 := (hSw.cell (p := ⟨w.heap.size, 5, none⟩) hyl).trans y5; have q2 := (hSw.cell (p := ⟨w.heap.size + 1, 5, none⟩) hxl).trans x5; have q3 := (hSw.cell (p := ⟨bq, of + k, none⟩) hbq).trans hcu; have q4 := (hSw.cell (p := ⟨by_, oy + k, none⟩) hby).trans hcy; go_simp; try with_reducible rfl
          try simp only [Act.put, List.setIfInBounds_toArray, List.set_cons_zero, List.set_cons_succ]
          refine wpAnyF_take (i := 4) (oi := { dst := some 40, op := Go.Op.load 26 (Go.Operand.tmp 39), type := 26, pos := "law.go:116", after := #[{ on := 3, ground := Go.Ground.data }], guard := none }) (v := ?_) rfl (by kernel_rfl) (by kernel_rfl) (by kernel_rfl) (by kernel_rfl) (fun _ _ _ h => h) (Or.inl ⟨by rfl, ?_⟩) hS ?_
          rotate_left
          · intro w' hSw; have q1 := (hSw.cell (p := ⟨w.heap.size, 5, none⟩) hyl).trans y5; have q2 := (hSw.cell (p := ⟨w.heap.size + 1, 5, none⟩) hxl).trans x5; have q3 := (hSw.cell (p := ⟨bq, of + k, none⟩) hbq).trans hcu; have q4 := (hSw.cell (p := ⟨by_, oy + k, none⟩) hby).trans hcy; go_simp; try with_reducible rfl
          try simp only [Act.put, List.setIfInBounds_toArray, List.set_cons_zero, List.set_cons_succ]
          refine wpAnyF_take (i := 5) (oi := { dst := some 41, op := Go.Op.fieldAddr 28 (Go.Operand.tmp 3) 4, type := 0, pos := "law.go:116", after := #[], guard := none }) (v := ?_) rfl (by kernel_rfl) (by kernel_rfl) (by kernel_rfl) (by kernel_rfl) (fun _ _ _ h => h) (Or.inl ⟨by rfl, ?_⟩) hS ?_
          rotate_left
          · intro w' hSw; have q1 := (hSw.cell (p := ⟨w.heap.size, 5, none⟩) hyl).trans y5; have q2 := (hSw.cell (p := ⟨w.heap.size + 1, 5, none⟩) hxl).trans x5; have q3 := (hSw.cell (p := ⟨bq, of + k, none⟩) hbq).trans hcu; have q4 := (hSw.cell (p := ⟨by_, oy + k, none⟩) hby).trans hcy; go_simp; try with_reducible rfl
          try simp only [Act.put, List.setIfInBounds_toArray, List.set_cons_zero, List.set_cons_succ]
          refine wpAnyF_take (i := 6) (oi := { dst := some 42, op := Go.Op.load 22 (Go.Operand.tmp 41), type := 22, pos := "law.go:116", after := #[{ on := 5, ground := Go.Ground.data }], guard := none }) (v := ?_) rfl (by kernel_rfl) (by kernel_rfl) (by kernel_rfl) (by kernel_rfl) (fun _ _ _ h => h) (Or.inl ⟨by rfl, ?_⟩) hS ?_
          rotate_left
          · intro w' hSw; have q1 := (hSw.cell (p := ⟨w.heap.size, 5, none⟩) hyl).trans y5; have q2 := (hSw.cell (p := ⟨w.heap.size + 1, 5, none⟩) hxl).trans x5; have q3 := (hSw.cell (p := ⟨bq, of + k, none⟩) hbq).trans hcu; have q4 := (hSw.cell (p := ⟨by_, oy + k, none⟩) hby).trans hcy; go_simp; try with_reducible rfl
          try simp only [Act.put, List.setIfInBounds_toArray, List.set_cons_zero, List.set_cons_succ]
          refine wpAnyF_take (i := 7) (oi := { dst := some 43, op := Go.Op.move (Go.Operand.tmp 6), type := 3, pos := "law.go:116", after := #[], guard := none }) (v := ?_) rfl (by kernel_rfl) (by kernel_rfl) (by kernel_rfl) (by kernel_rfl) (fun _ _ _ h => h) (Or.inl ⟨by rfl, ?_⟩) hS ?_
          rotate_left
          · intro w' hSw; have q1 := (hSw.cell (p := ⟨w.heap.size, 5, none⟩) hyl).trans y5; have q2 := (hSw.cell (p := ⟨w.heap.size + 1, 5, none⟩) hxl).trans x5; have q3 := (hSw.cell (p := ⟨bq, of + k, none⟩) hbq).trans hcu; have q4 := (hSw.cell (p := ⟨by_, oy + k, none⟩) hby).trans hcy; go_simp; try with_reducible rfl
          try simp only [Act.put, List.setIfInBounds_toArray, List.set_cons_zero, List.set_cons_succ]
          refine wpAnyF_take (i := 8) (oi := { dst := some 44, op := Go.Op.indexAddr 22 (Go.Operand.tmp 42) (Go.Operand.tmp 43), type := 0, pos := "law.go:116", after := #[{ on := 6, ground := Go.Ground.data }, { on := 7, ground := Go.Ground.data }], guard := none }) (v := ?_) rfl (by kernel_rfl) (by kernel_rfl) (by kernel_rfl) (by kernel_rfl) (fun _ _ _ h => h) (Or.inl ⟨by rfl, ?_⟩) hS ?_
          rotate_left
          · intro w' hSw; have q1 := (hSw.cell (p := ⟨w.heap.size, 5, none⟩) hyl).trans y5; have q2 := (hSw.cell (p := ⟨w.heap.size + 1, 5, none⟩) hxl).trans x5; have q3 := (hSw.cell (p := ⟨bq, of + k, none⟩) hbq).trans hcu; have q4 := (hSw.cell (p := ⟨by_, oy + k, none⟩) hby).trans hcy; go_simp; try with_reducible rfl
          try simp only [Act.put, List.setIfInBounds_toArray, List.set_cons_zero, List.set_cons_succ]
          refine wpAnyF_take (i := 9) (oi := { dst := some 45, op := Go.Op.load 26 (Go.Operand.tmp 44), type := 26, pos := "law.go:116", after := #[{ on := 8, ground := Go.Ground.data }], guard := none }) (v := ?_) rfl (by kernel_rfl) (by kernel_rfl) (by kernel_rfl) (by kernel_rfl) (fun _ _ _ h => h) (Or.inl ⟨by rfl, ?_⟩) hS ?_
          rotate_left
          · intro w' hSw; have q1 := (hSw.cell (p := ⟨w.heap.size, 5, none⟩) hyl).trans y5; have q2 := (hSw.cell (p := ⟨w.heap.size + 1, 5, none⟩) hxl).trans x5; have q3 := (hSw.cell (p := ⟨bq, of + k, none⟩) hbq).trans hcu; have q4 := (hSw.cell (p := ⟨by_, oy + k, none⟩) hby).trans hcy; go_simp; try with_reducible rfl
          try simp only [Act.put, List.setIfInBounds_toArray, List.set_cons_zero, List.set_cons_succ]
          refine wpAnyF_ready (rs := [10]) (by kernel_rfl) (by simp) ?_
          refine AllReadyF.cons (o := { dst := some 46, op := Go.Op.call { callee := Go.Callee.value (Go.Operand.func 24), args := #[Go.Operand.tmp 40, Go.Operand.tmp 45], argTypes := #[26, 26] }, type := 4, pos := "law.go:116", after := #[{ on := 4, ground := Go.Ground.data }, { on := 9, ground := Go.Ground.data }], guard := none }) rfl (by rfl) (fun K hK => ?_) ?_
          · go_simp
            refine (stays29_any l gy cy lo _ _ wr.drew (HOY.out.grow (Below.refl _ _).drew) (HOL.out.grow (Below.refl _ _).drew) (by omega)).mono ?_
            rintro e w7 ⟨rfl, hb7⟩
            refine hK.out _ _ ?_ (fun hS => ?_)
            · exact (Below.refl wr.heap.size wr).drew.trans (hb7.mono (by simp))
            clear hK K
            try simp only [Act.put, List.setIfInBounds_toArray, List.set_cons_zero, List.set_cons_succ]
            have HB7 := Lib.hid ((Below.refl wr.heap.size wr).drew.trans (hb7.mono (by simp)))
            clear hb7
            refine wpAnyF_take (i := 11) (oi := { dst := some 47, op := Go.Op.unOp Go.UnOp.not 4 (Go.Operand.tmp 46), type := 4, pos := "law.go:116", after := #[{ on := 10, ground := Go.Ground.data }], guard := none }) (v := ?_) rfl (by kernel_rfl) (by kernel_rfl) (by kernel_rfl) (by kernel_rfl) (fun _ _ _ h => h) (Or.inl ⟨by rfl, ?_⟩) hS ?_
            rotate_left
            · intro w' hSw; have q1 := (hSw.cell (p := ⟨w.heap.size, 5, none⟩) hyl).trans y5; have q2 := (hSw.cell (p := ⟨w.heap.size + 1, 5, none⟩) hxl).trans x5; have q3 := (hSw.cell (p := ⟨bq, of + k, none⟩) hbq).trans hcu; have q4 := (hSw.cell (p := ⟨by_, oy + k, none⟩) hby).trans hcy; go_simp; try with_reducible rfl
            try simp only [Act.put, List.setIfInBounds_toArray, List.set_cons_zero, List.set_cons_succ]
            refine wpAnyF_done (by kernel_rfl) ?_ _
            clear hS
            go_wp2_with fail
            go_roundw
            case rel => exact ⟨k + 1, by omega, by go_num, HB2.out.trans (HB7.out.mono HB2.out.size)⟩
            case measure => simp [intOf]; omega
          exact AllReadyF.nil
        · obtain rfl : k = ts.length := by omega
          have y4 : wr.cell? ⟨w.heap.size, 4, none⟩ = some (.slice (some ⟨g, 0, none⟩) tr.length c) := hy.cell 4
          have x4 : wr.cell? ⟨w.heap.size + 1, 4, none⟩ = some (.slice Axt tr.length cxt) := hx.cell 4
          have HY9 := Lib.hid hy
          have HX9 := Lib.hid hx
          clear hy hx hb
          go_wp2_with fail
          refine (stays29_any tr g c lo _ Rt wr (HYT.out.grow HBB2.out) (HT.out.grow HBB2.out) (by omega)).mono ?_
          rintro e w7 ⟨rfl, hb7⟩
          have hy7 := HY9.out.grow hb7
          have hx7 := HX9.out.grow hb7
          have z1 : w7.cell? ⟨w.heap.size, 1, none⟩ = some (.slice Ab bs.length cb) := hy7.cell 1
          have z5 : w7.cell? ⟨w.heap.size, 5, none⟩ = some (.slice At ts.length ct) := hy7.cell 5
          have z1' : w7.cell? ⟨w.heap.size + 1, 1, none⟩ = some (.slice Axb bs.length cxb) := hx7.cell 1
          have z5' : w7.cell? ⟨w.heap.size + 1, 5, none⟩ = some (.slice Axs ts.length cxs) := hx7.cell 5
          have HB7 := Lib.hid (HBB2.out.trans (hb7.mono HBB2.out.size))
          clear hb7 hy7 hx7 y4 x4 y5 x5
          go_wp2_with fail
          go_ret
          exact ⟨by simp, HB7.out⟩

/-- between two rounds -/
structure GoI (B m c : Nat) (A : Option Addr) (ls : List Int) (leave : Int) (pre : List (Int × Int)) (W : World) : Prop where
  l : Blk W B 37 #[.slice A m c]
  lv : Blk W (B + 1) 3 #[.int .i64 leave]
  rs : Blk W (B + 1 + 1) 4 #[.bool false]
  nn : Blk W (B + 1 + 1 + 1) 3 #[.int .i64 pre.length]
  row : Sl W (fun b => b < B) (.slice A m c) m 1 (ints ls)
theorem GoI.own (B m c : Nat) (A : Option Addr) (ls : List Int) (leave : Int) : Own (GoI B m c A ls leave) :=
  fun _ _ _ _ h hg hr => ⟨h.l.cells hg hr, h.lv.cells hg hr, h.rs.cells hg hr, h.nn.cells hg hr, sl_kept h.row hg hr⟩

theorem gainsZ_byL (n : Int) (bs : List (List Off)) (k : Nat) (r : Int) (tr : List Off) (ts : List (List Off)) {pre : List (Int × Int)} {x : Int × Int} (h : pre ++ [x] <+: gainsZ n bs k r tr ts) : pre.length < ts.length ∧ x.1 = (pre.length : Int) ∧ (byL n bs k r tr ts)[pre.length]? = some x.2 := by
  have hlt : pre.length < ts.length := by
    have := h.length_le
    rw [gainsZ_len] at this
    simp at this
    omega
  obtain ⟨l, hl⟩ : ∃ l, ts[pre.length]? = some l := ⟨_, List.getElem?_eq_getElem hlt⟩
  have h1 := gainsZ_get (n := n) (bs := bs) (k := k) (r := r) (tr := tr) hl
  obtain ⟨q, hq⟩ := h
  rw [← hq] at h1
  simp at h1
  subst h1
  refine ⟨hlt, rfl, ?_⟩
  unfold byL
  rw [List.getElem?_map, hl]
  rfl

set_option maxRecDepth 100000 in
set_option maxHeartbeats 4000000 in
theorem goes29_any (R0 RL : Nat → Prop) (g14 g12 cl : Nat) (AL : Option Addr) (n : Int) (bs : List (List Off)) (k : Nat) (r : Int) (tr : List Off) (ts : List (List Off)) (leave : Int) (w : World) (hts : ts.length ≤ 1000000)
    (hr : r = 1 ∨ r = 2) (hinst : instE n bs = 0) (hk : k < bs.length) (hck : ∀ l ∈ ts, checkE n l = 0) (hT : TrC w R0 g14 g12 n bs k r tr ts) (hL : Sl w RL (.slice AL ts.length cl) ts.length 1 (ints (byL n bs k r tr ts))) :
    Calls Tryz.prog 15 #[itV g14 g12, .slice AL ts.length cl, .int .i64 leave] w fun e w' => e = .returned (.bool true) ∧ Below w.heap.size w w' := by
  have HT := Lib.hid hT
  have HL := Lib.hid hL
  have HR := Lib.hid hr
  have HI := Lib.hid hinst
  have HCK := Lib.hid hck
  have heq := eql_func_nil
  clear hT hL hr hinst hck
  unfold itV
  refine (callsIn_wide (n := 3)).1 (callsIn_of_wp_marks Tryz.func15 rfl trivial ((wpIn_wide (n := 3)).2 ?_))
  simp only [Tryz.ntmps15, List.size_toArray, List.length_cons, List.length_nil, Nat.reduceAdd, Nat.reduceSub, Array.replicate_succ, Array.replicate_zero, List.push_toArray, List.append_toArray, List.nil_append, List.cons_append]
  go_wp2_with fail
  obtain ⟨U0, hU0⟩ : ∃ U, U = (((w.alloc (.cells #[.slice AL ts.length cl] 37)).alloc (.cells #[.int .i64 leave] 3)).alloc (.cells #[.bool false] 4)).alloc (.cells #[.int .i64 0] 3) := ⟨_, rfl⟩
  have hB : Below w.heap.size w U0 := by rw [hU0]; exact ((((Below.refl _ _).alloc (Nat.le_refl _) _).alloc (by simp) _).alloc (by simp; omega) _).alloc (by simp; omega) _
  have hI0 : GoI w.heap.size ts.length cl AL (byL n bs k r tr ts) leave [] U0 := by
    refine ⟨?_, ?_, ?_, ?_, (HL.out.ltB.keep' hB)⟩
    · rw [hU0]; exact (((Blk.new w _ _).alloc _).alloc _).alloc _
    · rw [hU0]; exact ((Blk.new' _ _ (by simp)).alloc _).alloc _
    · rw [hU0]; exact (Blk.new' _ _ (by simp)).alloc _
    · rw [hU0]; exact Blk.new' _ _ (by simp)
  have hs0 : U0.heap.size = w.heap.size + 4 := by rw [hU0]; simp
  have hTU : TrC U0 (fun b => 0 ≤ b ∧ b < w.heap.size) g14 g12 n bs k r tr ts := (HT.out.mono (R1 := fun b => 0 ≤ b ∧ b < w.heap.size) (fun b hb _ => ⟨Nat.zero_le _, hb⟩)).keep hB.size (fun b hb _ => hB.block b hb)
  rw [← hU0]
  have HB := Lib.hid hB
  have HI0 := Lib.hid hI0
  have HS0 := Lib.hid hs0
  have HTU := Lib.hid hTU
  clear hU0 hB hI0 hs0 hTU
  refine (wpIn_wide (n := 3)).1 ?_
  refine' wpIn_rangeFunc_V (F := Fence.wide) (n := 3) rfl (by omega) (gf := 21) (lb := #[.pointer (some ⟨g14, 0, none⟩), .pointer (some ⟨g12, 0, none⟩)]) rfl trivial (enters_of Tryz.func21 (by kernel_rfl) rfl)
    (tries1_stops 2 (by omega) 0 w.heap.size g14 g12 n bs k r tr ts hts HR.out HI.out hk HCK.out U0 HB.out.size HTU.out) keepR_t (keepR_b HB.out.size) (Below.refl _ _) (fun _ => rfl) (fun _ _ _ _ _ _ _ => trivial)
    (fun pre W => GoI w.heap.size ts.length cl AL (byL n bs k r tr ts) leave pre W ∧ Below w.heap.size w W)
    (fun c _ W => (c = .ret ∧ W.cell? ⟨w.heap.size + 1 + 1, 0, none⟩ = some (.bool true)) ∧ Below w.heap.size w W)
    (OwnFrom.and (Own.from (GoI.own _ _ _ _ _ _) _) (ownFrom_below (Nat.le_refl _) HB.out.size))
    (fun c => OwnFrom.and (Own.from (fun s A B row hs hg hr => ⟨hs.1, cell_kept hs.2 hg hr⟩) _) (ownFrom_below (Nat.le_refl _) HB.out.size))
    ⟨HI0.out, HB.out⟩ _ ?assign ?body ?done ?stop
  case assign =>
    intro l x W K hK
    gi_wp2
    exact hK
  case body =>
    rintro l pre x W ⟨hI, hB⟩ _ hsp _
    obtain ⟨hlt, hx1, hx2⟩ := gainsZ_byL n bs k r tr ts hsp
    obtain ⟨xa, xb⟩ := x
    simp only at hx1 hx2
    subst hx1
    obtain ⟨gl, ol, yl, rfl, hgl, hyl, hcl⟩ := hI.row.int_at hlt
    rw [hx2] at hyl
    injection hyl with hyl
    subst hyl
    have p0 : W.cell? ⟨w.heap.size, 0, none⟩ = some (.slice (some ⟨gl, ol, none⟩) ts.length cl) := hI.l.cell 0
    have p1 : W.cell? ⟨w.heap.size + 1, 0, none⟩ = some (.int .i64 leave) := hI.lv.cell 0
    have p2 : W.cell? ⟨w.heap.size + 1 + 1, 0, none⟩ = some (.bool false) := hI.rs.cell 0
    have f2 : W.frozen? ⟨w.heap.size + 1 + 1, 0, none⟩ = false := hI.rs.frozen 0
    have p3 : W.cell? ⟨w.heap.size + 1 + 1 + 1, 0, none⟩ = some (.int .i64 (pre.length : Int)) := hI.nn.cell 0
    have f3 : W.frozen? ⟨w.heap.size + 1 + 1 + 1, 0, none⟩ = false := hI.nn.frozen 0
    have e1 : (0 : Int) ≤ (pre.length : Int) := by omega
    have e2 : (pre.length : Int) < (ts.length : Int) := by omega
    have HII := Lib.hid hI
    have HBB := Lib.hid hB
    clear hI hB hsp hx2
    dsimp only
    by_cases hle : (pre.length : Int) + 1 = leave
    · subst hle
      gi_wp2
      refine ⟨(KeepsOthers.setCell _ _ _).trans (KeepsOthers.setCell _ _ _), ⟨rfl, ?_⟩, (HBB.out.setCell (p := ⟨w.heap.size + 1 + 1 + 1, 0, none⟩) (by simp; omega) _).setCell (p := ⟨w.heap.size + 1 + 1, 0, none⟩) (by simp; omega) _⟩
      exact ((HII.out.rs.far (p := ⟨w.heap.size + 1 + 1 + 1, 0, none⟩) (by simp) _).set_ 0 (.bool true)).cell 0
    · have hle' : ((pre.length : Int) + 1 == leave) = false := by simpa using hle
      have HLE := Lib.hid hle
      clear hle
      gi_wp2
      refine ⟨KeepsOthers.setCell _ _ _, KeepR.set W (.inr (by simp; omega)) _, ⟨HII.out.l.far (by simp; omega) _, HII.out.lv.far (by simp) _, HII.out.rs.far (by simp) _, ?_, HII.out.row.set (by simp; omega) _⟩, HBB.out.setCell (p := ⟨w.heap.size + 1 + 1 + 1, 0, none⟩) (by simp; omega) _⟩
      rw [List.length_append]
      exact HII.out.nn.set_ 0 (.int .i64 ((pre.length : Int) + 1))
  case done =>
    rintro D ys W hD hys ⟨hI, hB⟩ hK
    have hyl : ys.length = ts.length := by rw [hys, gainsZ_len]
    have p0 : W.cell? ⟨w.heap.size, 0, none⟩ = some (.slice AL ts.length cl) := hI.l.cell 0
    have p2 : W.cell? ⟨w.heap.size + 1 + 1, 0, none⟩ = some (.bool false) := hI.rs.cell 0
    have f2 : W.frozen? ⟨w.heap.size + 1 + 1, 0, none⟩ = false := hI.rs.frozen 0
    have p3 : W.cell? ⟨w.heap.size + 1 + 1 + 1, 0, none⟩ = some (.int .i64 (ts.length : Int)) := by rw [← hyl]; exact hI.nn.cell 0
    have HBB := Lib.hid hB
    have HK := Lib.hid hK
    have HRS := Lib.hid hI.rs
    have hD' : w.heap.size ≤ D := by have := HB.out.size; omega
    clear hI hB hK hys hyl
    go_wp2_with fail
    have hK' := (KeepsOthers.setCell W ⟨w.heap.size + 1 + 1, 0, none⟩ (.bool true)).same D _ HK.out rfl
    refine ⟨by simp, .inl ⟨_, _, rfl, run_takeDeferred hK', ?_⟩⟩
    have hc5 : World.cell? _ ⟨w.heap.size + 1 + 1, 0, none⟩ = some (.bool true) := cell_kept ((HRS.out.set_ 0 (.bool true)).cell 0) (grownBy_putObj' _ D (.deferred none)) (fun r e => by cases e; exact ⟨_, hK', rfl⟩)
    refine ⟨.bool true, by simp [results, Tryz.results15, go_sem, hc5], rfl, (HBB.out.setCell (p := ⟨w.heap.size + 1 + 1, 0, none⟩) (by simp; omega) _).trans (belowK_b (w := w) (Nat.le_refl _) _ D _ _ hD' hK' rfl rfl)⟩
  case stop =>
    rintro D c pre W hD hpre2 ⟨⟨rfl, hres⟩, hB⟩ hK
    have hD' : w.heap.size ≤ D := by have := HB.out.size; omega
    have HK := Lib.hid hK
    clear hK
    gi_wp2
    refine ⟨by simp, .inl ⟨_, _, rfl, run_takeDeferred HK.out, ?_⟩⟩
    have hc5 := cell_kept hres (grownBy_putObj' _ D (.deferred none)) (fun r e => by cases e; exact ⟨_, HK.out, rfl⟩)
    refine ⟨.bool true, by simp [results, Tryz.results15, go_sem, hc5], rfl, hB.trans (belowK_b (w := w) (Nat.le_refl _) W D _ _ hD' HK.out rfl rfl)⟩
end Go.Proofs.YtcigobiolbojhaaGreat.Vb

/- Stats: the document's Of. (Printed by tools/gen_sxd.py.) -/
import Derived.Test.YtidejikolcgojaaGreatSxC
import Derived.Test.YtidejikolcgojaaGreatSaC
namespace Go.Proofs.YtidejikolcgojaaGreat.St
open Go.RowKit Go.Shelf
open Go.Proofs.YtidejikolcgojaaGreat.Vb Go.Proofs.YtidejikolcgojaaGreat.Ac

set_option maxRecDepth 100000 in
set_option maxHeartbeats 16000000 in
theorem refOf_any {l : List Sale} {v : Value} {R : Nat → Prop} {w : World} (h : Sals w R v l) (hle : l.length ≤ 1000) :
    Calls Tryz.prog 35 #[v] w fun e w' => e = .returned (.agg (ofV l)) ∧ Below w.heap.size w w' := by
  obtain ⟨A, cap, rfl, hnc, hcap⟩ := h.form
  have HL := Lib.hid h
  obtain ⟨U, hU⟩ : ∃ U, U = w.alloc (.cells #[.int .i64 0, .int .i64 0, .int .i64 0, .int .i64 0, .int .i64 0, .int .i64 0] 56) := ⟨_, rfl⟩
  have HBU := Lib.hid (show Below w.heap.size w U by rw [hU]; exact (Below.refl _ _).alloc (Nat.le_refl _) _)
  have HRU := Lib.hid (show Blk U w.heap.size 56 (tak 0 0 0 (0, 0, 0)) by rw [hU]; exact Blk.new w _ _)
  clear h
  go_enter Tryz.func35, Tryz.ntmps35
  go_wp2_with fail
  rw [← hU]
  clear hU
  refine (refByLot_any (HL.out.grow HBU.out) hle).mono ?_
  rintro e w1 ⟨v1, rfl, ho, hb⟩
  obtain ⟨⟨B1, c1, rfl⟩, _⟩ := ho
  have HB1 := Lib.hid (HBU.out.trans (hb.mono HBU.out.size))
  have HR1 := Lib.hid (HRU.out.grow hb)
  clear hb
  go_wp2_with fail
  refine (refByBidder_any (HL.out.grow HB1.out) hle).mono ?_
  rintro e w2 ⟨v2, rfl, ho, hb⟩
  obtain ⟨⟨B2, c2, rfl⟩, _⟩ := ho
  have HB2 := Lib.hid (HB1.out.trans (hb.mono HB1.out.size))
  have HR2 := Lib.hid (HR1.out.grow hb)
  clear hb
  have HOV := Lib.hid (show ofV l = tak l.length (sumsM Sale.lot l).length (sumsM Sale.bidder l).length (ofK l l.length) from rfl)
  obtain ⟨n1, hn1⟩ : ∃ z : Nat, z = (sumsM Sale.lot l).length := ⟨_, rfl⟩
  obtain ⟨n2, hn2⟩ : ∃ z : Nat, z = (sumsM Sale.bidder l).length := ⟨_, rfl⟩
  rw [← hn1, ← hn2] at HOV
  rw [← hn1, ← hn2]
  obtain ⟨V, hV⟩ : ∃ V, V = w2.alloc (.cells #[.int .i64 (l.length : Int), .int .i64 (n1 : Int), .int .i64 (n2 : Int), .int .i64 0, .int .i64 0, .int .i64 0] 56) := ⟨_, rfl⟩
  have hBV : Below w2.heap.size w2 V := by rw [hV]; exact (Below.refl _ _).alloc (Nat.le_refl _) _
  have HBV := Lib.hid (HB2.out.trans (hBV.mono HB2.out.size))
  have HRV := Lib.hid (HR2.out.grow hBV)
  have hTV : Blk V w2.heap.size 56 (tak l.length n1 n2 (ofK l 0)) := by rw [hV]; exact Blk.new w2 _ _
  have hg1 : w.heap.size ≤ w2.heap.size := HB2.out.size
  have hg1l : w.heap.size < w2.heap.size := HR2.out.lt
  obtain ⟨g1, hg⟩ : ∃ g, g = w2.heap.size := ⟨_, rfl⟩
  rw [← hg] at hTV hg1 hg1l
  have HTV := Lib.hid hTV
  have HG := Lib.hid hg
  clear hn1 hn2 hBV hTV hg
  go_wp2_with fail
  rw [← hV, ← HG.out]
  clear hV
  go_loopw [4] (fun i wr => ∃ k : Nat, k ≤ l.length ∧ i = .int .i64 k ∧ Blk wr g1 56 (tak l.length n1 n2 (ofK l k)) ∧ Blk wr w.heap.size 56 (tak 0 0 0 (0, 0, 0)) ∧ Below w.heap.size w wr) (fun i _ => l.length - (intOf i).toNat)
  case atStart => exact ⟨0, Nat.zero_le _, rfl, HTV.out, HRV.out, HBV.out⟩
  case round =>
    obtain ⟨k, hk, rfl, ht, hr, hb⟩ := hrel
    have HT := Lib.hid ht
    have HRB := Lib.hid hr
    have HBR := Lib.hid hb
    by_cases hlt : k < l.length
    · obtain ⟨s, hs⟩ : ∃ s, l[k]? = some s := ⟨_, List.getElem?_eq_getElem hlt⟩
      have hst := ofK_step hs
      obtain ⟨p, hp⟩ : ∃ p, p = ofK l k := ⟨_, rfl⟩
      rw [← hp] at hst ht
      obtain ⟨bq, off, rfl, _, hbq, hc⟩ := HL.out.at_ hs
      have C3 := Lib.hid (hc 3 _ rfl)
      have C6 := Lib.hid (hc 6 _ rfl)
      have e1 : (0 : Int) ≤ (k : Int) := by omega
      have e2 : (k : Int) < (l.length : Int) := by omega
      obtain ⟨pc, pf, pl⟩ := p
      obtain ⟨sn, sl, sb, sc, sg, sct, st⟩ := s
      dsimp only [ofS] at C3 C6 hst ht
      obtain ⟨cw, hcw⟩ : ∃ c, IntKind.i64.wrap (pc + sc) = c := ⟨_, rfl⟩
      rw [hcw] at hst
      have HST := Lib.hid hst
      have ltT : g1 < wr.heap.size := ht.lt
      have x3 : wr.cell? ⟨g1, 3, none⟩ = some (.int .i64 pc) := ht.cell 3
      have c3 := (HBR.out.cell (p := ⟨bq, off + k * 7 + 3, none⟩) hbq).trans C3.out
      have hbq2 : bq < wr.heap.size := by have := hb.size; omega
      have HTB := Lib.hid ht
      clear hs hc hp ht hr hb hst
      go_wp2_with fail
      refine wp_region_F (Below wr.heap.size wr) [9] (by kernel_rfl) ((Below.refl _ _).drew) (fun hS => ?_)
      refine wpAnyF_take (i := 0) (oi := { dst := some 20, op := Go.Op.fieldAddr 56 (Go.Operand.tmp 3) 3, type := 0, pos := "ref.go:214", after := #[], guard := none }) (v := ?_) rfl (by kernel_rfl) (by kernel_rfl) (by kernel_rfl) (by kernel_rfl) (fun _ _ _ h => h) (Or.inl ⟨by rfl, ?_⟩) hS ?_
      rotate_left
      · intro w' hSw; have q0 := (hSw.cell (p := ⟨g1, 3, none⟩) ltT).trans x3; have q1 := (hSw.cell (p := ⟨bq, off + k * 7 + 3, none⟩) hbq2).trans c3; go_simp; try with_reducible rfl
      try simp only [Act.put, List.setIfInBounds_toArray, List.set_cons_zero, List.set_cons_succ]
      refine wpAnyF_take (i := 1) (oi := { dst := some 21, op := Go.Op.load 2 (Go.Operand.tmp 20), type := 2, pos := "ref.go:214", after := #[{ on := 0, ground := Go.Ground.data }], guard := none }) (v := ?_) rfl (by kernel_rfl) (by kernel_rfl) (by kernel_rfl) (by kernel_rfl) (fun _ _ _ h => h) (Or.inl ⟨by rfl, ?_⟩) hS ?_
      rotate_left
      · intro w' hSw; have q0 := (hSw.cell (p := ⟨g1, 3, none⟩) ltT).trans x3; have q1 := (hSw.cell (p := ⟨bq, off + k * 7 + 3, none⟩) hbq2).trans c3; go_simp; try with_reducible rfl
      try simp only [Act.put, List.setIfInBounds_toArray, List.set_cons_zero, List.set_cons_succ]
      refine wpAnyF_take (i := 2) (oi := { dst := some 22, op := Go.Op.move (Go.Operand.tmp 0), type := 53, pos := "ref.go:214", after := #[], guard := none }) (v := ?_) rfl (by kernel_rfl) (by kernel_rfl) (by kernel_rfl) (by kernel_rfl) (fun _ _ _ h => h) (Or.inl ⟨by rfl, ?_⟩) hS ?_
      rotate_left
      · intro w' hSw; have q0 := (hSw.cell (p := ⟨g1, 3, none⟩) ltT).trans x3; have q1 := (hSw.cell (p := ⟨bq, off + k * 7 + 3, none⟩) hbq2).trans c3; go_simp; try with_reducible rfl
      try simp only [Act.put, List.setIfInBounds_toArray, List.set_cons_zero, List.set_cons_succ]
      refine wpAnyF_take (i := 3) (oi := { dst := some 23, op := Go.Op.move (Go.Operand.tmp 4), type := 3, pos := "ref.go:214", after := #[], guard := none }) (v := ?_) rfl (by kernel_rfl) (by kernel_rfl) (by kernel_rfl) (by kernel_rfl) (fun _ _ _ h => h) (Or.inl ⟨by rfl, ?_⟩) hS ?_
      rotate_left
      · intro w' hSw; have q0 := (hSw.cell (p := ⟨g1, 3, none⟩) ltT).trans x3; have q1 := (hSw.cell (p := ⟨bq, off + k * 7 + 3, none⟩) hbq2).trans c3; go_simp; try with_reducible rfl
      try simp only [Act.put, List.setIfInBounds_toArray, List.set_cons_zero, List.set_cons_succ]
      refine wpAnyF_take (i := 4) (oi := { dst := some 24, op := Go.Op.indexAddr 53 (Go.Operand.tmp 22) (Go.Operand.tmp 23), type := 0, pos := "ref.go:214", after := #[{ on := 2, ground := Go.Ground.data }, { on := 3, ground := Go.Ground.data }], guard := none }) (v := ?_) rfl (by kernel_rfl) (by kernel_rfl) (by kernel_rfl) (by kernel_rfl) (fun _ _ _ h => h) (Or.inl ⟨by rfl, ?_⟩) hS ?_
      rotate_left
      · intro w' hSw; have q0 := (hSw.cell (p := ⟨g1, 3, none⟩) ltT).trans x3; have q1 := (hSw.cell (p := ⟨bq, off + k * 7 + 3, none⟩) hbq2).trans c3; go_simp; try with_reducible rfl
      try simp only [Act.put, List.setIfInBounds_toArray, List.set_cons_zero, List.set_cons_succ]
      refine wpAnyF_take (i := 5) (oi := { dst := some 25, op := Go.Op.fieldAddr 66 (Go.Operand.tmp 24) 3, type := 0, pos := "ref.go:214", after := #[{ on := 4, ground := Go.Ground.data }], guard := none }) (v := ?_) rfl (by kernel_rfl) (by kernel_rfl) (by kernel_rfl) (by kernel_rfl) (fun _ _ _ h => h) (Or.inl ⟨by rfl, ?_⟩) hS ?_
      rotate_left
      · intro w' hSw; have q0 := (hSw.cell (p := ⟨g1, 3, none⟩) ltT).trans x3; have q1 := (hSw.cell (p := ⟨bq, off + k * 7 + 3, none⟩) hbq2).trans c3; go_simp; try with_reducible rfl
      try simp only [Act.put, List.setIfInBounds_toArray, List.set_cons_zero, List.set_cons_succ]
      refine wpAnyF_take (i := 6) (oi := { dst := some 26, op := Go.Op.load 2 (Go.Operand.tmp 25), type := 2, pos := "ref.go:214", after := #[{ on := 5, ground := Go.Ground.data }], guard := none }) (v := ?_) rfl (by kernel_rfl) (by kernel_rfl) (by kernel_rfl) (by kernel_rfl) (fun _ _ _ h => h) (Or.inl ⟨by rfl, ?_⟩) hS ?_
      rotate_left
      · intro w' hSw; have q0 := (hSw.cell (p := ⟨g1, 3, none⟩) ltT).trans x3; have q1 := (hSw.cell (p := ⟨bq, off + k * 7 + 3, none⟩) hbq2).trans c3; go_simp; try with_reducible rfl
      try simp only [Act.put, List.setIfInBounds_toArray, List.set_cons_zero, List.set_cons_succ]
      refine wpAnyF_take (i := 7) (oi := { dst := some 27, op := Go.Op.binOp Go.BinOp.add 2 (Go.Operand.tmp 21) (Go.Operand.tmp 26) 2, type := 2, pos := "ref.go:214", after := #[{ on := 1, ground := Go.Ground.data }, { on := 6, ground := Go.Ground.data }], guard := none }) (v := ?_) rfl (by kernel_rfl) (by kernel_rfl) (by kernel_rfl) (by kernel_rfl) (fun _ _ _ h => h) (Or.inl ⟨by rfl, ?_⟩) hS ?_
      rotate_left
      · intro w' hSw; have q0 := (hSw.cell (p := ⟨g1, 3, none⟩) ltT).trans x3; have q1 := (hSw.cell (p := ⟨bq, off + k * 7 + 3, none⟩) hbq2).trans c3; go_simp; try with_reducible rfl
      try simp only [Act.put, List.setIfInBounds_toArray, List.set_cons_zero, List.set_cons_succ]
      refine wpAnyF_take (i := 8) (oi := { dst := some 28, op := Go.Op.fieldAddr 56 (Go.Operand.tmp 3) 3, type := 0, pos := "ref.go:214", after := #[{ on := 0, ground := Go.Ground.phase }, { on := 1, ground := Go.Ground.phase }, { on := 2, ground := Go.Ground.phase }, { on := 3, ground := Go.Ground.phase }, { on := 4, ground := Go.Ground.phase }, { on := 5, ground := Go.Ground.phase }, { on := 6, ground := Go.Ground.phase }, { on := 7, ground := Go.Ground.phase }], guard := none }) (v := ?_) rfl (by kernel_rfl) (by kernel_rfl) (by kernel_rfl) (by kernel_rfl) (fun _ _ _ h => h) (Or.inl ⟨by rfl, ?_⟩) hS ?_
      rotate_left
      · intro w' hSw; have q0 := (hSw.cell (p := ⟨g1, 3, none⟩) ltT).trans x3; have q1 := (hSw.cell (p := ⟨bq, off + k * 7 + 3, none⟩) hbq2).trans c3; go_simp; try with_reducible rfl
      try simp only [Act.put, List.setIfInBounds_toArray, List.set_cons_zero, List.set_cons_succ]
      refine wpAnyF_ready (rs := [9]) (by kernel_rfl) (by simp) ?_
      refine AllReadyF.fin (o := { dst := none, op := Go.Op.store 2 (Go.Operand.tmp 28) (Go.Operand.tmp 27), type := 0, pos := "ref.go:214", after := #[{ on := 8, ground := Go.Ground.data }, { on := 7, ground := Go.Ground.data }, { on := 0, ground := Go.Ground.phase }, { on := 1, ground := Go.Ground.phase }, { on := 2, ground := Go.Ground.phase }, { on := 3, ground := Go.Ground.phase }, { on := 4, ground := Go.Ground.phase }, { on := 5, ground := Go.Ground.phase }, { on := 6, ground := Go.Ground.phase }, { on := 7, ground := Go.Ground.phase }], guard := none }) rfl (by rfl) (fun K hK => ?_) ?_
      · have q1 := (hS.cell (p := ⟨g1, 3, none⟩) ltT).trans x3
        have q2 := (HTB.out.grow hS).frozen 3
        go_simp
        clear q1 q2
        refine hK.out _ _ ?_
        clear hK K
        try simp only [Act.put, List.setIfInBounds_toArray, List.set_cons_zero, List.set_cons_succ]
        refine wpAnyF_done (by kernel_rfl) ?_ _
        clear c3
        clear hS
        obtain ⟨W5, hW⟩ : ∃ W : World, W = (wr.setCell ⟨g1, 3, none⟩ (.int .i64 cw)).drew := ⟨_, rfl⟩
        first | rw [← hW] | (rw [show (wr.drew).setCell ⟨g1, 3, none⟩ (.int .i64 cw) = W5 from hW.symm])
        have HB5 := Lib.hid (show Below w.heap.size w W5 by rw [hW]; exact (HBR.out.setCell (p := ⟨g1, 3, none⟩) hg1 _).drew)
        have HT5 := Lib.hid (show Blk W5 g1 56 (tak l.length n1 n2 (cw, pf, pl)) by rw [hW]; exact HTB.out.set_ 3 (.int .i64 cw))
        have HR5 := Lib.hid (show Blk W5 w.heap.size 56 (tak 0 0 0 (0, 0, 0)) by rw [hW]; exact HRB.out.far (p := ⟨g1, 3, none⟩) (Nat.ne_of_lt hg1l) _)
        clear hW x3
        by_cases hz : k = 0
        · subst hz
          simp only [Nat.zero_mul, Nat.add_zero] at C3 C6
          have HE := Lib.hid (show ofK l (0 + 1) = (cw, st, st) by rw [HST.out, if_pos (.inl rfl), if_pos (.inl rfl)])
          have c3 := (HB5.out.cell (p := ⟨bq, off + 3, none⟩) hbq).trans C3.out
          have c6 := (HB5.out.cell (p := ⟨bq, off + 6, none⟩) hbq).trans C6.out
          have x4 : W5.cell? ⟨g1, 4, none⟩ = some (.int .i64 (pf)) := HT5.out.cell 4
          have xz4 : W5.frozen? ⟨g1, 4, none⟩ = false := HT5.out.frozen 4
          have x5 : W5.cell? ⟨g1, 5, none⟩ = some (.int .i64 (pl)) := HT5.out.cell 5
          have xz5 : W5.frozen? ⟨g1, 5, none⟩ = false := HT5.out.frozen 5
          go_upto_region 6 with fail
          go_quiet (fail)
          generalize hW : W5.drewN _ = W6
          have HB6 := Lib.hid (show Below w.heap.size w W6 by rw [← hW]; exact below_drewN HB5.out _)
          have HT6 := Lib.hid (HT5.out.grow (show Below W5.heap.size W5 W6 by rw [← hW]; exact below_drewN (Below.refl _ _) _))
          have HR6 := Lib.hid (HR5.out.grow (show Below W5.heap.size W5 W6 by rw [← hW]; exact below_drewN (Below.refl _ _) _))
          clear hW
          clear c3 c6 x4 x5 xz4 xz5
          have c6 := (HB6.out.cell (p := ⟨bq, off + 6, none⟩) hbq).trans C6.out
          have y4 : W6.cell? ⟨g1, 4, none⟩ = some (.int .i64 (pf)) := HT6.out.cell 4
          have yz4 : W6.frozen? ⟨g1, 4, none⟩ = false := HT6.out.frozen 4
          go_upto_region 8 with fail
          obtain ⟨W7, hW⟩ : ∃ W, W = W6.setCell ⟨g1, 4, none⟩ (.int .i64 st) := ⟨_, rfl⟩
          rw [← hW]
          have HB7 := Lib.hid (show Below w.heap.size w W7 by rw [hW]; exact HB6.out.setCell (p := ⟨g1, 4, none⟩) hg1 _)
          have HT7 := Lib.hid (show Blk W7 g1 56 (tak l.length n1 n2 (cw, st, pl)) by rw [hW]; exact HT6.out.set_ 4 (.int .i64 st))
          have HR7 := Lib.hid (show Blk W7 w.heap.size 56 (tak 0 0 0 (0, 0, 0)) by rw [hW]; exact HR6.out.far (p := ⟨g1, 4, none⟩) (Nat.ne_of_lt hg1l) _)
          clear hW c6 y4 yz4
          have c3 := (HB7.out.cell (p := ⟨bq, off + 3, none⟩) hbq).trans C3.out
          have c6 := (HB7.out.cell (p := ⟨bq, off + 6, none⟩) hbq).trans C6.out
          have v4 : W7.cell? ⟨g1, 4, none⟩ = some (.int .i64 (st)) := HT7.out.cell 4
          have vz4 : W7.frozen? ⟨g1, 4, none⟩ = false := HT7.out.frozen 4
          have v5 : W7.cell? ⟨g1, 5, none⟩ = some (.int .i64 (pl)) := HT7.out.cell 5
          have vz5 : W7.frozen? ⟨g1, 5, none⟩ = false := HT7.out.frozen 5
          go_upto_region 8 with fail
          go_quiet (fail)
          generalize hW : W7.drewN _ = W8
          have HB8 := Lib.hid (show Below w.heap.size w W8 by rw [← hW]; exact below_drewN HB7.out _)
          have HT8 := Lib.hid (HT7.out.grow (show Below W7.heap.size W7 W8 by rw [← hW]; exact below_drewN (Below.refl _ _) _))
          have HR8 := Lib.hid (HR7.out.grow (show Below W7.heap.size W7 W8 by rw [← hW]; exact below_drewN (Below.refl _ _) _))
          clear hW
          clear c3 c6 v4 v5 vz4 vz5
          have c6 := (HB8.out.cell (p := ⟨bq, off + 6, none⟩) hbq).trans C6.out
          have u5 : W8.cell? ⟨g1, 5, none⟩ = some (.int .i64 (pl)) := HT8.out.cell 5
          have uz5 : W8.frozen? ⟨g1, 5, none⟩ = false := HT8.out.frozen 5
          go_upto_region 4 with fail
          obtain ⟨W9, hW⟩ : ∃ W, W = W8.setCell ⟨g1, 5, none⟩ (.int .i64 st) := ⟨_, rfl⟩
          rw [← hW]
          have HB9 := Lib.hid (show Below w.heap.size w W9 by rw [hW]; exact HB8.out.setCell (p := ⟨g1, 5, none⟩) hg1 _)
          have HT9 := Lib.hid (show Blk W9 g1 56 (tak l.length n1 n2 (cw, st, st)) by rw [hW]; exact HT8.out.set_ 5 (.int .i64 st))
          have HR9 := Lib.hid (show Blk W9 w.heap.size 56 (tak 0 0 0 (0, 0, 0)) by rw [hW]; exact HR8.out.far (p := ⟨g1, 5, none⟩) (Nat.ne_of_lt hg1l) _)
          clear hW c6 u5 uz5
          go_wp2_with fail
          go_roundw
          case rel => exact ⟨0 + 1, by omega, by go_num, by rw [HE.out]; exact HT9.out, HR9.out, HB9.out⟩
          case measure => simp [intOf]; omega
        · have d1 : ((k : Int) == 0) = false := by simp; omega
          by_cases hf : st < pf
          · have d2 : decide (st < pf) = true := by simpa using hf
            by_cases hl : pl < st
            · have d3 : decide (pl < st) = true := by simpa using hl
              have HE := Lib.hid (show ofK l (k + 1) = (cw, st, st) by rw [HST.out, if_pos (.inr hf), if_pos (.inr hl)])
              clear hz hf hl
              have c3 := (HB5.out.cell (p := ⟨bq, off + k * 7 + 3, none⟩) hbq).trans C3.out
              have c6 := (HB5.out.cell (p := ⟨bq, off + k * 7 + 6, none⟩) hbq).trans C6.out
              have x4 : W5.cell? ⟨g1, 4, none⟩ = some (.int .i64 (pf)) := HT5.out.cell 4
              have xz4 : W5.frozen? ⟨g1, 4, none⟩ = false := HT5.out.frozen 4
              have x5 : W5.cell? ⟨g1, 5, none⟩ = some (.int .i64 (pl)) := HT5.out.cell 5
              have xz5 : W5.frozen? ⟨g1, 5, none⟩ = false := HT5.out.frozen 5
              go_upto_region 6 with fail
              go_quiet (fail)
              generalize hW : W5.drewN _ = W6
              have HB6 := Lib.hid (show Below w.heap.size w W6 by rw [← hW]; exact below_drewN HB5.out _)
              have HT6 := Lib.hid (HT5.out.grow (show Below W5.heap.size W5 W6 by rw [← hW]; exact below_drewN (Below.refl _ _) _))
              have HR6 := Lib.hid (HR5.out.grow (show Below W5.heap.size W5 W6 by rw [← hW]; exact below_drewN (Below.refl _ _) _))
              clear hW
              clear c3 c6 x4 x5 xz4 xz5
              have c6 := (HB6.out.cell (p := ⟨bq, off + k * 7 + 6, none⟩) hbq).trans C6.out
              have y4 : W6.cell? ⟨g1, 4, none⟩ = some (.int .i64 (pf)) := HT6.out.cell 4
              have yz4 : W6.frozen? ⟨g1, 4, none⟩ = false := HT6.out.frozen 4
              go_upto_region 8 with fail
              obtain ⟨W7, hW⟩ : ∃ W, W = W6.setCell ⟨g1, 4, none⟩ (.int .i64 st) := ⟨_, rfl⟩
              rw [← hW]
              have HB7 := Lib.hid (show Below w.heap.size w W7 by rw [hW]; exact HB6.out.setCell (p := ⟨g1, 4, none⟩) hg1 _)
              have HT7 := Lib.hid (show Blk W7 g1 56 (tak l.length n1 n2 (cw, st, pl)) by rw [hW]; exact HT6.out.set_ 4 (.int .i64 st))
              have HR7 := Lib.hid (show Blk W7 w.heap.size 56 (tak 0 0 0 (0, 0, 0)) by rw [hW]; exact HR6.out.far (p := ⟨g1, 4, none⟩) (Nat.ne_of_lt hg1l) _)
              clear hW c6 y4 yz4
              have c3 := (HB7.out.cell (p := ⟨bq, off + k * 7 + 3, none⟩) hbq).trans C3.out
              have c6 := (HB7.out.cell (p := ⟨bq, off + k * 7 + 6, none⟩) hbq).trans C6.out
              have v4 : W7.cell? ⟨g1, 4, none⟩ = some (.int .i64 (st)) := HT7.out.cell 4
              have vz4 : W7.frozen? ⟨g1, 4, none⟩ = false := HT7.out.frozen 4
              have v5 : W7.cell? ⟨g1, 5, none⟩ = some (.int .i64 (pl)) := HT7.out.cell 5
              have vz5 : W7.frozen? ⟨g1, 5, none⟩ = false := HT7.out.frozen 5
              go_upto_region 8 with fail
              go_quiet (fail)
              generalize hW : W7.drewN _ = W8
              have HB8 := Lib.hid (show Below w.heap.size w W8 by rw [← hW]; exact below_drewN HB7.out _)
              have HT8 := Lib.hid (HT7.out.grow (show Below W7.heap.size W7 W8 by rw [← hW]; exact below_drewN (Below.refl _ _) _))
              have HR8 := Lib.hid (HR7.out.grow (show Below W7.heap.size W7 W8 by rw [← hW]; exact below_drewN (Below.refl _ _) _))
              clear hW
              clear c3 c6 v4 v5 vz4 vz5
              have c6 := (HB8.out.cell (p := ⟨bq, off + k * 7 + 6, none⟩) hbq).trans C6.out
              have u5 : W8.cell? ⟨g1, 5, none⟩ = some (.int .i64 (pl)) := HT8.out.cell 5
              have uz5 : W8.frozen? ⟨g1, 5, none⟩ = false := HT8.out.frozen 5
              go_upto_region 4 with fail
              obtain ⟨W9, hW⟩ : ∃ W, W = W8.setCell ⟨g1, 5, none⟩ (.int .i64 st) := ⟨_, rfl⟩
              rw [← hW]
              have HB9 := Lib.hid (show Below w.heap.size w W9 by rw [hW]; exact HB8.out.setCell (p := ⟨g1, 5, none⟩) hg1 _)
              have HT9 := Lib.hid (show Blk W9 g1 56 (tak l.length n1 n2 (cw, st, st)) by rw [hW]; exact HT8.out.set_ 5 (.int .i64 st))
              have HR9 := Lib.hid (show Blk W9 w.heap.size 56 (tak 0 0 0 (0, 0, 0)) by rw [hW]; exact HR8.out.far (p := ⟨g1, 5, none⟩) (Nat.ne_of_lt hg1l) _)
              clear hW c6 u5 uz5
              go_wp2_with fail
              go_roundw
              case rel => exact ⟨k + 1, by omega, by go_num, by rw [HE.out]; exact HT9.out, HR9.out, HB9.out⟩
              case measure => simp [intOf]; omega
            · have d3 : decide (pl < st) = false := by simpa using hl
              have HE := Lib.hid (show ofK l (k + 1) = (cw, st, pl) by rw [HST.out, if_pos (.inr hf), if_neg (fun h => h.elim hz hl)])
              clear hz hf hl
              have c3 := (HB5.out.cell (p := ⟨bq, off + k * 7 + 3, none⟩) hbq).trans C3.out
              have c6 := (HB5.out.cell (p := ⟨bq, off + k * 7 + 6, none⟩) hbq).trans C6.out
              have x4 : W5.cell? ⟨g1, 4, none⟩ = some (.int .i64 (pf)) := HT5.out.cell 4
              have xz4 : W5.frozen? ⟨g1, 4, none⟩ = false := HT5.out.frozen 4
              have x5 : W5.cell? ⟨g1, 5, none⟩ = some (.int .i64 (pl)) := HT5.out.cell 5
              have xz5 : W5.frozen? ⟨g1, 5, none⟩ = false := HT5.out.frozen 5
              go_upto_region 6 with fail
              go_quiet (fail)
              generalize hW : W5.drewN _ = W6
              have HB6 := Lib.hid (show Below w.heap.size w W6 by rw [← hW]; exact below_drewN HB5.out _)
              have HT6 := Lib.hid (HT5.out.grow (show Below W5.heap.size W5 W6 by rw [← hW]; exact below_drewN (Below.refl _ _) _))
              have HR6 := Lib.hid (HR5.out.grow (show Below W5.heap.size W5 W6 by rw [← hW]; exact below_drewN (Below.refl _ _) _))
              clear hW
              clear c3 c6 x4 x5 xz4 xz5
              have c6 := (HB6.out.cell (p := ⟨bq, off + k * 7 + 6, none⟩) hbq).trans C6.out
              have y4 : W6.cell? ⟨g1, 4, none⟩ = some (.int .i64 (pf)) := HT6.out.cell 4
              have yz4 : W6.frozen? ⟨g1, 4, none⟩ = false := HT6.out.frozen 4
              go_upto_region 8 with fail
              obtain ⟨W7, hW⟩ : ∃ W, W = W6.setCell ⟨g1, 4, none⟩ (.int .i64 st) := ⟨_, rfl⟩
              rw [← hW]
              have HB7 := Lib.hid (show Below w.heap.size w W7 by rw [hW]; exact HB6.out.setCell (p := ⟨g1, 4, none⟩) hg1 _)
              have HT7 := Lib.hid (show Blk W7 g1 56 (tak l.length n1 n2 (cw, st, pl)) by rw [hW]; exact HT6.out.set_ 4 (.int .i64 st))
              have HR7 := Lib.hid (show Blk W7 w.heap.size 56 (tak 0 0 0 (0, 0, 0)) by rw [hW]; exact HR6.out.far (p := ⟨g1, 4, none⟩) (Nat.ne_of_lt hg1l) _)
              clear hW c6 y4 yz4
              have c3 := (HB7.out.cell (p := ⟨bq, off + k * 7 + 3, none⟩) hbq).trans C3.out
              have c6 := (HB7.out.cell (p := ⟨bq, off + k * 7 + 6, none⟩) hbq).trans C6.out
              have v4 : W7.cell? ⟨g1, 4, none⟩ = some (.int .i64 (st)) := HT7.out.cell 4
              have vz4 : W7.frozen? ⟨g1, 4, none⟩ = false := HT7.out.frozen 4
              have v5 : W7.cell? ⟨g1, 5, none⟩ = some (.int .i64 (pl)) := HT7.out.cell 5
              have vz5 : W7.frozen? ⟨g1, 5, none⟩ = false := HT7.out.frozen 5
              go_upto_region 8 with fail
              go_quiet (fail)
              generalize hW : W7.drewN _ = W8
              have HB8 := Lib.hid (show Below w.heap.size w W8 by rw [← hW]; exact below_drewN HB7.out _)
              have HT8 := Lib.hid (HT7.out.grow (show Below W7.heap.size W7 W8 by rw [← hW]; exact below_drewN (Below.refl _ _) _))
              have HR8 := Lib.hid (HR7.out.grow (show Below W7.heap.size W7 W8 by rw [← hW]; exact below_drewN (Below.refl _ _) _))
              clear hW
              clear c3 c6 v4 v5 vz4 vz5
              go_wp2_with fail
              go_roundw
              case rel => exact ⟨k + 1, by omega, by go_num, by rw [HE.out]; exact HT8.out, HR8.out, HB8.out⟩
              case measure => simp [intOf]; omega
          · have d2 : decide (st < pf) = false := by simpa using hf
            by_cases hl : pl < st
            · have d3 : decide (pl < st) = true := by simpa using hl
              have HE := Lib.hid (show ofK l (k + 1) = (cw, pf, st) by rw [HST.out, if_neg (fun h => h.elim hz hf), if_pos (.inr hl)])
              clear hz hf hl
              have c3 := (HB5.out.cell (p := ⟨bq, off + k * 7 + 3, none⟩) hbq).trans C3.out
              have c6 := (HB5.out.cell (p := ⟨bq, off + k * 7 + 6, none⟩) hbq).trans C6.out
              have x4 : W5.cell? ⟨g1, 4, none⟩ = some (.int .i64 (pf)) := HT5.out.cell 4
              have xz4 : W5.frozen? ⟨g1, 4, none⟩ = false := HT5.out.frozen 4
              have x5 : W5.cell? ⟨g1, 5, none⟩ = some (.int .i64 (pl)) := HT5.out.cell 5
              have xz5 : W5.frozen? ⟨g1, 5, none⟩ = false := HT5.out.frozen 5
              go_upto_region 6 with fail
              go_quiet (fail)
              generalize hW : W5.drewN _ = W6
              have HB6 := Lib.hid (show Below w.heap.size w W6 by rw [← hW]; exact below_drewN HB5.out _)
              have HT6 := Lib.hid (HT5.out.grow (show Below W5.heap.size W5 W6 by rw [← hW]; exact below_drewN (Below.refl _ _) _))
              have HR6 := Lib.hid (HR5.out.grow (show Below W5.heap.size W5 W6 by rw [← hW]; exact below_drewN (Below.refl _ _) _))
              clear hW
              clear c3 c6 x4 x5 xz4 xz5
              have c3 := (HB6.out.cell (p := ⟨bq, off + k * 7 + 3, none⟩) hbq).trans C3.out
              have c6 := (HB6.out.cell (p := ⟨bq, off + k * 7 + 6, none⟩) hbq).trans C6.out
              have v4 : W6.cell? ⟨g1, 4, none⟩ = some (.int .i64 (pf)) := HT6.out.cell 4
              have vz4 : W6.frozen? ⟨g1, 4, none⟩ = false := HT6.out.frozen 4
              have v5 : W6.cell? ⟨g1, 5, none⟩ = some (.int .i64 (pl)) := HT6.out.cell 5
              have vz5 : W6.frozen? ⟨g1, 5, none⟩ = false := HT6.out.frozen 5
              go_upto_region 8 with fail
              go_quiet (fail)
              generalize hW : W6.drewN _ = W8
              have HB8 := Lib.hid (show Below w.heap.size w W8 by rw [← hW]; exact below_drewN HB6.out _)
              have HT8 := Lib.hid (HT6.out.grow (show Below W6.heap.size W6 W8 by rw [← hW]; exact below_drewN (Below.refl _ _) _))
              have HR8 := Lib.hid (HR6.out.grow (show Below W6.heap.size W6 W8 by rw [← hW]; exact below_drewN (Below.refl _ _) _))
              clear hW
              clear c3 c6 v4 v5 vz4 vz5
              have c6 := (HB8.out.cell (p := ⟨bq, off + k * 7 + 6, none⟩) hbq).trans C6.out
              have u5 : W8.cell? ⟨g1, 5, none⟩ = some (.int .i64 (pl)) := HT8.out.cell 5
              have uz5 : W8.frozen? ⟨g1, 5, none⟩ = false := HT8.out.frozen 5
              go_upto_region 4 with fail
              obtain ⟨W9, hW⟩ : ∃ W, W = W8.setCell ⟨g1, 5, none⟩ (.int .i64 st) := ⟨_, rfl⟩
              rw [← hW]
              have HB9 := Lib.hid (show Below w.heap.size w W9 by rw [hW]; exact HB8.out.setCell (p := ⟨g1, 5, none⟩) hg1 _)
              have HT9 := Lib.hid (show Blk W9 g1 56 (tak l.length n1 n2 (cw, pf, st)) by rw [hW]; exact HT8.out.set_ 5 (.int .i64 st))
              have HR9 := Lib.hid (show Blk W9 w.heap.size 56 (tak 0 0 0 (0, 0, 0)) by rw [hW]; exact HR8.out.far (p := ⟨g1, 5, none⟩) (Nat.ne_of_lt hg1l) _)
              clear hW c6 u5 uz5
              go_wp2_with fail
              go_roundw
              case rel => exact ⟨k + 1, by omega, by go_num, by rw [HE.out]; exact HT9.out, HR9.out, HB9.out⟩
              case measure => simp [intOf]; omega
            · have d3 : decide (pl < st) = false := by simpa using hl
              have HE := Lib.hid (show ofK l (k + 1) = (cw, pf, pl) by rw [HST.out, if_neg (fun h => h.elim hz hf), if_neg (fun h => h.elim hz hl)])
              clear hz hf hl
              have c3 := (HB5.out.cell (p := ⟨bq, off + k * 7 + 3, none⟩) hbq).trans C3.out
              have c6 := (HB5.out.cell (p := ⟨bq, off + k * 7 + 6, none⟩) hbq).trans C6.out
              have x4 : W5.cell? ⟨g1, 4, none⟩ = some (.int .i64 (pf)) := HT5.out.cell 4
              have xz4 : W5.frozen? ⟨g1, 4, none⟩ = false := HT5.out.frozen 4
              have x5 : W5.cell? ⟨g1, 5, none⟩ = some (.int .i64 (pl)) := HT5.out.cell 5
              have xz5 : W5.frozen? ⟨g1, 5, none⟩ = false := HT5.out.frozen 5
              go_upto_region 6 with fail
              go_quiet (fail)
              generalize hW : W5.drewN _ = W6
              have HB6 := Lib.hid (show Below w.heap.size w W6 by rw [← hW]; exact below_drewN HB5.out _)
              have HT6 := Lib.hid (HT5.out.grow (show Below W5.heap.size W5 W6 by rw [← hW]; exact below_drewN (Below.refl _ _) _))
              have HR6 := Lib.hid (HR5.out.grow (show Below W5.heap.size W5 W6 by rw [← hW]; exact below_drewN (Below.refl _ _) _))
              clear hW
              clear c3 c6 x4 x5 xz4 xz5
              have c3 := (HB6.out.cell (p := ⟨bq, off + k * 7 + 3, none⟩) hbq).trans C3.out
              have c6 := (HB6.out.cell (p := ⟨bq, off + k * 7 + 6, none⟩) hbq).trans C6.out
              have v4 : W6.cell? ⟨g1, 4, none⟩ = some (.int .i64 (pf)) := HT6.out.cell 4
              have vz4 : W6.frozen? ⟨g1, 4, none⟩ = false := HT6.out.frozen 4
              have v5 : W6.cell? ⟨g1, 5, none⟩ = some (.int .i64 (pl)) := HT6.out.cell 5
              have vz5 : W6.frozen? ⟨g1, 5, none⟩ = false := HT6.out.frozen 5
              go_upto_region 8 with fail
              go_quiet (fail)
              generalize hW : W6.drewN _ = W8
              have HB8 := Lib.hid (show Below w.heap.size w W8 by rw [← hW]; exact below_drewN HB6.out _)
              have HT8 := Lib.hid (HT6.out.grow (show Below W6.heap.size W6 W8 by rw [← hW]; exact below_drewN (Below.refl _ _) _))
              have HR8 := Lib.hid (HR6.out.grow (show Below W6.heap.size W6 W8 by rw [← hW]; exact below_drewN (Below.refl _ _) _))
              clear hW
              clear c3 c6 v4 v5 vz4 vz5
              go_wp2_with fail
              go_roundw
              case rel => exact ⟨k + 1, by omega, by go_num, by rw [HE.out]; exact HT8.out, HR8.out, HB8.out⟩
              case measure => simp [intOf]; omega
        
      exact AllReadyF.nil
    · obtain rfl : k = l.length := by omega
      have hsz := hb.size
      obtain ⟨p, hp⟩ : ∃ p, p = ofK l l.length := ⟨_, rfl⟩
      rw [← hp] at ht HT HOV
      obtain ⟨pc, pf, pl⟩ := p
      have y0 : wr.cell? ⟨g1, 0, none⟩ = some (.int .i64 (l.length : Int)) := ht.cell 0
      have y1 : wr.cell? ⟨g1, 1, none⟩ = some (.int .i64 (n1 : Int)) := ht.cell 1
      have y2 : wr.cell? ⟨g1, 2, none⟩ = some (.int .i64 (n2 : Int)) := ht.cell 2
      have y3 : wr.cell? ⟨g1, 3, none⟩ = some (.int .i64 pc) := ht.cell 3
      have y4 : wr.cell? ⟨g1, 4, none⟩ = some (.int .i64 pf) := ht.cell 4
      have y5 : wr.cell? ⟨g1, 5, none⟩ = some (.int .i64 pl) := ht.cell 5
      have f0 : wr.frozen? ⟨w.heap.size, 0, none⟩ = false := hr.frozen 0
      have f1 : wr.frozen? ⟨w.heap.size, 1, none⟩ = false := hr.frozen 1
      have f2 : wr.frozen? ⟨w.heap.size, 2, none⟩ = false := hr.frozen 2
      have f3 : wr.frozen? ⟨w.heap.size, 3, none⟩ = false := hr.frozen 3
      have f4 : wr.frozen? ⟨w.heap.size, 4, none⟩ = false := hr.frozen 4
      have f5 : wr.frozen? ⟨w.heap.size, 5, none⟩ = false := hr.frozen 5
      have z0 : wr.cell? ⟨w.heap.size, 0, none⟩ = some (.int .i64 0) := hr.cell 0
      have z1 : wr.cell? ⟨w.heap.size, 1, none⟩ = some (.int .i64 0) := hr.cell 1
      have z2 : wr.cell? ⟨w.heap.size, 2, none⟩ = some (.int .i64 0) := hr.cell 2
      have z3 : wr.cell? ⟨w.heap.size, 3, none⟩ = some (.int .i64 0) := hr.cell 3
      have z4 : wr.cell? ⟨w.heap.size, 4, none⟩ = some (.int .i64 0) := hr.cell 4
      have z5 : wr.cell? ⟨w.heap.size, 5, none⟩ = some (.int .i64 0) := hr.cell 5
      clear ht hp hb hr
      go_wp2_with fail
      have hSB := (((((HRB.out.set_ 0 (.int .i64 (l.length : Int))).set_ 1 (.int .i64 (n1 : Int))).set_ 2 (.int .i64 (n2 : Int))).set_ 3 (.int .i64 pc)).set_ 4 (.int .i64 pf)).set_ 5 (.int .i64 pl)
      have hBS := (((((HBR.out.setCell (p := ⟨w.heap.size, 0, none⟩) (Nat.le_refl _) (.int .i64 (l.length : Int))).setCell (p := ⟨w.heap.size, 1, none⟩) (Nat.le_refl _) (.int .i64 (n1 : Int))).setCell (p := ⟨w.heap.size, 2, none⟩) (Nat.le_refl _) (.int .i64 (n2 : Int))).setCell (p := ⟨w.heap.size, 3, none⟩) (Nat.le_refl _) (.int .i64 pc)).setCell (p := ⟨w.heap.size, 4, none⟩) (Nat.le_refl _) (.int .i64 pf)).setCell (p := ⟨w.heap.size, 5, none⟩) (Nat.le_refl _) (.int .i64 pl)
      generalize (((((wr.setCell ⟨w.heap.size, 0, none⟩ (.int .i64 (l.length : Int))).setCell ⟨w.heap.size, 1, none⟩ (.int .i64 (n1 : Int))).setCell ⟨w.heap.size, 2, none⟩ (.int .i64 (n2 : Int))).setCell ⟨w.heap.size, 3, none⟩ (.int .i64 pc)).setCell ⟨w.heap.size, 4, none⟩ (.int .i64 pf)).setCell ⟨w.heap.size, 5, none⟩ (.int .i64 pl) = S at hSB hBS ⊢
      have j0 : S.cell? ⟨w.heap.size, 0, none⟩ = some (.int .i64 (l.length : Int)) := hSB.cell 0
      have j1 : S.cell? ⟨w.heap.size, 1, none⟩ = some (.int .i64 (n1 : Int)) := hSB.cell 1
      have j2 : S.cell? ⟨w.heap.size, 2, none⟩ = some (.int .i64 (n2 : Int)) := hSB.cell 2
      have j3 : S.cell? ⟨w.heap.size, 3, none⟩ = some (.int .i64 pc) := hSB.cell 3
      have j4 : S.cell? ⟨w.heap.size, 4, none⟩ = some (.int .i64 pf) := hSB.cell 4
      have j5 : S.cell? ⟨w.heap.size, 5, none⟩ = some (.int .i64 pl) := hSB.cell 5
      clear hSB
      refine bodyPost_ret (v := .agg #[.int .i64 (l.length : Int), .int .i64 (n1 : Int), .int .i64 (n2 : Int), .int .i64 pc, .int .i64 pf, .int .i64 pl]) (by simp [results, Tryz.results35, go_sem, j0, j1, j2, j3, j4, j5]) rfl ⟨?_, hBS⟩
      rw [HOV.out]
end Go.Proofs.YtidejikolcgojaaGreat.St

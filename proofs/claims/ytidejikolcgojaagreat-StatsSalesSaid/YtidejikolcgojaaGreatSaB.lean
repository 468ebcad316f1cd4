/- Stats: by. -/
import Derived.Test.YtidejikolcgojaaGreatSaA
namespace Go.Proofs.YtidejikolcgojaaGreat.St
open Go.RowKit Go.Shelf Go.Maps
open Go.Proofs.YtidejikolcgojaaGreat.Vb Go.Proofs.YtidejikolcgojaaGreat.Ac
attribute [local go_sem] Oper.semAt_some

def byV (g : Nat) : Value := .func (.func 89) #[] #[.pointer (some ⟨g, 0, none⟩)]
/-- the iterator's box and map -/
def ByAt (W : World) (g m : Nat) (M : HM) : Prop := ∃ n, W.cell? ⟨g, 0, none⟩ = some (.map (some m)) ∧ SumAt W m n M
set_option maxRecDepth 100000 in
set_option maxHeartbeats 4000000 in
theorem by_any {l : List Sale} {v : Value} {R : Nat → Prop} {w : World} (h : Sals w R v l) (hle : l.length ≤ 1000) (f : Sale → Int) (gf : Nat) (hg : ∀ (W : World) (s : Sale), s ∈ l → Calls Tryz.prog gf #[saleV s] W fun e W' => e = .returned (.int .i64 (f s)) ∧ Below W.heap.size W W') (hf : ∀ s ∈ l, int64b (f s)) (eg : ∀ args W, (callFunc gf args).run Tryz.prog W = .ok (.enter gf args) W) :
    Calls Tryz.prog 70 #[v, .func (.func gf) #[] #[]] w fun e w' => e = .returned (byV (w.heap.size + 1)) ∧ ByAt w' (w.heap.size + 1) w.heap.size (sumsM f l) ∧ Below w.heap.size w w' ∧ w.heap.size + 1 < w'.heap.size := by
  obtain ⟨A, cap, rfl, hnc, hcap⟩ := h.form
  have HL := Lib.hid h
  have HG := Lib.hid hg
  have HF := Lib.hid hf
  obtain ⟨U, hU⟩ : ∃ U, U = (w.alloc (.map #[] 0)).alloc (.cells #[.map (some w.heap.size)] 100) := ⟨_, rfl⟩
  have HB := Lib.hid (show Below w.heap.size w U by rw [hU]; exact ((Below.refl _ _).alloc (Nat.le_refl _) _).alloc (by simp) _)
  have HBX := Lib.hid (show Blk U (w.heap.size + 1) 100 #[.map (some w.heap.size)] by rw [hU]; exact Blk.new' _ _ (by simp))
  have HM0 := Lib.hid (show SumAt U w.heap.size 0 (sumsM f (l.take 0)) by rw [hU]; exact (SumAt.made w).grow ((Below.refl _ _).alloc (by simp) _))
  have HSZ := Lib.hid (show w.heap.size + 2 ≤ U.heap.size by rw [hU]; simp)
  clear h hg hf
  have hmm := @run_makeMap Tryz.prog
  go_enter Tryz.func70, Tryz.ntmps70
  go_wp2_with fail
  rw [← hU]
  clear hU hmm
  have e4 : (0 : Int) ≤ (l.length : Int) := by omega
  go_loopw [11] (fun i wr => ∃ k : Nat, k ≤ l.length ∧ i = .int .i64 k ∧ Blk wr (w.heap.size + 1) 100 #[.map (some w.heap.size)] ∧ SumAt wr w.heap.size k (sumsM f (l.take k)) ∧ Below w.heap.size w wr) (fun i _ => l.length - (intOf i).toNat)
  case atStart => exact ⟨0, Nat.zero_le _, rfl, HBX.out, HM0.out, HB.out⟩
  case round =>
    obtain ⟨k, hk, rfl, hbx, hm, hb⟩ := hrel
    have hsz : w.heap.size + 2 ≤ wr.heap.size := by have := hbx.lt; omega
    by_cases hlt : k < l.length
    · obtain ⟨s, hs⟩ : ∃ s, l[k]? = some s := ⟨_, List.getElem?_eq_getElem hlt⟩
      have hmem : s ∈ l := List.mem_of_getElem? hs
      have HOK := Lib.hid (HL.out.2 s hmem)
      have HFS := Lib.hid (HF.out s hmem)
      have HGS := Lib.hid (fun W => HG.out W s hmem)
      have HSN := Lib.hid (sumsM_snoc (f := f) hs)
      obtain ⟨bq, off, rfl, _, hbq, hc⟩ := (HL.out.grow hb).at_ hs
      have c0 : wr.cell? ⟨bq, off + k * 7, none⟩ = some (.int .i64 s.number) := hc 0 _ rfl
      have c1 : wr.cell? ⟨bq, off + k * 7 + 1, none⟩ = some (.int .i64 s.lot) := hc 1 _ rfl
      have c2 : wr.cell? ⟨bq, off + k * 7 + 2, none⟩ = some (.int .i64 s.bidder) := hc 2 _ rfl
      have c3 : wr.cell? ⟨bq, off + k * 7 + 3, none⟩ = some (.int .i64 s.coins) := hc 3 _ rfl
      have c4 : wr.cell? ⟨bq, off + k * 7 + 4, none⟩ = some (.int .u32 s.goods) := hc 4 _ rfl
      have c5 : wr.cell? ⟨bq, off + k * 7 + 5, none⟩ = some (.int .i64 s.count) := hc 5 _ rfl
      have c6 : wr.cell? ⟨bq, off + k * 7 + 6, none⟩ = some (.int .i64 s.tick) := hc 6 _ rfl
      obtain ⟨V, hV⟩ : ∃ V, V = wr.alloc (.cells #[.int .i64 s.number, .int .i64 s.lot, .int .i64 s.bidder, .int .i64 s.coins, .int .u32 s.goods, .int .i64 s.count, .int .i64 s.tick] 66) := ⟨_, rfl⟩
      have hwV : Below wr.heap.size wr V := by rw [hV]; exact (Below.refl _ _).alloc (Nat.le_refl _) _
      have HBV := Lib.hid (hb.trans (hwV.mono hb.size))
      have HMV := Lib.hid (hm.grow hwV)
      have hbV := hbx.grow hwV
      have HXV := Lib.hid hbV
      have hsV : Blk V wr.heap.size 66 #[.int .i64 s.number, .int .i64 s.lot, .int .i64 s.bidder, .int .i64 s.coins, .int .u32 s.goods, .int .i64 s.count, .int .i64 s.tick] := by rw [hV]; exact Blk.new _ _ _
      have x0 : V.cell? ⟨w.heap.size + 1, 0, none⟩ = some (.map (some w.heap.size)) := hbV.cell 0
      have l0 : w.heap.size + 1 < V.heap.size := hbV.lt
      have l1 : wr.heap.size < V.heap.size := hsV.lt
      have y0 : V.cell? ⟨wr.heap.size, 0, none⟩ = some (.int .i64 s.number) := hsV.cell 0
      have y1 : V.cell? ⟨wr.heap.size, 1, none⟩ = some (.int .i64 s.lot) := hsV.cell 1
      have y2 : V.cell? ⟨wr.heap.size, 2, none⟩ = some (.int .i64 s.bidder) := hsV.cell 2
      have y3 : V.cell? ⟨wr.heap.size, 3, none⟩ = some (.int .i64 s.coins) := hsV.cell 3
      have y4 : V.cell? ⟨wr.heap.size, 4, none⟩ = some (.int .u32 s.goods) := hsV.cell 4
      have y5 : V.cell? ⟨wr.heap.size, 5, none⟩ = some (.int .i64 s.count) := hsV.cell 5
      have y6 : V.cell? ⟨wr.heap.size, 6, none⟩ = some (.int .i64 s.tick) := hsV.cell 6
      have e1 : (0 : Int) ≤ (k : Int) := by omega
      have e2 : (k : Int) < (l.length : Int) := by omega
      obtain ⟨fs, hfs⟩ : ∃ x, x = f s := ⟨_, rfl⟩
      have HFE := Lib.hid hfs
      rw [← hfs] at HFS
      simp only [← hfs] at HGS
      obtain ⟨at_, hat⟩ : ∃ x, x = atM (sumsM f (l.take k)) fs := ⟨_, rfl⟩
      have HAT := Lib.hid hat
      have hkl : k < maxLen := by unfold maxLen; omega
      obtain ⟨sn, sl, sb, sc, sg, sct, st⟩ := s
      dsimp only at c0 c1 c2 c3 c4 c5 c6 y0 y1 y2 y3 y4 y5 y6 hV HGS
      clear hs hc hm hbx hb hbV hsV hwV hmem hfs hat
      go_wp2_with fail
      rw [← hV]
      clear hV c0 c1 c2 c3 c4 c5 c6
      refine wp_region_F (Below V.heap.size V) [8] (by kernel_rfl) ((Below.refl _ _).drew) (fun hS => ?_)
      refine wpAnyF_take (i := 0) (oi := { dst := some 15, op := Go.Op.load 100 (Go.Operand.tmp 5), type := 100, pos := "stats.go:97", after := #[], guard := none }) (v := ?_) rfl (by kernel_rfl) (by kernel_rfl) (by kernel_rfl) (by kernel_rfl) (fun _ _ _ h => h) (Or.inl ⟨by rfl, ?_⟩) hS ?_
      rotate_left
      · intro w' hSw; have q0 := (hSw.cell (p := ⟨w.heap.size + 1, 0, none⟩) l0).trans x0; have p0 := (hSw.cell (p := ⟨wr.heap.size, 0, none⟩) l1).trans y0; have p1 := (hSw.cell (p := ⟨wr.heap.size, 1, none⟩) l1).trans y1; have p2 := (hSw.cell (p := ⟨wr.heap.size, 2, none⟩) l1).trans y2; have p3 := (hSw.cell (p := ⟨wr.heap.size, 3, none⟩) l1).trans y3; have p4 := (hSw.cell (p := ⟨wr.heap.size, 4, none⟩) l1).trans y4; have p5 := (hSw.cell (p := ⟨wr.heap.size, 5, none⟩) l1).trans y5; have p6 := (hSw.cell (p := ⟨wr.heap.size, 6, none⟩) l1).trans y6; go_simp; try with_reducible rfl
      try simp only [Act.put, List.setIfInBounds_toArray, List.set_cons_zero, List.set_cons_succ]
      refine wpAnyF_take (i := 1) (oi := { dst := some 16, op := Go.Op.move (Go.Operand.tmp 1), type := 88, pos := "stats.go:97", after := #[], guard := none }) (v := ?_) rfl (by kernel_rfl) (by kernel_rfl) (by kernel_rfl) (by kernel_rfl) (fun _ _ _ h => h) (Or.inl ⟨by rfl, ?_⟩) hS ?_
      rotate_left
      · intro w' hSw; have q0 := (hSw.cell (p := ⟨w.heap.size + 1, 0, none⟩) l0).trans x0; have p0 := (hSw.cell (p := ⟨wr.heap.size, 0, none⟩) l1).trans y0; have p1 := (hSw.cell (p := ⟨wr.heap.size, 1, none⟩) l1).trans y1; have p2 := (hSw.cell (p := ⟨wr.heap.size, 2, none⟩) l1).trans y2; have p3 := (hSw.cell (p := ⟨wr.heap.size, 3, none⟩) l1).trans y3; have p4 := (hSw.cell (p := ⟨wr.heap.size, 4, none⟩) l1).trans y4; have p5 := (hSw.cell (p := ⟨wr.heap.size, 5, none⟩) l1).trans y5; have p6 := (hSw.cell (p := ⟨wr.heap.size, 6, none⟩) l1).trans y6; go_simp; try with_reducible rfl
      try simp only [Act.put, List.setIfInBounds_toArray, List.set_cons_zero, List.set_cons_succ]
      refine wpAnyF_take (i := 2) (oi := { dst := some 17, op := Go.Op.load 66 (Go.Operand.tmp 7), type := 66, pos := "stats.go:97", after := #[], guard := none }) (v := ?_) rfl (by kernel_rfl) (by kernel_rfl) (by kernel_rfl) (by kernel_rfl) (fun _ _ _ h => h) (Or.inl ⟨by rfl, ?_⟩) hS ?_
      rotate_left
      · intro w' hSw; have q0 := (hSw.cell (p := ⟨w.heap.size + 1, 0, none⟩) l0).trans x0; have p0 := (hSw.cell (p := ⟨wr.heap.size, 0, none⟩) l1).trans y0; have p1 := (hSw.cell (p := ⟨wr.heap.size, 1, none⟩) l1).trans y1; have p2 := (hSw.cell (p := ⟨wr.heap.size, 2, none⟩) l1).trans y2; have p3 := (hSw.cell (p := ⟨wr.heap.size, 3, none⟩) l1).trans y3; have p4 := (hSw.cell (p := ⟨wr.heap.size, 4, none⟩) l1).trans y4; have p5 := (hSw.cell (p := ⟨wr.heap.size, 5, none⟩) l1).trans y5; have p6 := (hSw.cell (p := ⟨wr.heap.size, 6, none⟩) l1).trans y6; go_simp; try with_reducible rfl
      try simp only [Act.put, List.setIfInBounds_toArray, List.set_cons_zero, List.set_cons_succ]
      refine wpAnyF_take (i := 5) (oi := { dst := some 20, op := Go.Op.fieldAddr 66 (Go.Operand.tmp 7) 3, type := 0, pos := "stats.go:97", after := #[], guard := none }) (v := ?_) rfl (by kernel_rfl) (by kernel_rfl) (by kernel_rfl) (by kernel_rfl) (fun _ _ _ h => h) (Or.inl ⟨by rfl, ?_⟩) hS ?_
      rotate_left
      · intro w' hSw; have q0 := (hSw.cell (p := ⟨w.heap.size + 1, 0, none⟩) l0).trans x0; have p0 := (hSw.cell (p := ⟨wr.heap.size, 0, none⟩) l1).trans y0; have p1 := (hSw.cell (p := ⟨wr.heap.size, 1, none⟩) l1).trans y1; have p2 := (hSw.cell (p := ⟨wr.heap.size, 2, none⟩) l1).trans y2; have p3 := (hSw.cell (p := ⟨wr.heap.size, 3, none⟩) l1).trans y3; have p4 := (hSw.cell (p := ⟨wr.heap.size, 4, none⟩) l1).trans y4; have p5 := (hSw.cell (p := ⟨wr.heap.size, 5, none⟩) l1).trans y5; have p6 := (hSw.cell (p := ⟨wr.heap.size, 6, none⟩) l1).trans y6; go_simp; try with_reducible rfl
      try simp only [Act.put, List.setIfInBounds_toArray, List.set_cons_zero, List.set_cons_succ]
      refine wpAnyF_take (i := 6) (oi := { dst := some 21, op := Go.Op.load 2 (Go.Operand.tmp 20), type := 2, pos := "stats.go:97", after := #[{ on := 5, ground := Go.Ground.data }], guard := none }) (v := ?_) rfl (by kernel_rfl) (by kernel_rfl) (by kernel_rfl) (by kernel_rfl) (fun _ _ _ h => h) (Or.inl ⟨by rfl, ?_⟩) hS ?_
      rotate_left
      · intro w' hSw; have q0 := (hSw.cell (p := ⟨w.heap.size + 1, 0, none⟩) l0).trans x0; have p0 := (hSw.cell (p := ⟨wr.heap.size, 0, none⟩) l1).trans y0; have p1 := (hSw.cell (p := ⟨wr.heap.size, 1, none⟩) l1).trans y1; have p2 := (hSw.cell (p := ⟨wr.heap.size, 2, none⟩) l1).trans y2; have p3 := (hSw.cell (p := ⟨wr.heap.size, 3, none⟩) l1).trans y3; have p4 := (hSw.cell (p := ⟨wr.heap.size, 4, none⟩) l1).trans y4; have p5 := (hSw.cell (p := ⟨wr.heap.size, 5, none⟩) l1).trans y5; have p6 := (hSw.cell (p := ⟨wr.heap.size, 6, none⟩) l1).trans y6; go_simp; try with_reducible rfl
      try simp only [Act.put, List.setIfInBounds_toArray, List.set_cons_zero, List.set_cons_succ]
      refine wpAnyF_ready (rs := [3]) (by kernel_rfl) (by simp) ?_
      refine AllReadyF.cons (o := { dst := some 18, op := Go.Op.call { callee := Go.Callee.value (Go.Operand.tmp 16), args := #[Go.Operand.tmp 17], argTypes := #[66] }, type := 3, pos := "stats.go:97", after := #[{ on := 1, ground := Go.Ground.data }, { on := 2, ground := Go.Ground.data }], guard := none }) rfl (by rfl) (fun K hK => ?_) ?_
      · go_simp
        refine (HGS.out _).mono ?_
        rintro e w7 ⟨rfl, hb7⟩
        refine hK.out _ _ ?_ (fun hS => ?_)
        · exact hS.trans (hb7.mono hS.size)
        clear hK K
        try simp only [Act.put, List.setIfInBounds_toArray, List.set_cons_zero, List.set_cons_succ]
        refine wpAnyF_ready (rs := [4]) (by kernel_rfl) (by simp) ?_
        refine AllReadyF.cons (o := { dst := some 19, op := Go.Op.lookup 100 (Go.Operand.tmp 15) (Go.Operand.tmp 18) false, type := 2, pos := "stats.go:97", after := #[{ on := 0, ground := Go.Ground.data }, { on := 3, ground := Go.Ground.data }], guard := none }) rfl (by rfl) (fun K hK => ?_) ?_
        · have hl := (HMV.out.grow hS).look HFS.out
          rw [← HAT.out] at hl
          go_simp
          refine hK.out _ _ ?_ (fun hS => ?_)
          · exact hS
          clear hK K
          try simp only [Act.put, List.setIfInBounds_toArray, List.set_cons_zero, List.set_cons_succ]
          refine wpAnyF_take (i := 7) (oi := { dst := some 22, op := Go.Op.binOp Go.BinOp.add 2 (Go.Operand.tmp 19) (Go.Operand.tmp 21) 2, type := 2, pos := "stats.go:97", after := #[{ on := 4, ground := Go.Ground.data }, { on := 6, ground := Go.Ground.data }], guard := none }) (v := ?_) rfl (by kernel_rfl) (by kernel_rfl) (by kernel_rfl) (by kernel_rfl) (fun _ _ _ h => h) (Or.inl ⟨by rfl, ?_⟩) hS ?_
          rotate_left
          · intro w' hSw; have q0 := (hSw.cell (p := ⟨w.heap.size + 1, 0, none⟩) l0).trans x0; have p0 := (hSw.cell (p := ⟨wr.heap.size, 0, none⟩) l1).trans y0; have p1 := (hSw.cell (p := ⟨wr.heap.size, 1, none⟩) l1).trans y1; have p2 := (hSw.cell (p := ⟨wr.heap.size, 2, none⟩) l1).trans y2; have p3 := (hSw.cell (p := ⟨wr.heap.size, 3, none⟩) l1).trans y3; have p4 := (hSw.cell (p := ⟨wr.heap.size, 4, none⟩) l1).trans y4; have p5 := (hSw.cell (p := ⟨wr.heap.size, 5, none⟩) l1).trans y5; have p6 := (hSw.cell (p := ⟨wr.heap.size, 6, none⟩) l1).trans y6; go_simp; try with_reducible rfl
          try simp only [Act.put, List.setIfInBounds_toArray, List.set_cons_zero, List.set_cons_succ]
          refine wpAnyF_ready (rs := [8]) (by kernel_rfl) (by simp) ?_
          refine AllReadyF.fin (o := { dst := none, op := Go.Op.mapUpdate 100 (Go.Operand.tmp 15) (Go.Operand.tmp 18) (Go.Operand.tmp 22), type := 0, pos := "stats.go:97", after := #[{ on := 0, ground := Go.Ground.data }, { on := 3, ground := Go.Ground.data }, { on := 7, ground := Go.Ground.data }, { on := 3, ground := Go.Ground.chain }, { on := 0, ground := Go.Ground.phase }, { on := 1, ground := Go.Ground.phase }, { on := 2, ground := Go.Ground.phase }, { on := 3, ground := Go.Ground.phase }, { on := 4, ground := Go.Ground.phase }, { on := 5, ground := Go.Ground.phase }, { on := 6, ground := Go.Ground.phase }, { on := 7, ground := Go.Ground.phase }], guard := none }) rfl (by rfl) (fun K hK => ?_) ?_
          · obtain ⟨w8, hrun, hm8, hc8⟩ := (HMV.out.grow hS).put hkl HFS.out (wrap_in (at_ + sc))
            go_simp
            refine hK.out _ _ ?_
            clear hK K
            try simp only [Act.put, List.setIfInBounds_toArray, List.set_cons_zero, List.set_cons_succ]
            refine wpAnyF_done (by kernel_rfl) ?_ _
            have HX8 := Lib.hid ((HXV.out.grow hS).chg hc8 (by simp))
            have HB8 := Lib.hid ((HBV.out.trans (hS.mono HBV.out.size)).trans (hc8.below (B := w.heap.size) (Nat.le_trans HBV.out.size hS.size) (fun k hk e => by omega)))
            have HM8 := Lib.hid (show SumAt w8 w.heap.size (k + 1) (sumsM f (l.take (k + 1))) from by
              rw [HSN.out]
              unfold addS
              rw [← HFE.out, ← HAT.out]
              exact hm8)
            clear hm8 hc8 hS
            go_wp2_with fail
            go_roundw
            case rel => exact ⟨k + 1, by omega, by go_num, HX8.out, HM8.out, HB8.out⟩
            case measure => simp [intOf]; omega
          exact AllReadyF.nil
        exact AllReadyF.nil
      exact AllReadyF.nil
    · obtain rfl : k = l.length := by omega
      have HBX := Lib.hid hbx
      have HM := Lib.hid hm
      have HB := Lib.hid hb
      rw [List.take_length] at hm
      have HM := Lib.hid hm
      clear hbx hm hb
      go_wp2_with fail
      go_ret
      exact ⟨rfl, ⟨l.length, HBX.out.cell 0, HM.out⟩, HB.out, HBX.out.lt⟩
set_option maxRecDepth 100000 in
theorem ByBidder_any {l : List Sale} {v : Value} {R : Nat → Prop} {w : World} (h : Sals w R v l) (hle : l.length ≤ 1000) :
    Calls Tryz.prog 36 #[v] w fun e w' => e = .returned (byV (w.heap.size + 1)) ∧ ByAt w' (w.heap.size + 1) w.heap.size (sumsM Sale.bidder l) ∧ Below w.heap.size w w' ∧ w.heap.size + 1 < w'.heap.size := by
  obtain ⟨A, cap, rfl, hnc, hcap⟩ := h.form
  have HL := Lib.hid h
  clear h
  go_enter Tryz.func36, Tryz.ntmps36
  go_wp2_with fail
  refine (by_any HL.out hle Sale.bidder 71 (fun W s _ => nBidder_any s W) (fun s hs => (HL.out.2 s hs).bidder) (enters_of Tryz.func71 (by kernel_rfl) rfl)).mono ?_
  rintro e w1 ⟨rfl, h1, h2, h3⟩
  have H := Lib.hid (And.intro h1 (And.intro h2 h3))
  clear h1 h2 h3
  unfold byV
  go_wp2_with fail
  go_ret
  exact ⟨rfl, H.out⟩
set_option maxRecDepth 100000 in
theorem ByLot_any {l : List Sale} {v : Value} {R : Nat → Prop} {w : World} (h : Sals w R v l) (hle : l.length ≤ 1000) :
    Calls Tryz.prog 37 #[v] w fun e w' => e = .returned (byV (w.heap.size + 1)) ∧ ByAt w' (w.heap.size + 1) w.heap.size (sumsM Sale.lot l) ∧ Below w.heap.size w w' ∧ w.heap.size + 1 < w'.heap.size := by
  obtain ⟨A, cap, rfl, hnc, hcap⟩ := h.form
  have HL := Lib.hid h
  clear h
  go_enter Tryz.func37, Tryz.ntmps37
  go_wp2_with fail
  refine (by_any HL.out hle Sale.lot 72 (fun W s _ => nLot_any s W) (fun s hs => (HL.out.2 s hs).lot) (enters_of Tryz.func72 (by kernel_rfl) rfl)).mono ?_
  rintro e w1 ⟨rfl, h1, h2, h3⟩
  have H := Lib.hid (And.intro h1 (And.intro h2 h3))
  clear h1 h2 h3
  unfold byV
  go_wp2_with fail
  go_ret
  exact ⟨rfl, H.out⟩
end Go.Proofs.YtidejikolcgojaaGreat.St

/- Stats: the walk of StatsSales. (Printed by tools/gen_sxf.py.) -/
import Derived.Test.YtidejikolcgojaaGreatSxE
import Derived.Test.YtidejikolcgojaaGreatRangeB
import Derived.Test.YtidejikolcgojaaGreatSbB
namespace Go.Proofs.YtidejikolcgojaaGreat.St
open Go.RowKit Go.Shelf Go.Maps
open Go.Proofs.YtidejikolcgojaaGreat.Vb Go.Proofs.YtidejikolcgojaaGreat.Ac
attribute [local go_sem] Oper.semAt_some

theorem ownFrom_chgS {β : Type} {X : Nat → Prop} {U : World} : OwnFrom U.heap.size (fun (_ : β) W => Chg X U W) :=
  fun _ _ _ _ h hg hr => h.step (Chg.grown hg) fun k hk e => absurd hk (by have := (hr k e.symm).1; omega)
theorem eql_func_nilS (fn : Fn) (fi ca : Array Value) (W : World) : (binOp .eql 60 (.func fn fi ca) .nilFunc).run Tryz.prog W = .ok (.bool false) W := by kernel_rfl
theorem quietS {P : Program} {f : FuncId} {args : Array Value} {w : World} {n : Nat} {v : Value}
    (h : Calls P f args (w.drewN n) fun e w' => e = .returned v ∧ w' = w.drewN n) : Calls P f args (w.drewN n) fun e w'' => e = .returned v ∧ ∃ m, w'' = w.drewN m :=
  h.mono fun _ _ ⟨he, hm⟩ => ⟨he, n, hm⟩
theorem own_fromF {w : World} {base : Nat} {v : Value} {l : List Nat} (h : OwnL w base v l) : Fls w (fun b => base ≤ b) v l := by
  refine ⟨(Sl.of_own h.1).mono fun b _ hb => ?_, h.2⟩
  rcases h.1.2 with ⟨rfl, _⟩ | ⟨g, cap, cur, rfl, hg, _⟩
  · cases hb
  · injection hb with hb
    rw [← hb]
    exact hg
theorem chg_of_refl {X : Nat → Prop} {W : World} : Chg X W W := Chg.refl X W
set_option maxRecDepth 100000 in
set_option maxHeartbeats 40000000 in
theorem statsSales_walk {l : List Sale} {leave : Int} {v : Value} {R : Nat → Prop} {w : World} (h : Sals w R v l) (hlv : int64b leave) :
    Calls Tryz.prog 5 #[v, .int .i64 leave] w fun e w' => e = .returned (.bool true) ∧ Below w.heap.size w w' := by
  obtain ⟨A, cap, rfl, hnc, hcap⟩ := h.form
  have HL := Lib.hid h
  have HLV := Lib.hid hlv
  obtain ⟨U, hU⟩ : ∃ U, U = (w.alloc (.cells #[.int .i64 leave] 3)).alloc (.cells #[.bool false] 4) := ⟨_, rfl⟩
  have HBU := Lib.hid (show Below w.heap.size w U by rw [hU]; exact ((Below.refl _ _).alloc (Nat.le_refl _) _).alloc (by simp) _)
  have HC3 := Lib.hid (show Blk U w.heap.size 3 #[.int .i64 leave] by rw [hU]; exact (Blk.new w _ _).alloc _)
  have HC4 := Lib.hid (show Blk U (w.heap.size + 1) 4 #[.bool false] by rw [hU]; exact Blk.new' _ _ (by simp))
  clear h hlv
  by_cases hg : 500 < l.length
  · have d1 : decide ((500 : Int) < (l.length : Int)) = true := by simp; omega
    clear hg
    refine (callsIn_wide (n := 3)).1 (callsIn_of_wp_marks Tryz.func5 rfl trivial ((wpIn_wide (n := 3)).2 ?_))
    simp only [Tryz.ntmps5, List.size_toArray, List.length_cons, List.length_nil, Nat.reduceAdd, Nat.reduceSub, Array.replicate_succ, Array.replicate_zero, List.push_toArray, List.append_toArray, List.nil_append, List.cons_append]
    go_wp2_with fail
    rw [← hU]
    clear hU
    refine (known_any _).mono ?_
    rintro e w1 ⟨rfl, hb⟩
    have HB1 := Lib.hid (HBU.out.trans (hb.mono HBU.out.size))
    have HR1 := Lib.hid (HC4.out.grow hb)
    have f4 : w1.frozen? ⟨w.heap.size + 1, 0, none⟩ = false := HR1.out.frozen 0
    have c4 : w1.cell? ⟨w.heap.size + 1, 0, none⟩ = some (.bool false) := HR1.out.cell 0
    clear hb
    go_wp2_with fail
    have hb := HR1.out.set_ 0 (.bool true)
    have hs := HB1.out.setCell (p := ⟨w.heap.size + 1, 0, none⟩) (by show w.heap.size ≤ w.heap.size + 1; omega) (.bool true)
    generalize w1.setCell ⟨w.heap.size + 1, 0, none⟩ (.bool true) = S at hb hs ⊢
    have j0 : S.cell? ⟨w.heap.size + 1, 0, none⟩ = some (.bool true) := hb.cell 0
    clear hb f4 c4
    exact ⟨_, by simp [results, Tryz.results5, go_sem, j0], rfl, hs⟩
  · have d1 : decide ((500 : Int) < (l.length : Int)) = false := by simp; omega
    have hle : l.length ≤ 1000 := by omega
    clear hg
    refine (callsIn_wide (n := 3)).1 (callsIn_of_wp_marks Tryz.func5 rfl trivial ((wpIn_wide (n := 3)).2 ?_))
    simp only [Tryz.ntmps5, List.size_toArray, List.length_cons, List.length_nil, Nat.reduceAdd, Nat.reduceSub, Array.replicate_succ, Array.replicate_zero, List.push_toArray, List.append_toArray, List.nil_append, List.cons_append]
    go_wp2_with fail
    rw [← hU]
    clear hU
    have hz1 : w.heap.size + 2 ≤ U.heap.size := by have := HC4.out.lt; omega
    refine (lentSales_any (HL.out.grow HBU.out) hle).mono ?_
    rintro e w1 ⟨g, mc, rfl, hm, hb⟩
    have HM1 := Lib.hid hm
    have HB1 := Lib.hid (HBU.out.trans (hb.mono HBU.out.size))
    have HK1 := Lib.hid hb
    clear hm hb
    go_wp2_with fail
    refine (Of_any (HM1.out.sals HL.out.2) hle).mono ?_
    rintro e w2 ⟨rfl, hb⟩
    have HK2 := Lib.hid (HK1.out.trans (hb.mono HK1.out.size))
    have hk12 := hb.size
    have HM2 := Lib.hid (HM1.out.grow hb)
    clear hb
    go_wp2_with fail
    refine (refOf_any (HL.out.grow (HBU.out.trans (HK2.out.mono HBU.out.size))) hle).mono ?_
    rintro e w3 ⟨rfl, hb⟩
    have HK3 := Lib.hid (HK2.out.trans (hb.mono HK2.out.size))
    have hk13 : w1.heap.size ≤ w3.heap.size := Nat.le_trans hk12 hb.size
    have HM3 := Lib.hid (HM2.out.grow hb)
    clear hb
    have hne : ∀ W, (binOp .neq 56 (.agg (ofV l)) (.agg (ofV l))).run Tryz.prog W = .ok (.bool false) W := fun W => by simp [ofV, tak, go_sem]
    go_wp2_with fail
    refine (ByBidder_any (HM3.out.sals HL.out.2) hle).mono ?_
    rintro e w4 ⟨rfl, hby, hb, hz4⟩
    obtain ⟨n1, hg1, hs1⟩ := hby
    have HK4 := Lib.hid (HK3.out.trans (hb.mono HK3.out.size))
    have HM4 := Lib.hid (HM3.out.grow hb)
    have HG1 := Lib.hid hg1
    have HS1 := Lib.hid hs1
    clear hb hg1 hs1
    unfold byV
    go_wp2_with fail
    refine (ByLot_any (HM4.out.sals HL.out.2) hle).mono ?_
    rintro e w5 ⟨rfl, hby, hb, hz5⟩
    obtain ⟨n2, hg2, hs2⟩ := hby
    have HK5 := Lib.hid (HK4.out.trans (hb.mono HK4.out.size))
    have HM5 := Lib.hid (HM4.out.grow hb)
    replace HG1 := Lib.hid ((hb.cell (p := ⟨w3.heap.size + 1, 0, none⟩) hz4).trans HG1.out)
    replace HS1 := Lib.hid (HS1.out.grow hb)
    have HG2 := Lib.hid hg2
    have HS2 := Lib.hid hs2
    clear hb hg2 hs2
    unfold byV
    have hnil := eql_func_nilS
    go_wp2_with fail
    refine (Coins_any (HM5.out.sals HL.out.2) hle).mono ?_
    rintro e w6 ⟨AC, cc, rfl, ho, hb⟩
    have HCO := Lib.hid ho
    have HK6 := Lib.hid (HK5.out.trans (hb.mono HK5.out.size))
    have HM6 := Lib.hid (HM5.out.grow hb)
    replace HG1 := Lib.hid ((hb.cell (p := ⟨w3.heap.size + 1, 0, none⟩) (World.block_lt_of_cell? w5 _ HG1.out)).trans HG1.out)
    replace HS1 := Lib.hid (HS1.out.grow hb)
    replace HG2 := Lib.hid ((hb.cell (p := ⟨w4.heap.size + 1, 0, none⟩) (World.block_lt_of_cell? w5 _ HG2.out)).trans HG2.out)
    replace HS2 := Lib.hid (HS2.out.grow hb)
    have hk5 := hb.size
    clear ho hb
    go_wp2_with fail
    refine (Ticks_any (HM6.out.sals HL.out.2) hle).mono ?_
    rintro e w7 ⟨AT, ct, rfl, ho, hb⟩
    have HTO := Lib.hid ho
    have HK7 := Lib.hid (HK6.out.trans (hb.mono HK6.out.size))
    have HM7 := Lib.hid (HM6.out.grow hb)
    replace HCO := Lib.hid (HCO.out.grow hb)
    replace HG1 := Lib.hid ((hb.cell (p := ⟨w3.heap.size + 1, 0, none⟩) (World.block_lt_of_cell? w6 _ HG1.out)).trans HG1.out)
    replace HS1 := Lib.hid (HS1.out.grow hb)
    replace HG2 := Lib.hid ((hb.cell (p := ⟨w4.heap.size + 1, 0, none⟩) (World.block_lt_of_cell? w6 _ HG2.out)).trans HG2.out)
    replace HS2 := Lib.hid (HS2.out.grow hb)
    have hk6 := hb.size
    have hgU : U.heap.size ≤ g := HM7.out.lo
    have hg1w : g < w1.heap.size := HM1.out.lt
    have hg7 : g < w7.heap.size := HM7.out.lt
    have hk35 : w1.heap.size ≤ w3.heap.size ∧ w3.heap.size + 1 < w4.heap.size ∧ w4.heap.size + 1 < w5.heap.size := by
      have h1 := HK3.out.size
      have h2 := HM1.out.lt
      exact ⟨hk13, hz4, hz5⟩
    have HFC := Lib.hid (own_fromF HCO.out)
    have HFT := Lib.hid (own_fromF HTO.out)
    have HBW7 := Lib.hid (HBU.out.trans (HK7.out.mono HBU.out.size))
    have HC37 := Lib.hid (HC3.out.grow HK7.out)
    have HC47 := Lib.hid (HC4.out.grow HK7.out)
    clear ho hb hne hnil
    go_wp2_with fail
    go_loopw [10] (fun i wr => ∃ k : Nat, k ≤ l.length ∧ i = .int .i64 k ∧ LentC wr U.heap.size g mc l k ∧ Chg (· = g) w7 wr) (fun i _ => l.length - (intOf i).toNat)
    case atStart => exact ⟨0, Nat.zero_le _, rfl, HM7.out, Chg.refl _ _⟩
    case round =>
      obtain ⟨k, hk, rfl, hm, hc⟩ := hrel
      have HMR := Lib.hid hm
      have HCR := Lib.hid hc
      have HBR := Lib.hid (show Below w.heap.size w wr from HBW7.out.trans (hc.below HBW7.out.size (fun b hb e => by omega)))
      have hcs := hc.size
      by_cases hlt : k < l.length
      · obtain ⟨s, hs⟩ : ∃ s, l[k]? = some s := ⟨_, List.getElem?_eq_getElem hlt⟩
        have hxc : (rowS Sale.coins l)[k]? = some (floatOfInt .f64 s.coins) := by unfold rowS; rw [List.getElem?_map, hs]; rfl
        have hxt : (rowS Sale.tick l)[k]? = some (floatOfInt .f64 s.tick) := by unfold rowS; rw [List.getElem?_map, hs]; rfl
        obtain ⟨bc, oc, rfl, _, lc, q0, _⟩ := (HFC.out.keep hc.size (fun b h1 h2 => hc.block b h1 (by omega))).at_ hxc
        obtain ⟨bt, ot, rfl, _, lt', q1, _⟩ := (HFT.out.keep hc.size (fun b h1 h2 => hc.block b h1 (by omega))).at_ hxt
        obtain ⟨bq, off, rfl, _, hbq, hcl⟩ := (HL.out.grow HBR.out).at_ hs
        have hmc : ∀ i u, (scell s)[i]? = some u → wr.cell? ⟨g, k * 7 + i, none⟩ = some u := fun i u hu => hm.cell (k * 7 + i) u (by omega) (by
          have hi : i < 7 := by
            have := (List.getElem?_eq_some_iff.1 hu).1
            simpa [scell] using this
          rw [scells_append, List.getElem?_append_left (by rw [scells_length]; omega)]
          exact (scells_at l k s i hi hs).trans hu)
        have c0 := hcl 0 _ rfl
        have z0 := hmc 0 _ rfl
        have c1 := hcl 1 _ rfl
        have z1 := hmc 1 _ rfl
        have c2 := hcl 2 _ rfl
        have z2 := hmc 2 _ rfl
        have c3 := hcl 3 _ rfl
        have z3 := hmc 3 _ rfl
        have c4 := hcl 4 _ rfl
        have z4 := hmc 4 _ rfl
        have c5 := hcl 5 _ rfl
        have z5 := hmc 5 _ rfl
        have c6 := hcl 6 _ rfl
        have z6 := hmc 6 _ rfl
        have HSC := Lib.hid (show ∀ W, Calls Tryz.prog 11 #[.float .f64 (floatOfInt .f64 s.coins), .float .f64 (floatOfInt .f64 s.coins)] W fun e w' => e = .returned (.bool true) ∧ w' = W from fun W => by
          have h := same_any (isF_int s.coins) (isF_int s.coins) W
          rwa [fsame_self] at h)
        have HSTT := Lib.hid (show ∀ W, Calls Tryz.prog 11 #[.float .f64 (floatOfInt .f64 s.tick), .float .f64 (floatOfInt .f64 s.tick)] W fun e w' => e = .returned (.bool true) ∧ w' = W from fun W => by
          have h := same_any (isF_int s.tick) (isF_int s.tick) W
          rwa [fsame_self] at h)
        obtain ⟨sn, sl, sb, sc, sg, sct, st⟩ := s
        dsimp only at HSC HSTT q0 q1 c0 z0 c1 z1 c2 z2 c3 z3 c4 z4 c5 z5 c6 z6
        have e1 : (0 : Int) ≤ (k : Int) := by omega
        have e2 : (k : Int) < (l.length : Int) := by omega
        clear hs hxc hxt hcl hmc hm hc
        go_upto_region 15 with fail
        clear HFC HFT
        refine wp_region_P (· = wr.drew) [] (by kernel_rfl) rfl (fun hS => ?_)
        obtain ⟨W5, hW⟩ : ∃ W, W = wr.drew := ⟨_, rfl⟩
        rw [← hW] at hS ⊢
        have HM5 := Lib.hid (show LentC W5 U.heap.size g mc l k by rw [hW]; exact HMR.out.grow ((Below.refl _ _).drew))
        have HCR5 := Lib.hid (show Chg (· = g) w7 W5 by rw [hW]; exact HCR.out.grow ((Below.refl _ _).drew))
        have p0 : W5.cell? ⟨bc, oc + k, none⟩ = some (.float .f64 (floatOfInt .f64 sc)) := by rw [hW]; exact q0
        have p1 : W5.cell? ⟨bt, ot + k, none⟩ = some (.float .f64 (floatOfInt .f64 st)) := by rw [hW]; exact q1
        have x0 : W5.cell? ⟨bq, off + k * 7, none⟩ = some (.int .i64 sn) := by rw [hW]; exact c0
        have y0 : W5.cell? ⟨g, k * 7, none⟩ = some (.int .i64 sn) := by rw [hW]; exact z0
        have x1 : W5.cell? ⟨bq, off + k * 7 + 1, none⟩ = some (.int .i64 sl) := by rw [hW]; exact c1
        have y1 : W5.cell? ⟨g, k * 7 + 1, none⟩ = some (.int .i64 sl) := by rw [hW]; exact z1
        have x2 : W5.cell? ⟨bq, off + k * 7 + 2, none⟩ = some (.int .i64 sb) := by rw [hW]; exact c2
        have y2 : W5.cell? ⟨g, k * 7 + 2, none⟩ = some (.int .i64 sb) := by rw [hW]; exact z2
        have x3 : W5.cell? ⟨bq, off + k * 7 + 3, none⟩ = some (.int .i64 sc) := by rw [hW]; exact c3
        have y3 : W5.cell? ⟨g, k * 7 + 3, none⟩ = some (.int .i64 sc) := by rw [hW]; exact z3
        have x4 : W5.cell? ⟨bq, off + k * 7 + 4, none⟩ = some (.int .u32 sg) := by rw [hW]; exact c4
        have y4 : W5.cell? ⟨g, k * 7 + 4, none⟩ = some (.int .u32 sg) := by rw [hW]; exact z4
        have x5 : W5.cell? ⟨bq, off + k * 7 + 5, none⟩ = some (.int .i64 sct) := by rw [hW]; exact c5
        have y5 : W5.cell? ⟨g, k * 7 + 5, none⟩ = some (.int .i64 sct) := by rw [hW]; exact z5
        have x6 : W5.cell? ⟨bq, off + k * 7 + 6, none⟩ = some (.int .i64 st) := by rw [hW]; exact c6
        have y6 : W5.cell? ⟨g, k * 7 + 6, none⟩ = some (.int .i64 st) := by rw [hW]; exact z6
        clear hW q0 q1 c0 z0 c1 z1 c2 z2 c3 z3 c4 z4 c5 z5 c6 z6
        refine wpAnyF_take (i := 0) (oi := { dst := some 62, op := Go.Op.move (Go.Operand.tmp 8), type := 24, pos := "law.go:111", after := #[], guard := none }) (v := ?_) rfl (by kernel_rfl) (by kernel_rfl) (by kernel_rfl) (by kernel_rfl) (fun _ _ _ h => h) (Or.inl ⟨by rfl, ?_⟩) hS ?_
        rotate_left
        · intro w' hSw; subst hSw; go_simp; try with_reducible rfl
        try simp only [Act.put, List.setIfInBounds_toArray, List.set_cons_zero, List.set_cons_succ]
        refine wpAnyF_take (i := 1) (oi := { dst := some 63, op := Go.Op.move (Go.Operand.tmp 10), type := 3, pos := "law.go:111", after := #[], guard := none }) (v := ?_) rfl (by kernel_rfl) (by kernel_rfl) (by kernel_rfl) (by kernel_rfl) (fun _ _ _ h => h) (Or.inl ⟨by rfl, ?_⟩) hS ?_
        rotate_left
        · intro w' hSw; subst hSw; go_simp; try with_reducible rfl
        try simp only [Act.put, List.setIfInBounds_toArray, List.set_cons_zero, List.set_cons_succ]
        refine wpAnyF_take (i := 2) (oi := { dst := some 64, op := Go.Op.indexAddr 24 (Go.Operand.tmp 62) (Go.Operand.tmp 63), type := 0, pos := "law.go:111", after := #[{ on := 0, ground := Go.Ground.data }, { on := 1, ground := Go.Ground.data }], guard := none }) (v := ?_) rfl (by kernel_rfl) (by kernel_rfl) (by kernel_rfl) (by kernel_rfl) (fun _ _ _ h => h) (Or.inl ⟨by rfl, ?_⟩) hS ?_
        rotate_left
        · intro w' hSw; subst hSw; go_simp; try with_reducible rfl
        try simp only [Act.put, List.setIfInBounds_toArray, List.set_cons_zero, List.set_cons_succ]
        refine wpAnyF_take (i := 3) (oi := { dst := some 65, op := Go.Op.load 27 (Go.Operand.tmp 64), type := 27, pos := "law.go:111", after := #[{ on := 2, ground := Go.Ground.data }], guard := none }) (v := ?_) rfl (by kernel_rfl) (by kernel_rfl) (by kernel_rfl) (by kernel_rfl) (fun _ _ _ h => h) (Or.inl ⟨by rfl, ?_⟩) hS ?_
        rotate_left
        · intro w' hSw; subst hSw; go_simp; try with_reducible rfl
        try simp only [Act.put, List.setIfInBounds_toArray, List.set_cons_zero, List.set_cons_succ]
        refine wpAnyF_take (i := 4) (oi := { dst := some 66, op := Go.Op.move (Go.Operand.tmp 0), type := 53, pos := "law.go:111", after := #[], guard := none }) (v := ?_) rfl (by kernel_rfl) (by kernel_rfl) (by kernel_rfl) (by kernel_rfl) (fun _ _ _ h => h) (Or.inl ⟨by rfl, ?_⟩) hS ?_
        rotate_left
        · intro w' hSw; subst hSw; go_simp; try with_reducible rfl
        try simp only [Act.put, List.setIfInBounds_toArray, List.set_cons_zero, List.set_cons_succ]
        refine wpAnyF_take (i := 5) (oi := { dst := some 67, op := Go.Op.move (Go.Operand.tmp 10), type := 3, pos := "law.go:111", after := #[], guard := none }) (v := ?_) rfl (by kernel_rfl) (by kernel_rfl) (by kernel_rfl) (by kernel_rfl) (fun _ _ _ h => h) (Or.inl ⟨by rfl, ?_⟩) hS ?_
        rotate_left
        · intro w' hSw; subst hSw; go_simp; try with_reducible rfl
        try simp only [Act.put, List.setIfInBounds_toArray, List.set_cons_zero, List.set_cons_succ]
        refine wpAnyF_take (i := 6) (oi := { dst := some 68, op := Go.Op.indexAddr 53 (Go.Operand.tmp 66) (Go.Operand.tmp 67), type := 0, pos := "law.go:111", after := #[{ on := 4, ground := Go.Ground.data }, { on := 5, ground := Go.Ground.data }], guard := none }) (v := ?_) rfl (by kernel_rfl) (by kernel_rfl) (by kernel_rfl) (by kernel_rfl) (fun _ _ _ h => h) (Or.inl ⟨by rfl, ?_⟩) hS ?_
        rotate_left
        · intro w' hSw; subst hSw; go_simp; try with_reducible rfl
        try simp only [Act.put, List.setIfInBounds_toArray, List.set_cons_zero, List.set_cons_succ]
        refine wpAnyF_take (i := 7) (oi := { dst := some 69, op := Go.Op.fieldAddr 66 (Go.Operand.tmp 68) 3, type := 0, pos := "law.go:111", after := #[{ on := 6, ground := Go.Ground.data }], guard := none }) (v := ?_) rfl (by kernel_rfl) (by kernel_rfl) (by kernel_rfl) (by kernel_rfl) (fun _ _ _ h => h) (Or.inl ⟨by rfl, ?_⟩) hS ?_
        rotate_left
        · intro w' hSw; subst hSw; go_simp; try with_reducible rfl
        try simp only [Act.put, List.setIfInBounds_toArray, List.set_cons_zero, List.set_cons_succ]
        refine wpAnyF_take (i := 8) (oi := { dst := some 70, op := Go.Op.load 2 (Go.Operand.tmp 69), type := 2, pos := "law.go:111", after := #[{ on := 7, ground := Go.Ground.data }], guard := none }) (v := ?_) rfl (by kernel_rfl) (by kernel_rfl) (by kernel_rfl) (by kernel_rfl) (fun _ _ _ h => h) (Or.inl ⟨by rfl, ?_⟩) hS ?_
        rotate_left
        · intro w' hSw; subst hSw; go_simp; try with_reducible rfl
        try simp only [Act.put, List.setIfInBounds_toArray, List.set_cons_zero, List.set_cons_succ]
        refine wpAnyF_take (i := 9) (oi := { dst := some 71, op := Go.Op.convert 2 27 (Go.Operand.tmp 70), type := 27, pos := "law.go:111", after := #[{ on := 8, ground := Go.Ground.data }], guard := none }) (v := ?_) rfl (by kernel_rfl) (by kernel_rfl) (by kernel_rfl) (by kernel_rfl) (fun _ _ _ h => h) (Or.inl ⟨by rfl, ?_⟩) hS ?_
        rotate_left
        · intro w' hSw; subst hSw; go_simp; try with_reducible rfl
        try simp only [Act.put, List.setIfInBounds_toArray, List.set_cons_zero, List.set_cons_succ]
        refine wpAnyF_ready (rs := [10]) (by kernel_rfl) (by simp) ?_
        refine AllReadyF.cons (o := { dst := some 72, op := Go.Op.call { callee := Go.Callee.value (Go.Operand.func 11), args := #[Go.Operand.tmp 65, Go.Operand.tmp 71], argTypes := #[27, 27] }, type := 4, pos := "law.go:111", after := #[{ on := 3, ground := Go.Ground.data }, { on := 9, ground := Go.Ground.data }], guard := none }) rfl (by rfl) (fun K hK => ?_) ?_
        · go_simp
          refine (HSC.out _).mono ?_
          rintro e w8 ⟨rfl, hw8⟩
          rw [hw8]
          clear hw8
          refine hK.out _ _ ?_ (fun hS => ?_)
          · exact hS
          clear hK K
          try simp only [Act.put, List.setIfInBounds_toArray, List.set_cons_zero, List.set_cons_succ]
          refine wpAnyF_take (i := 11) (oi := { dst := some 73, op := Go.Op.unOp Go.UnOp.not 4 (Go.Operand.tmp 72), type := 4, pos := "law.go:111", after := #[{ on := 10, ground := Go.Ground.data }], guard := none }) (v := ?_) rfl (by kernel_rfl) (by kernel_rfl) (by kernel_rfl) (by kernel_rfl) (fun _ _ _ h => h) (Or.inl ⟨by rfl, ?_⟩) hS ?_
          rotate_left
          · intro w' hSw; subst hSw; go_simp; try with_reducible rfl
          try simp only [Act.put, List.setIfInBounds_toArray, List.set_cons_zero, List.set_cons_succ]
          refine wpAnyF_take (i := 12) (oi := { dst := some 74, op := Go.Op.move (Go.Operand.tmp 73), type := 4, pos := "law.go:111", after := #[{ on := 11, ground := Go.Ground.data }, { on := 10, ground := Go.Ground.chain }], guard := none }) (v := ?_) rfl (by kernel_rfl) (by kernel_rfl) (by kernel_rfl) (by kernel_rfl) (fun _ _ _ h => h) (Or.inl ⟨by rfl, ?_⟩) hS ?_
          rotate_left
          · intro w' hSw; subst hSw; go_simp; try with_reducible rfl
          try simp only [Act.put, List.setIfInBounds_toArray, List.set_cons_zero, List.set_cons_succ]
          refine wpAnyF_take (i := 13) (oi := { dst := some 75, op := Go.Op.move (Go.Operand.tmp 9), type := 24, pos := "law.go:111", after := #[{ on := 12, ground := Go.Ground.guard }], guard := some (12, false) }) (v := ?_) rfl (by kernel_rfl) (by kernel_rfl) (by kernel_rfl) (by kernel_rfl) (fun _ _ _ h => h) (Or.inl ⟨by rfl, ?_⟩) hS ?_
          rotate_left
          · intro w' hSw; subst hSw; go_simp; try with_reducible rfl
          try simp only [Act.put, List.setIfInBounds_toArray, List.set_cons_zero, List.set_cons_succ]
          refine wpAnyF_take (i := 14) (oi := { dst := some 76, op := Go.Op.move (Go.Operand.tmp 10), type := 3, pos := "law.go:111", after := #[{ on := 12, ground := Go.Ground.guard }], guard := some (12, false) }) (v := ?_) rfl (by kernel_rfl) (by kernel_rfl) (by kernel_rfl) (by kernel_rfl) (fun _ _ _ h => h) (Or.inl ⟨by rfl, ?_⟩) hS ?_
          rotate_left
          · intro w' hSw; subst hSw; go_simp; try with_reducible rfl
          try simp only [Act.put, List.setIfInBounds_toArray, List.set_cons_zero, List.set_cons_succ]
          refine wpAnyF_take (i := 15) (oi := { dst := some 77, op := Go.Op.indexAddr 24 (Go.Operand.tmp 75) (Go.Operand.tmp 76), type := 0, pos := "law.go:111", after := #[{ on := 13, ground := Go.Ground.data }, { on := 14, ground := Go.Ground.data }, { on := 12, ground := Go.Ground.guard }], guard := some (12, false) }) (v := ?_) rfl (by kernel_rfl) (by kernel_rfl) (by kernel_rfl) (by kernel_rfl) (fun _ _ _ h => h) (Or.inl ⟨by rfl, ?_⟩) hS ?_
          rotate_left
          · intro w' hSw; subst hSw; go_simp; try with_reducible rfl
          try simp only [Act.put, List.setIfInBounds_toArray, List.set_cons_zero, List.set_cons_succ]
          refine wpAnyF_take (i := 16) (oi := { dst := some 78, op := Go.Op.load 27 (Go.Operand.tmp 77), type := 27, pos := "law.go:111", after := #[{ on := 15, ground := Go.Ground.data }, { on := 12, ground := Go.Ground.guard }], guard := some (12, false) }) (v := ?_) rfl (by kernel_rfl) (by kernel_rfl) (by kernel_rfl) (by kernel_rfl) (fun _ _ _ h => h) (Or.inl ⟨by rfl, ?_⟩) hS ?_
          rotate_left
          · intro w' hSw; subst hSw; go_simp; try with_reducible rfl
          try simp only [Act.put, List.setIfInBounds_toArray, List.set_cons_zero, List.set_cons_succ]
          refine wpAnyF_take (i := 17) (oi := { dst := some 79, op := Go.Op.move (Go.Operand.tmp 0), type := 53, pos := "law.go:111", after := #[{ on := 12, ground := Go.Ground.guard }], guard := some (12, false) }) (v := ?_) rfl (by kernel_rfl) (by kernel_rfl) (by kernel_rfl) (by kernel_rfl) (fun _ _ _ h => h) (Or.inl ⟨by rfl, ?_⟩) hS ?_
          rotate_left
          · intro w' hSw; subst hSw; go_simp; try with_reducible rfl
          try simp only [Act.put, List.setIfInBounds_toArray, List.set_cons_zero, List.set_cons_succ]
          refine wpAnyF_take (i := 18) (oi := { dst := some 80, op := Go.Op.move (Go.Operand.tmp 10), type := 3, pos := "law.go:111", after := #[{ on := 12, ground := Go.Ground.guard }], guard := some (12, false) }) (v := ?_) rfl (by kernel_rfl) (by kernel_rfl) (by kernel_rfl) (by kernel_rfl) (fun _ _ _ h => h) (Or.inl ⟨by rfl, ?_⟩) hS ?_
          rotate_left
          · intro w' hSw; subst hSw; go_simp; try with_reducible rfl
          try simp only [Act.put, List.setIfInBounds_toArray, List.set_cons_zero, List.set_cons_succ]
          refine wpAnyF_take (i := 19) (oi := { dst := some 81, op := Go.Op.indexAddr 53 (Go.Operand.tmp 79) (Go.Operand.tmp 80), type := 0, pos := "law.go:111", after := #[{ on := 17, ground := Go.Ground.data }, { on := 18, ground := Go.Ground.data }, { on := 12, ground := Go.Ground.guard }], guard := some (12, false) }) (v := ?_) rfl (by kernel_rfl) (by kernel_rfl) (by kernel_rfl) (by kernel_rfl) (fun _ _ _ h => h) (Or.inl ⟨by rfl, ?_⟩) hS ?_
          rotate_left
          · intro w' hSw; subst hSw; go_simp; try with_reducible rfl
          try simp only [Act.put, List.setIfInBounds_toArray, List.set_cons_zero, List.set_cons_succ]
          refine wpAnyF_take (i := 20) (oi := { dst := some 82, op := Go.Op.fieldAddr 66 (Go.Operand.tmp 81) 6, type := 0, pos := "law.go:111", after := #[{ on := 19, ground := Go.Ground.data }, { on := 12, ground := Go.Ground.guard }], guard := some (12, false) }) (v := ?_) rfl (by kernel_rfl) (by kernel_rfl) (by kernel_rfl) (by kernel_rfl) (fun _ _ _ h => h) (Or.inl ⟨by rfl, ?_⟩) hS ?_
          rotate_left
          · intro w' hSw; subst hSw; go_simp; try with_reducible rfl
          try simp only [Act.put, List.setIfInBounds_toArray, List.set_cons_zero, List.set_cons_succ]
          refine wpAnyF_take (i := 21) (oi := { dst := some 83, op := Go.Op.load 2 (Go.Operand.tmp 82), type := 2, pos := "law.go:111", after := #[{ on := 20, ground := Go.Ground.data }, { on := 12, ground := Go.Ground.guard }], guard := some (12, false) }) (v := ?_) rfl (by kernel_rfl) (by kernel_rfl) (by kernel_rfl) (by kernel_rfl) (fun _ _ _ h => h) (Or.inl ⟨by rfl, ?_⟩) hS ?_
          rotate_left
          · intro w' hSw; subst hSw; go_simp; try with_reducible rfl
          try simp only [Act.put, List.setIfInBounds_toArray, List.set_cons_zero, List.set_cons_succ]
          refine wpAnyF_take (i := 22) (oi := { dst := some 84, op := Go.Op.convert 2 27 (Go.Operand.tmp 83), type := 27, pos := "law.go:111", after := #[{ on := 21, ground := Go.Ground.data }, { on := 12, ground := Go.Ground.guard }], guard := some (12, false) }) (v := ?_) rfl (by kernel_rfl) (by kernel_rfl) (by kernel_rfl) (by kernel_rfl) (fun _ _ _ h => h) (Or.inl ⟨by rfl, ?_⟩) hS ?_
          rotate_left
          · intro w' hSw; subst hSw; go_simp; try with_reducible rfl
          try simp only [Act.put, List.setIfInBounds_toArray, List.set_cons_zero, List.set_cons_succ]
          refine wpAnyF_ready (rs := [23]) (by kernel_rfl) (by simp) ?_
          refine AllReadyF.cons (o := { dst := some 85, op := Go.Op.call { callee := Go.Callee.value (Go.Operand.func 11), args := #[Go.Operand.tmp 78, Go.Operand.tmp 84], argTypes := #[27, 27] }, type := 4, pos := "law.go:111", after := #[{ on := 16, ground := Go.Ground.data }, { on := 22, ground := Go.Ground.data }, { on := 12, ground := Go.Ground.chain }, { on := 12, ground := Go.Ground.guard }], guard := some (12, false) }) rfl (by rfl) (fun K hK => ?_) ?_
          · go_simp
            refine (HSTT.out _).mono ?_
            rintro e w8 ⟨rfl, hw8⟩
            rw [hw8]
            clear hw8
            refine hK.out _ _ ?_ (fun hS => ?_)
            · exact hS
            clear hK K
            try simp only [Act.put, List.setIfInBounds_toArray, List.set_cons_zero, List.set_cons_succ]
            refine wpAnyF_take (i := 24) (oi := { dst := some 86, op := Go.Op.unOp Go.UnOp.not 4 (Go.Operand.tmp 85), type := 4, pos := "law.go:111", after := #[{ on := 23, ground := Go.Ground.data }, { on := 12, ground := Go.Ground.guard }], guard := some (12, false) }) (v := ?_) rfl (by kernel_rfl) (by kernel_rfl) (by kernel_rfl) (by kernel_rfl) (fun _ _ _ h => h) (Or.inl ⟨by rfl, ?_⟩) hS ?_
            rotate_left
            · intro w' hSw; subst hSw; go_simp; try with_reducible rfl
            try simp only [Act.put, List.setIfInBounds_toArray, List.set_cons_zero, List.set_cons_succ]
            refine wpAnyF_take (i := 25) (oi := { dst := some 87, op := Go.Op.pick (Go.Operand.tmp 74) (Go.Operand.const (Go.Value.bool true)) (Go.Operand.tmp 86), type := 4, pos := "law.go:111", after := #[{ on := 12, ground := Go.Ground.data }, { on := 24, ground := Go.Ground.data }], guard := none }) (v := ?_) rfl (by kernel_rfl) (by kernel_rfl) (by kernel_rfl) (by kernel_rfl) (fun _ _ _ h => h) (Or.inl ⟨by rfl, ?_⟩) hS ?_
            rotate_left
            · intro w' hSw; subst hSw; go_simp; try with_reducible rfl
            try simp only [Act.put, List.setIfInBounds_toArray, List.set_cons_zero, List.set_cons_succ]
            refine wpAnyF_take (i := 26) (oi := { dst := some 88, op := Go.Op.move (Go.Operand.tmp 87), type := 4, pos := "law.go:111", after := #[{ on := 25, ground := Go.Ground.data }, { on := 23, ground := Go.Ground.chain }], guard := none }) (v := ?_) rfl (by kernel_rfl) (by kernel_rfl) (by kernel_rfl) (by kernel_rfl) (fun _ _ _ h => h) (Or.inl ⟨by rfl, ?_⟩) hS ?_
            rotate_left
            · intro w' hSw; subst hSw; go_simp; try with_reducible rfl
            try simp only [Act.put, List.setIfInBounds_toArray, List.set_cons_zero, List.set_cons_succ]
            refine wpAnyF_take (i := 27) (oi := { dst := some 89, op := Go.Op.move (Go.Operand.tmp 5), type := 53, pos := "law.go:111", after := #[{ on := 26, ground := Go.Ground.guard }], guard := some (26, false) }) (v := ?_) rfl (by kernel_rfl) (by kernel_rfl) (by kernel_rfl) (by kernel_rfl) (fun _ _ _ h => h) (Or.inl ⟨by rfl, ?_⟩) hS ?_
            rotate_left
            · intro w' hSw; subst hSw; go_simp; try with_reducible rfl
            try simp only [Act.put, List.setIfInBounds_toArray, List.set_cons_zero, List.set_cons_succ]
            refine wpAnyF_take (i := 28) (oi := { dst := some 90, op := Go.Op.move (Go.Operand.tmp 10), type := 3, pos := "law.go:111", after := #[{ on := 26, ground := Go.Ground.guard }], guard := some (26, false) }) (v := ?_) rfl (by kernel_rfl) (by kernel_rfl) (by kernel_rfl) (by kernel_rfl) (fun _ _ _ h => h) (Or.inl ⟨by rfl, ?_⟩) hS ?_
            rotate_left
            · intro w' hSw; subst hSw; go_simp; try with_reducible rfl
            try simp only [Act.put, List.setIfInBounds_toArray, List.set_cons_zero, List.set_cons_succ]
            refine wpAnyF_take (i := 29) (oi := { dst := some 91, op := Go.Op.indexAddr 53 (Go.Operand.tmp 89) (Go.Operand.tmp 90), type := 0, pos := "law.go:111", after := #[{ on := 27, ground := Go.Ground.data }, { on := 28, ground := Go.Ground.data }, { on := 26, ground := Go.Ground.guard }], guard := some (26, false) }) (v := ?_) rfl (by kernel_rfl) (by kernel_rfl) (by kernel_rfl) (by kernel_rfl) (fun _ _ _ h => h) (Or.inl ⟨by rfl, ?_⟩) hS ?_
            rotate_left
            · intro w' hSw; subst hSw; go_simp; try with_reducible rfl
            try simp only [Act.put, List.setIfInBounds_toArray, List.set_cons_zero, List.set_cons_succ]
            refine wpAnyF_take (i := 30) (oi := { dst := some 92, op := Go.Op.load 66 (Go.Operand.tmp 91), type := 66, pos := "law.go:111", after := #[{ on := 29, ground := Go.Ground.data }, { on := 26, ground := Go.Ground.guard }], guard := some (26, false) }) (v := ?_) rfl (by kernel_rfl) (by kernel_rfl) (by kernel_rfl) (by kernel_rfl) (fun _ _ _ h => h) (Or.inl ⟨by rfl, ?_⟩) hS ?_
            rotate_left
            · intro w' hSw; subst hSw; go_simp; try with_reducible rfl
            try simp only [Act.put, List.setIfInBounds_toArray, List.set_cons_zero, List.set_cons_succ]
            refine wpAnyF_take (i := 31) (oi := { dst := some 93, op := Go.Op.move (Go.Operand.tmp 0), type := 53, pos := "law.go:111", after := #[{ on := 26, ground := Go.Ground.guard }], guard := some (26, false) }) (v := ?_) rfl (by kernel_rfl) (by kernel_rfl) (by kernel_rfl) (by kernel_rfl) (fun _ _ _ h => h) (Or.inl ⟨by rfl, ?_⟩) hS ?_
            rotate_left
            · intro w' hSw; subst hSw; go_simp; try with_reducible rfl
            try simp only [Act.put, List.setIfInBounds_toArray, List.set_cons_zero, List.set_cons_succ]
            refine wpAnyF_take (i := 32) (oi := { dst := some 94, op := Go.Op.move (Go.Operand.tmp 10), type := 3, pos := "law.go:111", after := #[{ on := 26, ground := Go.Ground.guard }], guard := some (26, false) }) (v := ?_) rfl (by kernel_rfl) (by kernel_rfl) (by kernel_rfl) (by kernel_rfl) (fun _ _ _ h => h) (Or.inl ⟨by rfl, ?_⟩) hS ?_
            rotate_left
            · intro w' hSw; subst hSw; go_simp; try with_reducible rfl
            try simp only [Act.put, List.setIfInBounds_toArray, List.set_cons_zero, List.set_cons_succ]
            refine wpAnyF_take (i := 33) (oi := { dst := some 95, op := Go.Op.indexAddr 53 (Go.Operand.tmp 93) (Go.Operand.tmp 94), type := 0, pos := "law.go:111", after := #[{ on := 31, ground := Go.Ground.data }, { on := 32, ground := Go.Ground.data }, { on := 26, ground := Go.Ground.guard }], guard := some (26, false) }) (v := ?_) rfl (by kernel_rfl) (by kernel_rfl) (by kernel_rfl) (by kernel_rfl) (fun _ _ _ h => h) (Or.inl ⟨by rfl, ?_⟩) hS ?_
            rotate_left
            · intro w' hSw; subst hSw; go_simp; try with_reducible rfl
            try simp only [Act.put, List.setIfInBounds_toArray, List.set_cons_zero, List.set_cons_succ]
            refine wpAnyF_take (i := 34) (oi := { dst := some 96, op := Go.Op.load 66 (Go.Operand.tmp 95), type := 66, pos := "law.go:111", after := #[{ on := 33, ground := Go.Ground.data }, { on := 26, ground := Go.Ground.guard }], guard := some (26, false) }) (v := ?_) rfl (by kernel_rfl) (by kernel_rfl) (by kernel_rfl) (by kernel_rfl) (fun _ _ _ h => h) (Or.inl ⟨by rfl, ?_⟩) hS ?_
            rotate_left
            · intro w' hSw; subst hSw; go_simp; try with_reducible rfl
            try simp only [Act.put, List.setIfInBounds_toArray, List.set_cons_zero, List.set_cons_succ]
            refine wpAnyF_take (i := 35) (oi := { dst := some 97, op := Go.Op.binOp Go.BinOp.neq 66 (Go.Operand.tmp 92) (Go.Operand.tmp 96) 66, type := 4, pos := "law.go:111", after := #[{ on := 30, ground := Go.Ground.data }, { on := 34, ground := Go.Ground.data }, { on := 26, ground := Go.Ground.guard }], guard := some (26, false) }) (v := ?_) rfl (by kernel_rfl) (by kernel_rfl) (by kernel_rfl) (by kernel_rfl) (fun _ _ _ h => h) (Or.inl ⟨by rfl, ?_⟩) hS ?_
            rotate_left
            · intro w' hSw; subst hSw; go_simp; try with_reducible rfl
            try simp only [Act.put, List.setIfInBounds_toArray, List.set_cons_zero, List.set_cons_succ]
            refine wpAnyF_take (i := 36) (oi := { dst := some 98, op := Go.Op.pick (Go.Operand.tmp 88) (Go.Operand.const (Go.Value.bool true)) (Go.Operand.tmp 97), type := 4, pos := "law.go:111", after := #[{ on := 26, ground := Go.Ground.data }, { on := 35, ground := Go.Ground.data }], guard := none }) (v := ?_) rfl (by kernel_rfl) (by kernel_rfl) (by kernel_rfl) (by kernel_rfl) (fun _ _ _ h => h) (Or.inl ⟨by rfl, ?_⟩) hS ?_
            rotate_left
            · intro w' hSw; subst hSw; go_simp; try with_reducible rfl
            try simp only [Act.put, List.setIfInBounds_toArray, List.set_cons_zero, List.set_cons_succ]
            refine wpAnyF_done (by kernel_rfl) (noPanic_normal ?_) _
            clear hS p0 p1 x0 x1 x2 x3 x4 x5 x6
            have f0 := HM5.out.fro (k * 7)
            have f1 := HM5.out.fro (k * 7 + 1)
            have f2 := HM5.out.fro (k * 7 + 2)
            have f3 := HM5.out.fro (k * 7 + 3)
            have f4 := HM5.out.fro (k * 7 + 4)
            have f5 := HM5.out.fro (k * 7 + 5)
            have f6 := HM5.out.fro (k * 7 + 6)
            go_wp2_with fail
            go_roundw
            case rel => exact ⟨k + 1, by omega, by go_num, ((((((((HM5.out.mono (Nat.le_succ k)).set (by omega) _).set (by omega) _).set (by omega) _).set (by omega) _).set (by omega) _).set (by omega) _).set (by omega) _), (((((((HCR5.out.trans (Chg.set _ ⟨g, k * 7, none⟩ _)).trans (Chg.set _ ⟨g, k * 7 + 1, none⟩ _)).trans (Chg.set _ ⟨g, k * 7 + 2, none⟩ _)).trans (Chg.set _ ⟨g, k * 7 + 3, none⟩ _)).trans (Chg.set _ ⟨g, k * 7 + 4, none⟩ _)).trans (Chg.set _ ⟨g, k * 7 + 5, none⟩ _)).trans (Chg.set _ ⟨g, k * 7 + 6, none⟩ _))⟩
            case measure => simp [intOf]; omega
          exact AllReadyF.nil
        exact AllReadyF.nil
      · obtain rfl : k = l.length := by omega
        have hgne : ∀ b, b ≠ g → b < w7.heap.size → wr.heap[b]? = w7.heap[b]? := fun b h1 h2 => hc.block b h2 h1
        have hk37 : w4.heap.size + 1 < w7.heap.size := by omega
        replace HG1 := Lib.hid ((World.cell?_of_block (a := ⟨w3.heap.size + 1, 0, none⟩) (hgne (w3.heap.size + 1) (by omega) (by omega))).trans HG1.out)
        replace HG2 := Lib.hid ((World.cell?_of_block (a := ⟨w4.heap.size + 1, 0, none⟩) (hgne (w4.heap.size + 1) (by omega) (by omega))).trans HG2.out)
        replace HS1 := Lib.hid (HS1.out.same (hgne w3.heap.size (by omega) (by omega)))
        replace HS2 := Lib.hid (HS2.out.same (hgne w4.heap.size (by omega) (by omega)))
        have HC38 := Lib.hid (HC37.out.chg hc (by omega))
        have HC48 := Lib.hid (HC47.out.chg hc (by omega))
        obtain ⟨a1, a2, a3⟩ := sumsM_all Sale.bidder l (fun s hs => (HL.out.2 s hs).bidder)
        obtain ⟨a4, a5, a6⟩ := sumsM_all Sale.lot l (fun s hs => (HL.out.2 s hs).lot)
        have HQ1 := Lib.hid (And.intro a1 (And.intro a2 a3))
        have HQ2 := Lib.hid (And.intro a4 (And.intro a5 a6))
        clear hm hc hgne a1 a2 a3 a4 a5 a6 HFC HFT
        go_wp2_with fail
        refine (refByBidder_any (HL.out.grow HBR.out) hle).mono ?_
        rintro e w9 ⟨v1, rfl, ho, hb⟩
        have HP1 := Lib.hid ho
        have HB9 := Lib.hid (HBR.out.trans (hb.mono HBR.out.size))
        have HK9 := Lib.hid hb
        clear ho hb
        go_wp2_with fail
        refine (refByLot_any (HL.out.grow HB9.out) hle).mono ?_
        rintro e w10 ⟨v2, rfl, ho, hb⟩
        have HP2 := Lib.hid ho
        replace HP1 := Lib.hid (HP1.out.grow hb)
        have HB10 := Lib.hid (HB9.out.trans (hb.mono HB9.out.size))
        have HK10 := Lib.hid (HK9.out.trans (hb.mono HK9.out.size))
        clear ho hb
        obtain ⟨W8, hW⟩ : ∃ W, W = w10.alloc (.cells #[v1, v2] 69) := ⟨_, rfl⟩
        have hbw : Below w10.heap.size w10 W8 := by rw [hW]; exact (Below.refl _ _).alloc (Nat.le_refl _) _
        have hK : Below wr.heap.size wr W8 := HK10.out.trans (hbw.mono HK10.out.size)
        have HCW := Lib.hid (show Blk W8 w10.heap.size 69 #[v1, v2] by rw [hW]; exact Blk.new w10 _ _)
        replace HP1 := Lib.hid (HP1.out.grow hbw)
        replace HP2 := Lib.hid (HP2.out.grow hbw)
        have HBW := Lib.hid (HB10.out.trans (hbw.mono HB10.out.size))
        replace HG1 := Lib.hid ((hK.cell (p := ⟨w3.heap.size + 1, 0, none⟩) (World.block_lt_of_cell? wr _ HG1.out)).trans HG1.out)
        replace HG2 := Lib.hid ((hK.cell (p := ⟨w4.heap.size + 1, 0, none⟩) (World.block_lt_of_cell? wr _ HG2.out)).trans HG2.out)
        replace HS1 := Lib.hid (HS1.out.grow hK)
        replace HS2 := Lib.hid (HS2.out.grow hK)
        have HC39 := Lib.hid (HC38.out.grow hK)
        have HC49 := Lib.hid (HC48.out.grow hK)
        have HLM := Lib.hid (HMR.out.grow hK)
        obtain ⟨⟨B1, k1, rfl⟩, hq1, hn1⟩ := HP1.out
        obtain ⟨⟨B2, k2, rfl⟩, hq2, hn2⟩ := HP2.out
        have HO1 := Lib.hid hq1
        have HO2 := Lib.hid hq2
        obtain ⟨M1, hM1⟩ : ∃ M, M = sumsM Sale.bidder l := ⟨_, rfl⟩
        obtain ⟨M2, hM2⟩ : ∃ M, M = sumsM Sale.lot l := ⟨_, rfl⟩
        rw [← hM1] at HQ1 HO1 HS1 HCW hW
        rw [← hM2] at HQ2 HO2 HS2 HCW hW
        rw [← hM1, ← hM2]
        obtain ⟨gm1, hgm1⟩ : ∃ z, z = w3.heap.size := ⟨_, rfl⟩
        obtain ⟨gm2, hgm2⟩ : ∃ z, z = w4.heap.size := ⟨_, rfl⟩
        rw [← hgm1] at HG1 HS1 ⊢
        rw [← hgm2] at HG2 HS2 ⊢
        obtain ⟨b11, hb11⟩ : ∃ z, z = w10.heap.size := ⟨_, rfl⟩
        rw [← hb11] at HCW
        have HB11 := Lib.hid hb11
        have hw3 : w.heap.size + 1 < W8.heap.size := HC49.out.lt
        have H8S := Lib.hid (show W8.heap.size = b11 + 1 by rw [hW, hb11]; simp)
        clear hbw hK HP1 HP2 hq1 hn1 hq2 hn2 hM1 hM2 hgm1 hgm2 hb11
        clear HM1 HB1 HK1 HM2 HK2 HM3 HK3 HM4 HK4 HM5 HK5 HCO HM6 HK6 HTO HM7 HK7 HC37 HC47 HC38 HC48 HK9 HB9 HB10 HK10 HMR HCR HBR hk12 hk13 hk5 hk6 hk35 hk37 hz1 hz4 hz5 hgU hg1w hg7 hcs hlt hk
        go_wp2_with fail
        try rw [← HB11.out]
        rw [← hW]
        clear hW
        obtain ⟨V0, hV⟩ : ∃ W, W = W8.alloc (.cells #[.int .i64 0] 3) := ⟨_, rfl⟩
        have HV0 := Lib.hid (show Below W8.heap.size W8 V0 by rw [hV]; exact (Below.refl _ _).alloc (Nat.le_refl _) _)
        obtain ⟨bt0, hbt⟩ : ∃ z, z = b11 + 1 := ⟨_, rfl⟩
        have HT0 := Lib.hid (show Blk V0 bt0 3 #[.int .i64 0] by rw [hV]; exact Blk.new' _ _ (by rw [hbt, H8S.out]))
        have h8s := H8S.out
        have hbt0 : W8.heap.size ≤ bt0 := by omega
        have hb11l : b11 < W8.heap.size := HCW.out.lt
        rw [← hV, ← hbt]
        clear hV hbt
        refine wp_loop_rounds 3 ?_
        rw [rounds_succ]

        have t0 : V0.cell? ⟨bt0, 0, none⟩ = some (.int .i64 0) := HT0.out.cell 0
        obtain ⟨Y0, hY⟩ : ∃ W, W = (V0.alloc (.cells #[.int .i64 0] 3)).alloc (.cells #[.int .i64 0] 3) := ⟨_, rfl⟩
        have hbY : Below V0.heap.size V0 Y0 := by rw [hY]; exact ((Below.refl _ _).alloc (Nat.le_refl _) _).alloc (by simp) _
        have HAa0 := Lib.hid (show Blk Y0 V0.heap.size 3 #[.int .i64 0] by rw [hY]; exact (Blk.new V0 _ _).alloc _)
        have HAb0 := Lib.hid (show Blk Y0 (V0.heap.size + 1) 3 #[.int .i64 0] by rw [hY]; exact Blk.new' _ _ (by simp))
        have HVY0 := Lib.hid (HV0.out.trans (hbY.mono HV0.out.size))
        have HTY0 := Lib.hid (HT0.out.grow hbY)
        have hzs0 : W8.heap.size ≤ V0.heap.size := HV0.out.size
        have hzt0 : bt0 < V0.heap.size := HT0.out.lt
        have HYY0 := Lib.hid hY
        have hzy0 := hbY.size
        have hzb0 : V0.heap.size + 1 < Y0.heap.size := HAb0.out.lt
        clear hbY hY
        go_wp2_with fail
        clear t0
        rw [show (V0.alloc (.cells #[.int .i64 0] 3)).alloc (.cells #[.int .i64 0] 3) = Y0 from HYY0.out.symm]

        have HORa0 := Lib.hid (own_grow HO1.out HVY0.out)
        have HCWRa0 := Lib.hid (HCW.out.grow HVY0.out)
        have HLRa0 := Lib.hid (HC39.out.grow HVY0.out)
        have HGRa0 := Lib.hid ((HVY0.out.cell (p := ⟨gm1 + 1, 0, none⟩) (World.block_lt_of_cell? W8 _ HG1.out)).trans HG1.out)
        have HSRa0 := Lib.hid (HS1.out.grow HVY0.out)
        have hg8a0 : gm1 + 1 < W8.heap.size := World.block_lt_of_cell? W8 _ HG1.out
        have hgsa0 : gm1 < Y0.heap.size ∧ gm1 + 1 < Y0.heap.size := ⟨HSRa0.out.lt, World.block_lt_of_cell? Y0 _ HGRa0.out⟩
        have HTRa0 := Lib.hid HTY0.out

        refine (wpIn_wide (n := 3)).1 ?_
        refine' wpIn_rangeFunc_XB (F := Fence.wide) (n := 3) rfl (by omega) (gf := 89) (lb := #[.pointer (some ⟨gm1 + 1, 0, none⟩)]) rfl trivial (enters_of Tryz.func89 (by kernel_rfl) rfl)
          (by1_stops 2 (by omega) (gm1 + 1) gm1 n1 M1 HQ1.out.1 (by have := HQ1.out.2.1; omega) (fun p hp => (HQ1.out.2.2 p hp).1) Y0 HGRa0.out HSRa0.out) (by rintro b (rfl | rfl); exact hgsa0.2; exact hgsa0.1) (Below.refl _ _) (fun _ => rfl)
          (fun _ pre W => ¬ (1 ≤ leave ∧ leave ≤ (pre.length : Int)) ∧ Chg (· = V0.heap.size) Y0 W ∧ Blk W (V0.heap.size) 3 #[.int .i64 pre.length])
          4 (fun _ pre W => (1 ≤ leave ∧ leave = (pre.length : Int)) ∧ Chg (· = V0.heap.size) Y0 W ∧ Blk W (V0.heap.size) 3 #[.int .i64 pre.length])
          (fun _ => OwnFrom.and (fun _ _ _ _ h _ _ => h) (OwnFrom.and ownFrom_chgS (Own.from (fun _ _ _ _ h hg hr => h.cells hg hr) _)))
          (fun _ => OwnFrom.and (fun _ _ _ _ h _ _ => h) (OwnFrom.and ownFrom_chgS (Own.from (fun _ _ _ _ h hg hr => h.cells hg hr) _)))
          (fun W0 hW0 => ⟨by simp; omega, Chg.of _ hW0, HAa0.out.grow hW0⟩) _ ?assigna0 ?bodya0 (fun _ _ h => h) ?resta0
        case assigna0 =>
          intro l' x W K hK
          gi_wp2
          exact hK
        case bodya0 =>
          rintro hi l' pre x W hhi ⟨hnl, hC, hN⟩ hsp hlen
          have hat : M1[pre.length]? = some x := by
            obtain ⟨r, hr⟩ := hsp
            rw [← hr, List.append_assoc, List.getElem?_append_right (Nat.le_refl _), Nat.sub_self]
            rfl
          obtain ⟨gq, cq, hA, hlq, hgq8⟩ := World.ownsRow.form HO1.out (by omega)
          injection hA with hA _ hc
          subst hA hc
          have hgq : gq < Y0.heap.size := by omega
          have hsW := hC.size
          have q0 : W.cell? ⟨gq, pre.length * 2, none⟩ = some (.int .i64 x.1) := (World.cell?_of_block (a := ⟨gq, pre.length * 2, none⟩) (hC.block gq hgq (by omega))).trans ((HORa0.out.cellAt (pre.length * 2) (by omega)).trans (pcells_fst M1 _ x hat))
          have q1 : W.cell? ⟨gq, pre.length * 2 + 1, none⟩ = some (.int .i64 x.2) := (World.cell?_of_block (a := ⟨gq, pre.length * 2 + 1, none⟩) (hC.block gq hgq (by omega))).trans ((HORa0.out.cellAt (pre.length * 2 + 1) (by omega)).trans (pcells_snd M1 _ x hat))
          have n0 : W.cell? ⟨V0.heap.size, 0, none⟩ = some (.int .i64 (pre.length : Int)) := hN.cell 0
          have n1 : W.frozen? ⟨V0.heap.size, 0, none⟩ = false := hN.frozen 0
          have s0 : W.cell? ⟨b11, 0, none⟩ = some (.slice (some ⟨gq, 0, none⟩) M1.length k1) := (HCWRa0.out.chg hC (by omega)).cell 0
          have t0 : W.cell? ⟨bt0, 0, none⟩ = some (.int .i64 0) := (HTRa0.out.chg hC (by omega)).cell 0
          have lv : W.cell? ⟨w.heap.size, 0, none⟩ = some (.int .i64 leave) := (HLRa0.out.chg hC (by omega)).cell 0
          obtain ⟨xa, xb⟩ := x
          simp only at q0 q1
          have e0 : (0 : Int) ≤ (pre.length : Int) := by omega
          have e1 : (pre.length : Int) < (M1.length : Int) := by omega
          have e2 : decide ((pre.length : Int) ≥ (M1.length : Int)) = false := by simp; omega
          have e3 : IntKind.i64.wrap ((pre.length : Int) + 1) = (pre.length : Int) + 1 := IntWalk.i64_in _ (by have := HQ1.out.2.1; omega)
          have HN := Lib.hid hN
          have HC := Lib.hid hC
          clear hat hsp hC hN
          dsimp only
          by_cases hst : (pre.length : Int) + 1 = leave
          · have d1 : ((pre.length : Int) + 1 == leave) = true := by simpa using hst
            have HST := Lib.hid hst
            clear hst hnl
            gi_wp2
            exact ⟨KeepsOthers.setCell _ _ _, rfl, ⟨by have := HST.out; omega, by have := HST.out; rw [List.length_append, List.length_singleton]; omega⟩, (HC.out).step (Chg.set W ⟨V0.heap.size, 0, none⟩ _) (fun _ _ e => e), by rw [List.length_append]; exact HN.out.set_ 0 (.int .i64 ((pre.length : Int) + 1))⟩
          · have d1 : ((pre.length : Int) + 1 == leave) = false := by simpa using hst
            have HST := Lib.hid hst
            have HNL := Lib.hid hnl
            clear hst hnl
            gi_wp2
            exact ⟨KeepsOthers.setCell _ _ _, KeepX.set W (.inl (by show V0.heap.size < _; omega)) (by show ¬ (V0.heap.size = _ ∨ V0.heap.size = _); omega) _, by have h1 := HST.out; have h2 := HNL.out; rw [List.length_append, List.length_singleton]; omega, (HC.out).step (Chg.set W ⟨V0.heap.size, 0, none⟩ _) (fun _ _ e => e), by rw [List.length_append]; exact HN.out.set_ 0 (.int .i64 ((pre.length : Int) + 1))⟩
        case resta0 =>
          intro hi Da0 pre W hDa0 hor hKa0
          obtain ⟨av, hav, hC, hN⟩ : ∃ av : Int, ((1 ≤ leave → av = min leave (M1.length : Int)) ∧ (leave < 1 → av = (M1.length : Int))) ∧ Chg (· = V0.heap.size) Y0 W ∧ Blk W (V0.heap.size) 3 #[.int .i64 av] := by
            rcases hor with ⟨rfl, h1, h2, h3⟩ | ⟨hp, h1, h2, h3⟩
            · exact ⟨_, ⟨fun h => by omega, fun _ => rfl⟩, h2, h3⟩
            · have := hp.length_le
              exact ⟨_, ⟨fun h => by omega, fun h => by omega⟩, h2, h3⟩
          obtain ⟨Xa0, hX⟩ : ∃ z, z = W := ⟨_, rfl⟩
          rw [← hX] at hC hN hKa0 ⊢
          obtain ⟨ava0, hav0⟩ : ∃ z, z = av := ⟨_, rfl⟩
          rw [← hav0] at hN hav
          clear hor hX hav0
          have HVXa0 := Lib.hid (HVY0.out.trans (hC.below (B := W8.heap.size) HVY0.out.size (fun k hk e => by omega)))
          have HTRb0 := Lib.hid (HTRa0.out.chg hC (by omega))
          have HBX0 := Lib.hid (HAb0.out.chg hC (by omega))
          have HNa0 := Lib.hid hN
          have HAVa0 := Lib.hid hav
          have HDa0 := Lib.hid hKa0
          have hxa0 := hC.size
          have hda0 := (Array.getElem?_eq_some_iff.1 hKa0).1
          have HAb0 := Lib.hid HBX0.out
          clear hC hN hav hKa0
          go_wp2_with fail

          have HORb0 := Lib.hid (own_grow HO2.out HVXa0.out)
          have HCWRb0 := Lib.hid (HCW.out.grow HVXa0.out)
          have HLRb0 := Lib.hid (HC39.out.grow HVXa0.out)
          have HGRb0 := Lib.hid ((HVXa0.out.cell (p := ⟨gm2 + 1, 0, none⟩) (World.block_lt_of_cell? W8 _ HG2.out)).trans HG2.out)
          have HSRb0 := Lib.hid (HS2.out.grow HVXa0.out)
          have hg8b0 : gm2 + 1 < W8.heap.size := World.block_lt_of_cell? W8 _ HG2.out
          have hgsb0 : gm2 < Xa0.heap.size ∧ gm2 + 1 < Xa0.heap.size := ⟨HSRb0.out.lt, World.block_lt_of_cell? Xa0 _ HGRb0.out⟩

          refine (wpIn_wide (n := 3)).1 ?_
          refine' wpIn_rangeFunc_XB (F := Fence.wide) (n := 3) rfl (by omega) (gf := 89) (lb := #[.pointer (some ⟨gm2 + 1, 0, none⟩)]) rfl trivial (enters_of Tryz.func89 (by kernel_rfl) rfl)
            (by1_stops 2 (by omega) (gm2 + 1) gm2 n2 M2 HQ2.out.1 (by have := HQ2.out.2.1; omega) (fun p hp => (HQ2.out.2.2 p hp).1) Xa0 HGRb0.out HSRb0.out) (by rintro b (rfl | rfl); exact hgsb0.2; exact hgsb0.1) (Below.refl _ _) (fun _ => rfl)
            (fun _ pre W => ¬ (1 ≤ leave ∧ leave ≤ (pre.length : Int)) ∧ Chg (· = V0.heap.size + 1) Xa0 W ∧ Blk W (V0.heap.size + 1) 3 #[.int .i64 pre.length])
            6 (fun _ pre W => (1 ≤ leave ∧ leave = (pre.length : Int)) ∧ Chg (· = V0.heap.size + 1) Xa0 W ∧ Blk W (V0.heap.size + 1) 3 #[.int .i64 pre.length])
            (fun _ => OwnFrom.and (fun _ _ _ _ h _ _ => h) (OwnFrom.and ownFrom_chgS (Own.from (fun _ _ _ _ h hg hr => h.cells hg hr) _)))
            (fun _ => OwnFrom.and (fun _ _ _ _ h _ _ => h) (OwnFrom.and ownFrom_chgS (Own.from (fun _ _ _ _ h hg hr => h.cells hg hr) _)))
            (fun W0 hW0 => ⟨by simp; omega, Chg.of _ hW0, HAb0.out.grow hW0⟩) _ ?assignb0 ?bodyb0 (fun _ _ h => h) ?restb0
          case assignb0 =>
            intro l' x W K hK
            gi_wp2
            exact hK
          case bodyb0 =>
            rintro hi l' pre x W hhi ⟨hnl, hC, hN⟩ hsp hlen
            have hat : M2[pre.length]? = some x := by
              obtain ⟨r, hr⟩ := hsp
              rw [← hr, List.append_assoc, List.getElem?_append_right (Nat.le_refl _), Nat.sub_self]
              rfl
            obtain ⟨gq, cq, hA, hlq, hgq8⟩ := World.ownsRow.form HO2.out (by omega)
            injection hA with hA _ hc
            subst hA hc
            have hgq : gq < Xa0.heap.size := by omega
            have hsW := hC.size
            have q0 : W.cell? ⟨gq, pre.length * 2, none⟩ = some (.int .i64 x.1) := (World.cell?_of_block (a := ⟨gq, pre.length * 2, none⟩) (hC.block gq hgq (by omega))).trans ((HORb0.out.cellAt (pre.length * 2) (by omega)).trans (pcells_fst M2 _ x hat))
            have q1 : W.cell? ⟨gq, pre.length * 2 + 1, none⟩ = some (.int .i64 x.2) := (World.cell?_of_block (a := ⟨gq, pre.length * 2 + 1, none⟩) (hC.block gq hgq (by omega))).trans ((HORb0.out.cellAt (pre.length * 2 + 1) (by omega)).trans (pcells_snd M2 _ x hat))
            have n0 : W.cell? ⟨V0.heap.size + 1, 0, none⟩ = some (.int .i64 (pre.length : Int)) := hN.cell 0
            have n1 : W.frozen? ⟨V0.heap.size + 1, 0, none⟩ = false := hN.frozen 0
            have s0 : W.cell? ⟨b11, 1, none⟩ = some (.slice (some ⟨gq, 0, none⟩) M2.length k2) := (HCWRb0.out.chg hC (by omega)).cell 1
            have t0 : W.cell? ⟨bt0, 0, none⟩ = some (.int .i64 0) := (HTRb0.out.chg hC (by omega)).cell 0
            have lv : W.cell? ⟨w.heap.size, 0, none⟩ = some (.int .i64 leave) := (HLRb0.out.chg hC (by omega)).cell 0
            obtain ⟨xa, xb⟩ := x
            simp only at q0 q1
            have e0 : (0 : Int) ≤ (pre.length : Int) := by omega
            have e1 : (pre.length : Int) < (M2.length : Int) := by omega
            have e2 : decide ((pre.length : Int) ≥ (M2.length : Int)) = false := by simp; omega
            have e3 : IntKind.i64.wrap ((pre.length : Int) + 1) = (pre.length : Int) + 1 := IntWalk.i64_in _ (by have := HQ2.out.2.1; omega)
            have HN := Lib.hid hN
            have HC := Lib.hid hC
            clear hat hsp hC hN
            dsimp only
            by_cases hst : (pre.length : Int) + 1 = leave
            · have d1 : ((pre.length : Int) + 1 == leave) = true := by simpa using hst
              have HST := Lib.hid hst
              clear hst hnl
              gi_wp2
              exact ⟨KeepsOthers.setCell _ _ _, rfl, ⟨by have := HST.out; omega, by have := HST.out; rw [List.length_append, List.length_singleton]; omega⟩, (HC.out).step (Chg.set W ⟨V0.heap.size + 1, 0, none⟩ _) (fun _ _ e => e), by rw [List.length_append]; exact HN.out.set_ 0 (.int .i64 ((pre.length : Int) + 1))⟩
            · have d1 : ((pre.length : Int) + 1 == leave) = false := by simpa using hst
              have HST := Lib.hid hst
              have HNL := Lib.hid hnl
              clear hst hnl
              gi_wp2
              exact ⟨KeepsOthers.setCell _ _ _, KeepX.set W (.inl (by show V0.heap.size + 1 < _; omega)) (by show ¬ (V0.heap.size + 1 = _ ∨ V0.heap.size + 1 = _); omega) _, by have h1 := HST.out; have h2 := HNL.out; rw [List.length_append, List.length_singleton]; omega, (HC.out).step (Chg.set W ⟨V0.heap.size + 1, 0, none⟩ _) (fun _ _ e => e), by rw [List.length_append]; exact HN.out.set_ 0 (.int .i64 ((pre.length : Int) + 1))⟩
          case restb0 =>
            intro hi Db0 pre W hDb0 hor hKb0
            obtain ⟨av, hav, hC, hN⟩ : ∃ av : Int, ((1 ≤ leave → av = min leave (M2.length : Int)) ∧ (leave < 1 → av = (M2.length : Int))) ∧ Chg (· = V0.heap.size + 1) Xa0 W ∧ Blk W (V0.heap.size + 1) 3 #[.int .i64 av] := by
              rcases hor with ⟨rfl, h1, h2, h3⟩ | ⟨hp, h1, h2, h3⟩
              · exact ⟨_, ⟨fun h => by omega, fun _ => rfl⟩, h2, h3⟩
              · have := hp.length_le
                exact ⟨_, ⟨fun h => by omega, fun h => by omega⟩, h2, h3⟩
            obtain ⟨Xb0, hX⟩ : ∃ z, z = W := ⟨_, rfl⟩
            rw [← hX] at hC hN hKb0 ⊢
            obtain ⟨avb0, hav0⟩ : ∃ z, z = av := ⟨_, rfl⟩
            rw [← hav0] at hN hav
            clear hor hX hav0
            have HVXb0 := Lib.hid (HVXa0.out.trans (hC.below (B := W8.heap.size) HVXa0.out.size (fun k hk e => by omega)))
            have HTX0 := Lib.hid (HTRb0.out.chg hC (by omega))
            have HNA0 := Lib.hid (HNa0.out.chg hC (by omega))
            have HNB0 := Lib.hid hN
            have HAVb0 := Lib.hid hav
            have HDA0 := Lib.hid ((hC.block Da0 hda0 (by omega)).trans HDa0.out)
            have HDB0 := Lib.hid hKb0
            have hxb0 := hC.size
            have hdb0 := (Array.getElem?_eq_some_iff.1 hKb0).1
            clear hC hN hav hKb0
            by_cases hlv : 1 ≤ leave
            · have u1 : Xb0.cell? ⟨bt0, 0, none⟩ = some (.int .i64 0) := HTX0.out.cell 0
              have u2 : Xb0.cell? ⟨w.heap.size, 0, none⟩ = some (.int .i64 leave) := (HC39.out.grow HVXb0.out).cell 0
              have u3 : Xb0.cell? ⟨V0.heap.size, 0, none⟩ = some (.int .i64 ava0) := HNA0.out.cell 0
              have u4 : Xb0.cell? ⟨V0.heap.size + 1, 0, none⟩ = some (.int .i64 avb0) := HNB0.out.cell 0
              have u5 : Xb0.cell? ⟨b11, 0, none⟩ = some (.slice B1 M1.length k1) := (HCW.out.grow HVXb0.out).cell 0
              have u6 : Xb0.cell? ⟨b11, 1, none⟩ = some (.slice B2 M2.length k2) := (HCW.out.grow HVXb0.out).cell 1
              have e5 : decide (leave > 0) = true := by simp; omega
              have e6 : decide (leave ≤ 0) = false := by simp; omega
              have e7 : decide ((0 : Int) > 0) = false := by decide
              have e8 : (if (M1.length : Int) < leave then (M1.length : Int) else leave) = ava0 := by have := HAVa0.out.1 (by omega); rw [this]; split <;> omega
              have e9 : (if (M2.length : Int) < leave then (M2.length : Int) else leave) = avb0 := by have := HAVb0.out.1 (by omega); rw [this]; split <;> omega
              go_wp2_with fail

              clear u1 u2 u3 u4 u5 u6
              obtain ⟨V1, hV⟩ : ∃ W, W = Xb0.alloc (.cells #[.int .i64 1] 3) := ⟨_, rfl⟩
              have hbV : Below Xb0.heap.size Xb0 V1 := by rw [hV]; exact (Below.refl _ _).alloc (Nat.le_refl _) _
              obtain ⟨bt1, hbt⟩ : ∃ z, z = Xb0.heap.size := ⟨_, rfl⟩
              have HT1 := Lib.hid (show Blk V1 bt1 3 #[.int .i64 1] by rw [hV, hbt]; exact Blk.new Xb0 3 #[.int .i64 1])
              have HV1 := Lib.hid (HVXb0.out.trans (hbV.mono HVXb0.out.size))
              have hbt1 : W8.heap.size ≤ bt1 := by have := HVXb0.out.size; omega
              have HOA := Lib.hid ((hbV.block Da0 (by omega)).trans HDA0.out)
              have HOB := Lib.hid ((hbV.block Db0 (by omega)).trans HDB0.out)
              have hor : Da0 < V1.heap.size ∧ Db0 < V1.heap.size := by have := hbV.size; exact ⟨by omega, by omega⟩
              have hzv1 : Xb0.heap.size ≤ V1.heap.size := hbV.size
              rw [← hV]
              rw [← hbt]
              clear hV hbV hbt
              rw [rounds_succ]

              have t0 : V1.cell? ⟨bt1, 0, none⟩ = some (.int .i64 1) := HT1.out.cell 0
              obtain ⟨Y1, hY⟩ : ∃ W, W = (V1.alloc (.cells #[.int .i64 0] 3)).alloc (.cells #[.int .i64 0] 3) := ⟨_, rfl⟩
              have hbY : Below V1.heap.size V1 Y1 := by rw [hY]; exact ((Below.refl _ _).alloc (Nat.le_refl _) _).alloc (by simp) _
              have HAa1 := Lib.hid (show Blk Y1 V1.heap.size 3 #[.int .i64 0] by rw [hY]; exact (Blk.new V1 _ _).alloc _)
              have HAb1 := Lib.hid (show Blk Y1 (V1.heap.size + 1) 3 #[.int .i64 0] by rw [hY]; exact Blk.new' _ _ (by simp))
              have HVY1 := Lib.hid (HV1.out.trans (hbY.mono HV1.out.size))
              have HTY1 := Lib.hid (HT1.out.grow hbY)
              have hzs1 : W8.heap.size ≤ V1.heap.size := HV1.out.size
              have hzt1 : bt1 < V1.heap.size := HT1.out.lt
              have HYY1 := Lib.hid hY
              have hzy1 := hbY.size
              have hzb1 : V1.heap.size + 1 < Y1.heap.size := HAb1.out.lt
              replace HOA := Lib.hid ((hbY.block Da0 (by omega)).trans HOA.out)
              replace HOB := Lib.hid ((hbY.block Db0 (by omega)).trans HOB.out)
              clear hbY hY
              go_wp2_with fail
              clear t0
              rw [show (V1.alloc (.cells #[.int .i64 0] 3)).alloc (.cells #[.int .i64 0] 3) = Y1 from HYY1.out.symm]

              have HORa1 := Lib.hid (own_grow HO1.out HVY1.out)
              have HCWRa1 := Lib.hid (HCW.out.grow HVY1.out)
              have HLRa1 := Lib.hid (HC39.out.grow HVY1.out)
              have HGRa1 := Lib.hid ((HVY1.out.cell (p := ⟨gm1 + 1, 0, none⟩) (World.block_lt_of_cell? W8 _ HG1.out)).trans HG1.out)
              have HSRa1 := Lib.hid (HS1.out.grow HVY1.out)
              have hg8a1 : gm1 + 1 < W8.heap.size := World.block_lt_of_cell? W8 _ HG1.out
              have hgsa1 : gm1 < Y1.heap.size ∧ gm1 + 1 < Y1.heap.size := ⟨HSRa1.out.lt, World.block_lt_of_cell? Y1 _ HGRa1.out⟩
              have HTRa1 := Lib.hid HTY1.out

              refine (wpIn_wide (n := 3)).1 ?_
              refine' wpIn_rangeFunc_XB (F := Fence.wide) (n := 3) rfl (by omega) (gf := 89) (lb := #[.pointer (some ⟨gm1 + 1, 0, none⟩)]) rfl trivial (enters_of Tryz.func89 (by kernel_rfl) rfl)
                (by1_stops 2 (by omega) (gm1 + 1) gm1 n1 M1 HQ1.out.1 (by have := HQ1.out.2.1; omega) (fun p hp => (HQ1.out.2.2 p hp).1) Y1 HGRa1.out HSRa1.out) (by rintro b (rfl | rfl); exact hgsa1.2; exact hgsa1.1) (Below.refl _ _) (fun _ => rfl)
                (fun _ pre W => True ∧ Chg (· = V1.heap.size) Y1 W ∧ Blk W (V1.heap.size) 3 #[.int .i64 pre.length])
                4 (fun _ pre W => False ∧ Chg (· = V1.heap.size) Y1 W ∧ Blk W (V1.heap.size) 3 #[.int .i64 pre.length])
                (fun _ => OwnFrom.and (fun _ _ _ _ h _ _ => h) (OwnFrom.and ownFrom_chgS (Own.from (fun _ _ _ _ h hg hr => h.cells hg hr) _)))
                (fun _ => OwnFrom.and (fun _ _ _ _ h _ _ => h) (OwnFrom.and ownFrom_chgS (Own.from (fun _ _ _ _ h hg hr => h.cells hg hr) _)))
                (fun W0 hW0 => ⟨trivial, Chg.of _ hW0, HAa1.out.grow hW0⟩) _ ?assigna1 ?bodya1 (fun _ _ h => h) ?resta1
              case assigna1 =>
                intro l' x W K hK
                gi_wp2
                exact hK
              case bodya1 =>
                rintro hi l' pre x W hhi ⟨hnl, hC, hN⟩ hsp hlen
                have hat : M1[pre.length]? = some x := by
                  obtain ⟨r, hr⟩ := hsp
                  rw [← hr, List.append_assoc, List.getElem?_append_right (Nat.le_refl _), Nat.sub_self]
                  rfl
                obtain ⟨gq, cq, hA, hlq, hgq8⟩ := World.ownsRow.form HO1.out (by omega)
                injection hA with hA _ hc
                subst hA hc
                have hgq : gq < Y1.heap.size := by omega
                have hsW := hC.size
                have q0 : W.cell? ⟨gq, pre.length * 2, none⟩ = some (.int .i64 x.1) := (World.cell?_of_block (a := ⟨gq, pre.length * 2, none⟩) (hC.block gq hgq (by omega))).trans ((HORa1.out.cellAt (pre.length * 2) (by omega)).trans (pcells_fst M1 _ x hat))
                have q1 : W.cell? ⟨gq, pre.length * 2 + 1, none⟩ = some (.int .i64 x.2) := (World.cell?_of_block (a := ⟨gq, pre.length * 2 + 1, none⟩) (hC.block gq hgq (by omega))).trans ((HORa1.out.cellAt (pre.length * 2 + 1) (by omega)).trans (pcells_snd M1 _ x hat))
                have n0 : W.cell? ⟨V1.heap.size, 0, none⟩ = some (.int .i64 (pre.length : Int)) := hN.cell 0
                have n1 : W.frozen? ⟨V1.heap.size, 0, none⟩ = false := hN.frozen 0
                have s0 : W.cell? ⟨b11, 0, none⟩ = some (.slice (some ⟨gq, 0, none⟩) M1.length k1) := (HCWRa1.out.chg hC (by omega)).cell 0
                have t0 : W.cell? ⟨bt1, 0, none⟩ = some (.int .i64 1) := (HTRa1.out.chg hC (by omega)).cell 0
                have lv : W.cell? ⟨w.heap.size, 0, none⟩ = some (.int .i64 leave) := (HLRa1.out.chg hC (by omega)).cell 0
                obtain ⟨xa, xb⟩ := x
                simp only at q0 q1
                have e0 : (0 : Int) ≤ (pre.length : Int) := by omega
                have e1 : (pre.length : Int) < (M1.length : Int) := by omega
                have e2 : decide ((pre.length : Int) ≥ (M1.length : Int)) = false := by simp; omega
                have e3 : IntKind.i64.wrap ((pre.length : Int) + 1) = (pre.length : Int) + 1 := IntWalk.i64_in _ (by have := HQ1.out.2.1; omega)
                have HN := Lib.hid hN
                have HC := Lib.hid hC
                clear hat hsp hC hN
                dsimp only
                gi_wp2
                exact ⟨KeepsOthers.setCell _ _ _, KeepX.set W (.inl (by show V1.heap.size < _; omega)) (by show ¬ (V1.heap.size = _ ∨ V1.heap.size = _); omega) _, (HC.out).step (Chg.set W ⟨V1.heap.size, 0, none⟩ _) (fun _ _ e => e), by rw [List.length_append]; exact HN.out.set_ 0 (.int .i64 ((pre.length : Int) + 1))⟩
              case resta1 =>
                intro hi Da1 pre W hDa1 hor hKa1
                obtain ⟨av, hav, hC, hN⟩ : ∃ av : Int, (av = (M1.length : Int)) ∧ Chg (· = V1.heap.size) Y1 W ∧ Blk W (V1.heap.size) 3 #[.int .i64 av] := by
                  rcases hor with ⟨rfl, h1, h2, h3⟩ | ⟨hp, h1, h2, h3⟩
                  · exact ⟨_, rfl, h2, h3⟩
                  · exact h1.elim
                obtain ⟨Xa1, hX⟩ : ∃ z, z = W := ⟨_, rfl⟩
                rw [← hX] at hC hN hKa1 ⊢
                obtain ⟨ava1, hav0⟩ : ∃ z, z = av := ⟨_, rfl⟩
                rw [← hav0] at hN hav
                clear hor hX hav0
                have HVXa1 := Lib.hid (HVY1.out.trans (hC.below (B := W8.heap.size) HVY1.out.size (fun k hk e => by omega)))
                have HTRb1 := Lib.hid (HTRa1.out.chg hC (by omega))
                have HBX1 := Lib.hid (HAb1.out.chg hC (by omega))
                have HNa1 := Lib.hid hN
                have HAVa1 := Lib.hid hav
                have HDa1 := Lib.hid hKa1
                have hxa1 := hC.size
                have hda1 := (Array.getElem?_eq_some_iff.1 hKa1).1
                have HAb1 := Lib.hid HBX1.out
                replace HOA := Lib.hid ((hC.block Da0 (by omega) (by omega)).trans HOA.out)
                replace HOB := Lib.hid ((hC.block Db0 (by omega) (by omega)).trans HOB.out)
                clear hC hN hav hKa1
                go_wp2_with fail

                have HORb1 := Lib.hid (own_grow HO2.out HVXa1.out)
                have HCWRb1 := Lib.hid (HCW.out.grow HVXa1.out)
                have HLRb1 := Lib.hid (HC39.out.grow HVXa1.out)
                have HGRb1 := Lib.hid ((HVXa1.out.cell (p := ⟨gm2 + 1, 0, none⟩) (World.block_lt_of_cell? W8 _ HG2.out)).trans HG2.out)
                have HSRb1 := Lib.hid (HS2.out.grow HVXa1.out)
                have hg8b1 : gm2 + 1 < W8.heap.size := World.block_lt_of_cell? W8 _ HG2.out
                have hgsb1 : gm2 < Xa1.heap.size ∧ gm2 + 1 < Xa1.heap.size := ⟨HSRb1.out.lt, World.block_lt_of_cell? Xa1 _ HGRb1.out⟩

                refine (wpIn_wide (n := 3)).1 ?_
                refine' wpIn_rangeFunc_XB (F := Fence.wide) (n := 3) rfl (by omega) (gf := 89) (lb := #[.pointer (some ⟨gm2 + 1, 0, none⟩)]) rfl trivial (enters_of Tryz.func89 (by kernel_rfl) rfl)
                  (by1_stops 2 (by omega) (gm2 + 1) gm2 n2 M2 HQ2.out.1 (by have := HQ2.out.2.1; omega) (fun p hp => (HQ2.out.2.2 p hp).1) Xa1 HGRb1.out HSRb1.out) (by rintro b (rfl | rfl); exact hgsb1.2; exact hgsb1.1) (Below.refl _ _) (fun _ => rfl)
                  (fun _ pre W => True ∧ Chg (· = V1.heap.size + 1) Xa1 W ∧ Blk W (V1.heap.size + 1) 3 #[.int .i64 pre.length])
                  6 (fun _ pre W => False ∧ Chg (· = V1.heap.size + 1) Xa1 W ∧ Blk W (V1.heap.size + 1) 3 #[.int .i64 pre.length])
                  (fun _ => OwnFrom.and (fun _ _ _ _ h _ _ => h) (OwnFrom.and ownFrom_chgS (Own.from (fun _ _ _ _ h hg hr => h.cells hg hr) _)))
                  (fun _ => OwnFrom.and (fun _ _ _ _ h _ _ => h) (OwnFrom.and ownFrom_chgS (Own.from (fun _ _ _ _ h hg hr => h.cells hg hr) _)))
                  (fun W0 hW0 => ⟨trivial, Chg.of _ hW0, HAb1.out.grow hW0⟩) _ ?assignb1 ?bodyb1 (fun _ _ h => h) ?restb1
                case assignb1 =>
                  intro l' x W K hK
                  gi_wp2
                  exact hK
                case bodyb1 =>
                  rintro hi l' pre x W hhi ⟨hnl, hC, hN⟩ hsp hlen
                  have hat : M2[pre.length]? = some x := by
                    obtain ⟨r, hr⟩ := hsp
                    rw [← hr, List.append_assoc, List.getElem?_append_right (Nat.le_refl _), Nat.sub_self]
                    rfl
                  obtain ⟨gq, cq, hA, hlq, hgq8⟩ := World.ownsRow.form HO2.out (by omega)
                  injection hA with hA _ hc
                  subst hA hc
                  have hgq : gq < Xa1.heap.size := by omega
                  have hsW := hC.size
                  have q0 : W.cell? ⟨gq, pre.length * 2, none⟩ = some (.int .i64 x.1) := (World.cell?_of_block (a := ⟨gq, pre.length * 2, none⟩) (hC.block gq hgq (by omega))).trans ((HORb1.out.cellAt (pre.length * 2) (by omega)).trans (pcells_fst M2 _ x hat))
                  have q1 : W.cell? ⟨gq, pre.length * 2 + 1, none⟩ = some (.int .i64 x.2) := (World.cell?_of_block (a := ⟨gq, pre.length * 2 + 1, none⟩) (hC.block gq hgq (by omega))).trans ((HORb1.out.cellAt (pre.length * 2 + 1) (by omega)).trans (pcells_snd M2 _ x hat))
                  have n0 : W.cell? ⟨V1.heap.size + 1, 0, none⟩ = some (.int .i64 (pre.length : Int)) := hN.cell 0
                  have n1 : W.frozen? ⟨V1.heap.size + 1, 0, none⟩ = false := hN.frozen 0
                  have s0 : W.cell? ⟨b11, 1, none⟩ = some (.slice (some ⟨gq, 0, none⟩) M2.length k2) := (HCWRb1.out.chg hC (by omega)).cell 1
                  have t0 : W.cell? ⟨bt1, 0, none⟩ = some (.int .i64 1) := (HTRb1.out.chg hC (by omega)).cell 0
                  have lv : W.cell? ⟨w.heap.size, 0, none⟩ = some (.int .i64 leave) := (HLRb1.out.chg hC (by omega)).cell 0
                  obtain ⟨xa, xb⟩ := x
                  simp only at q0 q1
                  have e0 : (0 : Int) ≤ (pre.length : Int) := by omega
                  have e1 : (pre.length : Int) < (M2.length : Int) := by omega
                  have e2 : decide ((pre.length : Int) ≥ (M2.length : Int)) = false := by simp; omega
                  have e3 : IntKind.i64.wrap ((pre.length : Int) + 1) = (pre.length : Int) + 1 := IntWalk.i64_in _ (by have := HQ2.out.2.1; omega)
                  have HN := Lib.hid hN
                  have HC := Lib.hid hC
                  clear hat hsp hC hN
                  dsimp only
                  gi_wp2
                  exact ⟨KeepsOthers.setCell _ _ _, KeepX.set W (.inl (by show V1.heap.size + 1 < _; omega)) (by show ¬ (V1.heap.size + 1 = _ ∨ V1.heap.size + 1 = _); omega) _, (HC.out).step (Chg.set W ⟨V1.heap.size + 1, 0, none⟩ _) (fun _ _ e => e), by rw [List.length_append]; exact HN.out.set_ 0 (.int .i64 ((pre.length : Int) + 1))⟩
                case restb1 =>
                  intro hi Db1 pre W hDb1 hor hKb1
                  obtain ⟨av, hav, hC, hN⟩ : ∃ av : Int, (av = (M2.length : Int)) ∧ Chg (· = V1.heap.size + 1) Xa1 W ∧ Blk W (V1.heap.size + 1) 3 #[.int .i64 av] := by
                    rcases hor with ⟨rfl, h1, h2, h3⟩ | ⟨hp, h1, h2, h3⟩
                    · exact ⟨_, rfl, h2, h3⟩
                    · exact h1.elim
                  obtain ⟨Xb1, hX⟩ : ∃ z, z = W := ⟨_, rfl⟩
                  rw [← hX] at hC hN hKb1 ⊢
                  obtain ⟨avb1, hav0⟩ : ∃ z, z = av := ⟨_, rfl⟩
                  rw [← hav0] at hN hav
                  clear hor hX hav0
                  have HVXb1 := Lib.hid (HVXa1.out.trans (hC.below (B := W8.heap.size) HVXa1.out.size (fun k hk e => by omega)))
                  have HTX1 := Lib.hid (HTRb1.out.chg hC (by omega))
                  have HNA1 := Lib.hid (HNa1.out.chg hC (by omega))
                  have HNB1 := Lib.hid hN
                  have HAVb1 := Lib.hid hav
                  have HDA1 := Lib.hid ((hC.block Da1 hda1 (by omega)).trans HDa1.out)
                  have HDB1 := Lib.hid hKb1
                  have hxb1 := hC.size
                  have hdb1 := (Array.getElem?_eq_some_iff.1 hKb1).1
                  replace HOA := Lib.hid ((hC.block Da0 (by omega) (by omega)).trans HOA.out)
                  replace HOB := Lib.hid ((hC.block Db0 (by omega) (by omega)).trans HOB.out)
                  clear hC hN hav hKb1
                  have u1 : Xb1.cell? ⟨bt1, 0, none⟩ = some (.int .i64 1) := HTX1.out.cell 0
                  have u2 : Xb1.cell? ⟨w.heap.size, 0, none⟩ = some (.int .i64 leave) := (HC39.out.grow HVXb1.out).cell 0
                  have u3 : Xb1.cell? ⟨V1.heap.size, 0, none⟩ = some (.int .i64 ava1) := HNA1.out.cell 0
                  have u4 : Xb1.cell? ⟨V1.heap.size + 1, 0, none⟩ = some (.int .i64 avb1) := HNB1.out.cell 0
                  have u5 : Xb1.cell? ⟨b11, 0, none⟩ = some (.slice B1 M1.length k1) := (HCW.out.grow HVXb1.out).cell 0
                  have u6 : Xb1.cell? ⟨b11, 1, none⟩ = some (.slice B2 M2.length k2) := (HCW.out.grow HVXb1.out).cell 1
                  have e7 : decide ((1 : Int) > 0) = true := by decide
                  have e8 : ava1 = (M1.length : Int) := HAVa1.out
                  have e9 : avb1 = (M2.length : Int) := HAVb1.out
                  go_wp2_with fail
                  clear u1 u2 u3 u4 u5 u6
                  obtain ⟨V2, hV⟩ : ∃ W, W = Xb1.alloc (.cells #[.int .i64 2] 3) := ⟨_, rfl⟩
                  have hbV : Below Xb1.heap.size Xb1 V2 := by rw [hV]; exact (Below.refl _ _).alloc (Nat.le_refl _) _
                  have t2 : V2.cell? ⟨Xb1.heap.size, 0, none⟩ = some (.int .i64 2) := by rw [hV]; exact (Blk.new Xb1 3 #[.int .i64 2]).cell 0
                  have HV2 := Lib.hid (HVXb1.out.trans (hbV.mono HVXb1.out.size))
                  replace HOA := Lib.hid ((hbV.block Da0 (by omega)).trans HOA.out)
                  replace HOB := Lib.hid ((hbV.block Db0 (by omega)).trans HOB.out)
                  have HPA := Lib.hid ((hbV.block Da1 (by omega)).trans HDA1.out)
                  have HPB := Lib.hid ((hbV.block Db1 (by omega)).trans HDB1.out)
                  have hzv2 : Xb1.heap.size ≤ V2.heap.size := hbV.size
                  have HLM2 := Lib.hid (HLM.out.grow HV2.out)
                  have q3 : V2.cell? ⟨g, l.length * 7 + 3, none⟩ = some (.int .i64 771) := HLM2.out.cell (l.length * 7 + 3) (.int .i64 771) (by omega) (by
                    rw [scells_append, List.getElem?_append_right (by rw [scells_length]; omega), scells_length, show l.length * 7 + 3 - l.length * 7 = 3 by omega]
                    rfl)
                  have hcp := HLM2.out.cap1
                  have hwr : IntKind.i64.wrap ((l.length : Int) + 1) = ((l.length + 1 : Nat) : Int) := (IntWalk.i64_in _ (by omega)).trans (by omega)
                  have r1 : (l.length : Int) < ((l.length + 1 : Nat) : Int) := by omega
                  have r2 : (0 : Int) ≤ (l.length : Int) := by omega
                  have r3 : ((l.length + 1 : Nat) : Int) ≤ (mc : Int) := by omega
                  have r4 : (0 : Int) ≤ ((l.length + 1 : Nat) : Int) := by omega
                  have r5 : ¬ mc = 0 := by omega
                  rw [← hV]
                  clear hV hbV e5 e6 e7 e8 e9
                  rw [rounds_succ]
                  go_wp2_with fail
                  refine (known_any _).mono ?_
                  rintro e X9 ⟨rfl, hb⟩
                  have HV9 := Lib.hid (HV2.out.trans (hb.mono HV2.out.size))
                  replace HOA := Lib.hid ((hb.block Da0 (by omega)).trans HOA.out)
                  replace HOB := Lib.hid ((hb.block Db0 (by omega)).trans HOB.out)
                  replace HPA := Lib.hid ((hb.block Da1 (by omega)).trans HPA.out)
                  replace HPB := Lib.hid ((hb.block Db1 (by omega)).trans HPB.out)
                  have HC9 := Lib.hid (HC49.out.grow HV9.out)
                  have f4 : X9.frozen? ⟨w.heap.size + 1, 0, none⟩ = false := HC9.out.frozen 0
                  have c4 : X9.cell? ⟨w.heap.size + 1, 0, none⟩ = some (.bool false) := HC9.out.cell 0
                  clear hb q3 t2 hwr r1 r2 r3 r4 r5
                  go_wp2_with fail
                  obtain ⟨S, hS⟩ : ∃ S, S = X9.setCell ⟨w.heap.size + 1, 0, none⟩ (.bool true) := ⟨_, rfl⟩
                  have hSB : Blk S (w.heap.size + 1) 4 #[.bool true] := by rw [hS]; exact HC9.out.set_ 0 (.bool true)
                  have hSK : KeepsOthers X9 S := by rw [hS]; exact KeepsOthers.setCell _ _ _
                  have hSW : Below w.heap.size w S := by rw [hS]; exact (HBW.out.trans (HV9.out.mono HBW.out.size)).setCell (p := ⟨w.heap.size + 1, 0, none⟩) (by show w.heap.size ≤ w.heap.size + 1; omega) _
                  rw [← hS]
                  have k1' := hSK.same Db1 _ HPB.out rfl
                  have k2' := hSK.same Da1 _ HPA.out rfl
                  have k3' := hSK.same Db0 _ HOB.out rfl
                  have k4' := hSK.same Da0 _ HOA.out rfl
                  have HSB := Lib.hid hSB
                  have HSW := Lib.hid hSW
                  clear hS hSK hSB hSW f4 c4
                  have x12 : Da1 ≠ Db1 := by omega
                  have x13 : Db0 ≠ Db1 := by omega
                  have x14 : Da0 ≠ Db1 := by omega
                  have x23 : Db0 ≠ Da1 := by omega
                  have x24 : Da0 ≠ Da1 := by omega
                  have x34 : Da0 ≠ Db0 := by omega
                  refine ⟨by simp, .inl ⟨_, _, rfl, run_takeDeferred k1', ?_⟩⟩
                  have l2 : (S.putObj Db1 (.deferred none)).heap[Da1]? = some (.deferred (some [])) := (World.putObj_heap_other x12).trans k2'
                  have l3 : (S.putObj Db1 (.deferred none)).heap[Db0]? = some (.deferred (some [])) := (World.putObj_heap_other x13).trans k3'
                  have l4 : (S.putObj Db1 (.deferred none)).heap[Da0]? = some (.deferred (some [])) := (World.putObj_heap_other x14).trans k4'
                  refine ⟨by simp, .inl ⟨_, _, rfl, run_takeDeferred l2, ?_⟩⟩
                  have m3 : ((S.putObj Db1 (.deferred none)).putObj Da1 (.deferred none)).heap[Db0]? = some (.deferred (some [])) := (World.putObj_heap_other x23).trans l3
                  have m4 : ((S.putObj Db1 (.deferred none)).putObj Da1 (.deferred none)).heap[Da0]? = some (.deferred (some [])) := (World.putObj_heap_other x24).trans l4
                  refine ⟨by simp, .inl ⟨_, _, rfl, run_takeDeferred m3, ?_⟩⟩
                  have o4 : (((S.putObj Db1 (.deferred none)).putObj Da1 (.deferred none)).putObj Db0 (.deferred none)).heap[Da0]? = some (.deferred (some [])) := (World.putObj_heap_other x34).trans m4
                  refine ⟨by simp, .inl ⟨_, _, rfl, run_takeDeferred o4, ?_⟩⟩
                  have hT : Blk ((((S.putObj Db1 (.deferred none)).putObj Da1 (.deferred none)).putObj Db0 (.deferred none)).putObj Da0 (.deferred none)) (w.heap.size + 1) 4 #[.bool true] :=
                    (World.putObj_heap_other (by omega)).trans ((World.putObj_heap_other (by omega)).trans ((World.putObj_heap_other (by omega)).trans ((World.putObj_heap_other (by omega)).trans HSB.out)))
                  have hBT : Below w.heap.size w ((((S.putObj Db1 (.deferred none)).putObj Da1 (.deferred none)).putObj Db0 (.deferred none)).putObj Da0 (.deferred none)) :=
                    (((HSW.out.trans (belowK_b (w := w) (Nat.le_refl _) S Db1 _ _ (by omega) k1' rfl rfl)).trans (belowK_b (w := w) (Nat.le_refl _) _ Da1 _ _ (by omega) l2 rfl rfl)).trans (belowK_b (w := w) (Nat.le_refl _) _ Db0 _ _ (by omega) m3 rfl rfl)).trans (belowK_b (w := w) (Nat.le_refl _) _ Da0 _ _ (by omega) o4 rfl rfl)
                  generalize (((S.putObj Db1 (.deferred none)).putObj Da1 (.deferred none)).putObj Db0 (.deferred none)).putObj Da0 (.deferred none) = T at hT hBT ⊢
                  have j0 : T.cell? ⟨w.heap.size + 1, 0, none⟩ = some (.bool true) := hT.cell 0
                  clear hT
                  exact ⟨_, by simp [results, Tryz.results5, go_sem, j0], rfl, hBT⟩
            · have u1 : Xb0.cell? ⟨bt0, 0, none⟩ = some (.int .i64 0) := HTX0.out.cell 0
              have u2 : Xb0.cell? ⟨w.heap.size, 0, none⟩ = some (.int .i64 leave) := (HC39.out.grow HVXb0.out).cell 0
              have u3 : Xb0.cell? ⟨V0.heap.size, 0, none⟩ = some (.int .i64 ava0) := HNA0.out.cell 0
              have u4 : Xb0.cell? ⟨V0.heap.size + 1, 0, none⟩ = some (.int .i64 avb0) := HNB0.out.cell 0
              have u5 : Xb0.cell? ⟨b11, 0, none⟩ = some (.slice B1 M1.length k1) := (HCW.out.grow HVXb0.out).cell 0
              have u6 : Xb0.cell? ⟨b11, 1, none⟩ = some (.slice B2 M2.length k2) := (HCW.out.grow HVXb0.out).cell 1
              have e5 : decide (leave > 0) = false := by simp; omega
              have e6 : decide (leave ≤ 0) = true := by simp; omega
              have e7 : decide ((0 : Int) > 0) = false := by decide
              have e8 : ava0 = (M1.length : Int) := HAVa0.out.2 (by omega)
              have e9 : avb0 = (M2.length : Int) := HAVb0.out.2 (by omega)
              go_wp2_with fail

              clear u1 u2 u3 u4 u5 u6
              obtain ⟨V1, hV⟩ : ∃ W, W = Xb0.alloc (.cells #[.int .i64 1] 3) := ⟨_, rfl⟩
              have hbV : Below Xb0.heap.size Xb0 V1 := by rw [hV]; exact (Below.refl _ _).alloc (Nat.le_refl _) _
              obtain ⟨bt1, hbt⟩ : ∃ z, z = Xb0.heap.size := ⟨_, rfl⟩
              have HT1 := Lib.hid (show Blk V1 bt1 3 #[.int .i64 1] by rw [hV, hbt]; exact Blk.new Xb0 3 #[.int .i64 1])
              have HV1 := Lib.hid (HVXb0.out.trans (hbV.mono HVXb0.out.size))
              have hbt1 : W8.heap.size ≤ bt1 := by have := HVXb0.out.size; omega
              have HOA := Lib.hid ((hbV.block Da0 (by omega)).trans HDA0.out)
              have HOB := Lib.hid ((hbV.block Db0 (by omega)).trans HDB0.out)
              have hor : Da0 < V1.heap.size ∧ Db0 < V1.heap.size := by have := hbV.size; exact ⟨by omega, by omega⟩
              have hzv1 : Xb0.heap.size ≤ V1.heap.size := hbV.size
              rw [← hV]
              rw [← hbt]
              clear hV hbV hbt
              rw [rounds_succ]

              have t0 : V1.cell? ⟨bt1, 0, none⟩ = some (.int .i64 1) := HT1.out.cell 0
              obtain ⟨Y1, hY⟩ : ∃ W, W = (V1.alloc (.cells #[.int .i64 0] 3)).alloc (.cells #[.int .i64 0] 3) := ⟨_, rfl⟩
              have hbY : Below V1.heap.size V1 Y1 := by rw [hY]; exact ((Below.refl _ _).alloc (Nat.le_refl _) _).alloc (by simp) _
              have HAa1 := Lib.hid (show Blk Y1 V1.heap.size 3 #[.int .i64 0] by rw [hY]; exact (Blk.new V1 _ _).alloc _)
              have HAb1 := Lib.hid (show Blk Y1 (V1.heap.size + 1) 3 #[.int .i64 0] by rw [hY]; exact Blk.new' _ _ (by simp))
              have HVY1 := Lib.hid (HV1.out.trans (hbY.mono HV1.out.size))
              have HTY1 := Lib.hid (HT1.out.grow hbY)
              have hzs1 : W8.heap.size ≤ V1.heap.size := HV1.out.size
              have hzt1 : bt1 < V1.heap.size := HT1.out.lt
              have HYY1 := Lib.hid hY
              have hzy1 := hbY.size
              have hzb1 : V1.heap.size + 1 < Y1.heap.size := HAb1.out.lt
              replace HOA := Lib.hid ((hbY.block Da0 (by omega)).trans HOA.out)
              replace HOB := Lib.hid ((hbY.block Db0 (by omega)).trans HOB.out)
              clear hbY hY
              go_wp2_with fail
              clear t0
              rw [show (V1.alloc (.cells #[.int .i64 0] 3)).alloc (.cells #[.int .i64 0] 3) = Y1 from HYY1.out.symm]

              have HORa1 := Lib.hid (own_grow HO1.out HVY1.out)
              have HCWRa1 := Lib.hid (HCW.out.grow HVY1.out)
              have HLRa1 := Lib.hid (HC39.out.grow HVY1.out)
              have HGRa1 := Lib.hid ((HVY1.out.cell (p := ⟨gm1 + 1, 0, none⟩) (World.block_lt_of_cell? W8 _ HG1.out)).trans HG1.out)
              have HSRa1 := Lib.hid (HS1.out.grow HVY1.out)
              have hg8a1 : gm1 + 1 < W8.heap.size := World.block_lt_of_cell? W8 _ HG1.out
              have hgsa1 : gm1 < Y1.heap.size ∧ gm1 + 1 < Y1.heap.size := ⟨HSRa1.out.lt, World.block_lt_of_cell? Y1 _ HGRa1.out⟩
              have HTRa1 := Lib.hid HTY1.out

              refine (wpIn_wide (n := 3)).1 ?_
              refine' wpIn_rangeFunc_XB (F := Fence.wide) (n := 3) rfl (by omega) (gf := 89) (lb := #[.pointer (some ⟨gm1 + 1, 0, none⟩)]) rfl trivial (enters_of Tryz.func89 (by kernel_rfl) rfl)
                (by1_stops 2 (by omega) (gm1 + 1) gm1 n1 M1 HQ1.out.1 (by have := HQ1.out.2.1; omega) (fun p hp => (HQ1.out.2.2 p hp).1) Y1 HGRa1.out HSRa1.out) (by rintro b (rfl | rfl); exact hgsa1.2; exact hgsa1.1) (Below.refl _ _) (fun _ => rfl)
                (fun _ pre W => True ∧ Chg (· = V1.heap.size) Y1 W ∧ Blk W (V1.heap.size) 3 #[.int .i64 pre.length])
                4 (fun _ pre W => False ∧ Chg (· = V1.heap.size) Y1 W ∧ Blk W (V1.heap.size) 3 #[.int .i64 pre.length])
                (fun _ => OwnFrom.and (fun _ _ _ _ h _ _ => h) (OwnFrom.and ownFrom_chgS (Own.from (fun _ _ _ _ h hg hr => h.cells hg hr) _)))
                (fun _ => OwnFrom.and (fun _ _ _ _ h _ _ => h) (OwnFrom.and ownFrom_chgS (Own.from (fun _ _ _ _ h hg hr => h.cells hg hr) _)))
                (fun W0 hW0 => ⟨trivial, Chg.of _ hW0, HAa1.out.grow hW0⟩) _ ?assigna1 ?bodya1 (fun _ _ h => h) ?resta1
              case assigna1 =>
                intro l' x W K hK
                gi_wp2
                exact hK
              case bodya1 =>
                rintro hi l' pre x W hhi ⟨hnl, hC, hN⟩ hsp hlen
                have hat : M1[pre.length]? = some x := by
                  obtain ⟨r, hr⟩ := hsp
                  rw [← hr, List.append_assoc, List.getElem?_append_right (Nat.le_refl _), Nat.sub_self]
                  rfl
                obtain ⟨gq, cq, hA, hlq, hgq8⟩ := World.ownsRow.form HO1.out (by omega)
                injection hA with hA _ hc
                subst hA hc
                have hgq : gq < Y1.heap.size := by omega
                have hsW := hC.size
                have q0 : W.cell? ⟨gq, pre.length * 2, none⟩ = some (.int .i64 x.1) := (World.cell?_of_block (a := ⟨gq, pre.length * 2, none⟩) (hC.block gq hgq (by omega))).trans ((HORa1.out.cellAt (pre.length * 2) (by omega)).trans (pcells_fst M1 _ x hat))
                have q1 : W.cell? ⟨gq, pre.length * 2 + 1, none⟩ = some (.int .i64 x.2) := (World.cell?_of_block (a := ⟨gq, pre.length * 2 + 1, none⟩) (hC.block gq hgq (by omega))).trans ((HORa1.out.cellAt (pre.length * 2 + 1) (by omega)).trans (pcells_snd M1 _ x hat))
                have n0 : W.cell? ⟨V1.heap.size, 0, none⟩ = some (.int .i64 (pre.length : Int)) := hN.cell 0
                have n1 : W.frozen? ⟨V1.heap.size, 0, none⟩ = false := hN.frozen 0
                have s0 : W.cell? ⟨b11, 0, none⟩ = some (.slice (some ⟨gq, 0, none⟩) M1.length k1) := (HCWRa1.out.chg hC (by omega)).cell 0
                have t0 : W.cell? ⟨bt1, 0, none⟩ = some (.int .i64 1) := (HTRa1.out.chg hC (by omega)).cell 0
                have lv : W.cell? ⟨w.heap.size, 0, none⟩ = some (.int .i64 leave) := (HLRa1.out.chg hC (by omega)).cell 0
                obtain ⟨xa, xb⟩ := x
                simp only at q0 q1
                have e0 : (0 : Int) ≤ (pre.length : Int) := by omega
                have e1 : (pre.length : Int) < (M1.length : Int) := by omega
                have e2 : decide ((pre.length : Int) ≥ (M1.length : Int)) = false := by simp; omega
                have e3 : IntKind.i64.wrap ((pre.length : Int) + 1) = (pre.length : Int) + 1 := IntWalk.i64_in _ (by have := HQ1.out.2.1; omega)
                have HN := Lib.hid hN
                have HC := Lib.hid hC
                clear hat hsp hC hN
                dsimp only
                gi_wp2
                exact ⟨KeepsOthers.setCell _ _ _, KeepX.set W (.inl (by show V1.heap.size < _; omega)) (by show ¬ (V1.heap.size = _ ∨ V1.heap.size = _); omega) _, (HC.out).step (Chg.set W ⟨V1.heap.size, 0, none⟩ _) (fun _ _ e => e), by rw [List.length_append]; exact HN.out.set_ 0 (.int .i64 ((pre.length : Int) + 1))⟩
              case resta1 =>
                intro hi Da1 pre W hDa1 hor hKa1
                obtain ⟨av, hav, hC, hN⟩ : ∃ av : Int, (av = (M1.length : Int)) ∧ Chg (· = V1.heap.size) Y1 W ∧ Blk W (V1.heap.size) 3 #[.int .i64 av] := by
                  rcases hor with ⟨rfl, h1, h2, h3⟩ | ⟨hp, h1, h2, h3⟩
                  · exact ⟨_, rfl, h2, h3⟩
                  · exact h1.elim
                obtain ⟨Xa1, hX⟩ : ∃ z, z = W := ⟨_, rfl⟩
                rw [← hX] at hC hN hKa1 ⊢
                obtain ⟨ava1, hav0⟩ : ∃ z, z = av := ⟨_, rfl⟩
                rw [← hav0] at hN hav
                clear hor hX hav0
                have HVXa1 := Lib.hid (HVY1.out.trans (hC.below (B := W8.heap.size) HVY1.out.size (fun k hk e => by omega)))
                have HTRb1 := Lib.hid (HTRa1.out.chg hC (by omega))
                have HBX1 := Lib.hid (HAb1.out.chg hC (by omega))
                have HNa1 := Lib.hid hN
                have HAVa1 := Lib.hid hav
                have HDa1 := Lib.hid hKa1
                have hxa1 := hC.size
                have hda1 := (Array.getElem?_eq_some_iff.1 hKa1).1
                have HAb1 := Lib.hid HBX1.out
                replace HOA := Lib.hid ((hC.block Da0 (by omega) (by omega)).trans HOA.out)
                replace HOB := Lib.hid ((hC.block Db0 (by omega) (by omega)).trans HOB.out)
                clear hC hN hav hKa1
                go_wp2_with fail

                have HORb1 := Lib.hid (own_grow HO2.out HVXa1.out)
                have HCWRb1 := Lib.hid (HCW.out.grow HVXa1.out)
                have HLRb1 := Lib.hid (HC39.out.grow HVXa1.out)
                have HGRb1 := Lib.hid ((HVXa1.out.cell (p := ⟨gm2 + 1, 0, none⟩) (World.block_lt_of_cell? W8 _ HG2.out)).trans HG2.out)
                have HSRb1 := Lib.hid (HS2.out.grow HVXa1.out)
                have hg8b1 : gm2 + 1 < W8.heap.size := World.block_lt_of_cell? W8 _ HG2.out
                have hgsb1 : gm2 < Xa1.heap.size ∧ gm2 + 1 < Xa1.heap.size := ⟨HSRb1.out.lt, World.block_lt_of_cell? Xa1 _ HGRb1.out⟩

                refine (wpIn_wide (n := 3)).1 ?_
                refine' wpIn_rangeFunc_XB (F := Fence.wide) (n := 3) rfl (by omega) (gf := 89) (lb := #[.pointer (some ⟨gm2 + 1, 0, none⟩)]) rfl trivial (enters_of Tryz.func89 (by kernel_rfl) rfl)
                  (by1_stops 2 (by omega) (gm2 + 1) gm2 n2 M2 HQ2.out.1 (by have := HQ2.out.2.1; omega) (fun p hp => (HQ2.out.2.2 p hp).1) Xa1 HGRb1.out HSRb1.out) (by rintro b (rfl | rfl); exact hgsb1.2; exact hgsb1.1) (Below.refl _ _) (fun _ => rfl)
                  (fun _ pre W => True ∧ Chg (· = V1.heap.size + 1) Xa1 W ∧ Blk W (V1.heap.size + 1) 3 #[.int .i64 pre.length])
                  6 (fun _ pre W => False ∧ Chg (· = V1.heap.size + 1) Xa1 W ∧ Blk W (V1.heap.size + 1) 3 #[.int .i64 pre.length])
                  (fun _ => OwnFrom.and (fun _ _ _ _ h _ _ => h) (OwnFrom.and ownFrom_chgS (Own.from (fun _ _ _ _ h hg hr => h.cells hg hr) _)))
                  (fun _ => OwnFrom.and (fun _ _ _ _ h _ _ => h) (OwnFrom.and ownFrom_chgS (Own.from (fun _ _ _ _ h hg hr => h.cells hg hr) _)))
                  (fun W0 hW0 => ⟨trivial, Chg.of _ hW0, HAb1.out.grow hW0⟩) _ ?assignb1 ?bodyb1 (fun _ _ h => h) ?restb1
                case assignb1 =>
                  intro l' x W K hK
                  gi_wp2
                  exact hK
                case bodyb1 =>
                  rintro hi l' pre x W hhi ⟨hnl, hC, hN⟩ hsp hlen
                  have hat : M2[pre.length]? = some x := by
                    obtain ⟨r, hr⟩ := hsp
                    rw [← hr, List.append_assoc, List.getElem?_append_right (Nat.le_refl _), Nat.sub_self]
                    rfl
                  obtain ⟨gq, cq, hA, hlq, hgq8⟩ := World.ownsRow.form HO2.out (by omega)
                  injection hA with hA _ hc
                  subst hA hc
                  have hgq : gq < Xa1.heap.size := by omega
                  have hsW := hC.size
                  have q0 : W.cell? ⟨gq, pre.length * 2, none⟩ = some (.int .i64 x.1) := (World.cell?_of_block (a := ⟨gq, pre.length * 2, none⟩) (hC.block gq hgq (by omega))).trans ((HORb1.out.cellAt (pre.length * 2) (by omega)).trans (pcells_fst M2 _ x hat))
                  have q1 : W.cell? ⟨gq, pre.length * 2 + 1, none⟩ = some (.int .i64 x.2) := (World.cell?_of_block (a := ⟨gq, pre.length * 2 + 1, none⟩) (hC.block gq hgq (by omega))).trans ((HORb1.out.cellAt (pre.length * 2 + 1) (by omega)).trans (pcells_snd M2 _ x hat))
                  have n0 : W.cell? ⟨V1.heap.size + 1, 0, none⟩ = some (.int .i64 (pre.length : Int)) := hN.cell 0
                  have n1 : W.frozen? ⟨V1.heap.size + 1, 0, none⟩ = false := hN.frozen 0
                  have s0 : W.cell? ⟨b11, 1, none⟩ = some (.slice (some ⟨gq, 0, none⟩) M2.length k2) := (HCWRb1.out.chg hC (by omega)).cell 1
                  have t0 : W.cell? ⟨bt1, 0, none⟩ = some (.int .i64 1) := (HTRb1.out.chg hC (by omega)).cell 0
                  have lv : W.cell? ⟨w.heap.size, 0, none⟩ = some (.int .i64 leave) := (HLRb1.out.chg hC (by omega)).cell 0
                  obtain ⟨xa, xb⟩ := x
                  simp only at q0 q1
                  have e0 : (0 : Int) ≤ (pre.length : Int) := by omega
                  have e1 : (pre.length : Int) < (M2.length : Int) := by omega
                  have e2 : decide ((pre.length : Int) ≥ (M2.length : Int)) = false := by simp; omega
                  have e3 : IntKind.i64.wrap ((pre.length : Int) + 1) = (pre.length : Int) + 1 := IntWalk.i64_in _ (by have := HQ2.out.2.1; omega)
                  have HN := Lib.hid hN
                  have HC := Lib.hid hC
                  clear hat hsp hC hN
                  dsimp only
                  gi_wp2
                  exact ⟨KeepsOthers.setCell _ _ _, KeepX.set W (.inl (by show V1.heap.size + 1 < _; omega)) (by show ¬ (V1.heap.size + 1 = _ ∨ V1.heap.size + 1 = _); omega) _, (HC.out).step (Chg.set W ⟨V1.heap.size + 1, 0, none⟩ _) (fun _ _ e => e), by rw [List.length_append]; exact HN.out.set_ 0 (.int .i64 ((pre.length : Int) + 1))⟩
                case restb1 =>
                  intro hi Db1 pre W hDb1 hor hKb1
                  obtain ⟨av, hav, hC, hN⟩ : ∃ av : Int, (av = (M2.length : Int)) ∧ Chg (· = V1.heap.size + 1) Xa1 W ∧ Blk W (V1.heap.size + 1) 3 #[.int .i64 av] := by
                    rcases hor with ⟨rfl, h1, h2, h3⟩ | ⟨hp, h1, h2, h3⟩
                    · exact ⟨_, rfl, h2, h3⟩
                    · exact h1.elim
                  obtain ⟨Xb1, hX⟩ : ∃ z, z = W := ⟨_, rfl⟩
                  rw [← hX] at hC hN hKb1 ⊢
                  obtain ⟨avb1, hav0⟩ : ∃ z, z = av := ⟨_, rfl⟩
                  rw [← hav0] at hN hav
                  clear hor hX hav0
                  have HVXb1 := Lib.hid (HVXa1.out.trans (hC.below (B := W8.heap.size) HVXa1.out.size (fun k hk e => by omega)))
                  have HTX1 := Lib.hid (HTRb1.out.chg hC (by omega))
                  have HNA1 := Lib.hid (HNa1.out.chg hC (by omega))
                  have HNB1 := Lib.hid hN
                  have HAVb1 := Lib.hid hav
                  have HDA1 := Lib.hid ((hC.block Da1 hda1 (by omega)).trans HDa1.out)
                  have HDB1 := Lib.hid hKb1
                  have hxb1 := hC.size
                  have hdb1 := (Array.getElem?_eq_some_iff.1 hKb1).1
                  replace HOA := Lib.hid ((hC.block Da0 (by omega) (by omega)).trans HOA.out)
                  replace HOB := Lib.hid ((hC.block Db0 (by omega) (by omega)).trans HOB.out)
                  clear hC hN hav hKb1
                  have u1 : Xb1.cell? ⟨bt1, 0, none⟩ = some (.int .i64 1) := HTX1.out.cell 0
                  have u2 : Xb1.cell? ⟨w.heap.size, 0, none⟩ = some (.int .i64 leave) := (HC39.out.grow HVXb1.out).cell 0
                  have u3 : Xb1.cell? ⟨V1.heap.size, 0, none⟩ = some (.int .i64 ava1) := HNA1.out.cell 0
                  have u4 : Xb1.cell? ⟨V1.heap.size + 1, 0, none⟩ = some (.int .i64 avb1) := HNB1.out.cell 0
                  have u5 : Xb1.cell? ⟨b11, 0, none⟩ = some (.slice B1 M1.length k1) := (HCW.out.grow HVXb1.out).cell 0
                  have u6 : Xb1.cell? ⟨b11, 1, none⟩ = some (.slice B2 M2.length k2) := (HCW.out.grow HVXb1.out).cell 1
                  have e7 : decide ((1 : Int) > 0) = true := by decide
                  have e8 : ava1 = (M1.length : Int) := HAVa1.out
                  have e9 : avb1 = (M2.length : Int) := HAVb1.out
                  go_wp2_with fail
                  clear u1 u2 u3 u4 u5 u6
                  obtain ⟨V2, hV⟩ : ∃ W, W = Xb1.alloc (.cells #[.int .i64 2] 3) := ⟨_, rfl⟩
                  have hbV : Below Xb1.heap.size Xb1 V2 := by rw [hV]; exact (Below.refl _ _).alloc (Nat.le_refl _) _
                  have t2 : V2.cell? ⟨Xb1.heap.size, 0, none⟩ = some (.int .i64 2) := by rw [hV]; exact (Blk.new Xb1 3 #[.int .i64 2]).cell 0
                  have HV2 := Lib.hid (HVXb1.out.trans (hbV.mono HVXb1.out.size))
                  replace HOA := Lib.hid ((hbV.block Da0 (by omega)).trans HOA.out)
                  replace HOB := Lib.hid ((hbV.block Db0 (by omega)).trans HOB.out)
                  have HPA := Lib.hid ((hbV.block Da1 (by omega)).trans HDA1.out)
                  have HPB := Lib.hid ((hbV.block Db1 (by omega)).trans HDB1.out)
                  have hzv2 : Xb1.heap.size ≤ V2.heap.size := hbV.size
                  have HLM2 := Lib.hid (HLM.out.grow HV2.out)
                  have q3 : V2.cell? ⟨g, l.length * 7 + 3, none⟩ = some (.int .i64 771) := HLM2.out.cell (l.length * 7 + 3) (.int .i64 771) (by omega) (by
                    rw [scells_append, List.getElem?_append_right (by rw [scells_length]; omega), scells_length, show l.length * 7 + 3 - l.length * 7 = 3 by omega]
                    rfl)
                  have hcp := HLM2.out.cap1
                  have hwr : IntKind.i64.wrap ((l.length : Int) + 1) = ((l.length + 1 : Nat) : Int) := (IntWalk.i64_in _ (by omega)).trans (by omega)
                  have r1 : (l.length : Int) < ((l.length + 1 : Nat) : Int) := by omega
                  have r2 : (0 : Int) ≤ (l.length : Int) := by omega
                  have r3 : ((l.length + 1 : Nat) : Int) ≤ (mc : Int) := by omega
                  have r4 : (0 : Int) ≤ ((l.length + 1 : Nat) : Int) := by omega
                  have r5 : ¬ mc = 0 := by omega
                  rw [← hV]
                  clear hV hbV e5 e6 e7 e8 e9
                  rw [rounds_succ]
                  go_wp2_with fail
                  refine (known_any _).mono ?_
                  rintro e X9 ⟨rfl, hb⟩
                  have HV9 := Lib.hid (HV2.out.trans (hb.mono HV2.out.size))
                  replace HOA := Lib.hid ((hb.block Da0 (by omega)).trans HOA.out)
                  replace HOB := Lib.hid ((hb.block Db0 (by omega)).trans HOB.out)
                  replace HPA := Lib.hid ((hb.block Da1 (by omega)).trans HPA.out)
                  replace HPB := Lib.hid ((hb.block Db1 (by omega)).trans HPB.out)
                  have HC9 := Lib.hid (HC49.out.grow HV9.out)
                  have f4 : X9.frozen? ⟨w.heap.size + 1, 0, none⟩ = false := HC9.out.frozen 0
                  have c4 : X9.cell? ⟨w.heap.size + 1, 0, none⟩ = some (.bool false) := HC9.out.cell 0
                  clear hb q3 t2 hwr r1 r2 r3 r4 r5
                  go_wp2_with fail
                  obtain ⟨S, hS⟩ : ∃ S, S = X9.setCell ⟨w.heap.size + 1, 0, none⟩ (.bool true) := ⟨_, rfl⟩
                  have hSB : Blk S (w.heap.size + 1) 4 #[.bool true] := by rw [hS]; exact HC9.out.set_ 0 (.bool true)
                  have hSK : KeepsOthers X9 S := by rw [hS]; exact KeepsOthers.setCell _ _ _
                  have hSW : Below w.heap.size w S := by rw [hS]; exact (HBW.out.trans (HV9.out.mono HBW.out.size)).setCell (p := ⟨w.heap.size + 1, 0, none⟩) (by show w.heap.size ≤ w.heap.size + 1; omega) _
                  rw [← hS]
                  have k1' := hSK.same Db1 _ HPB.out rfl
                  have k2' := hSK.same Da1 _ HPA.out rfl
                  have k3' := hSK.same Db0 _ HOB.out rfl
                  have k4' := hSK.same Da0 _ HOA.out rfl
                  have HSB := Lib.hid hSB
                  have HSW := Lib.hid hSW
                  clear hS hSK hSB hSW f4 c4
                  have x12 : Da1 ≠ Db1 := by omega
                  have x13 : Db0 ≠ Db1 := by omega
                  have x14 : Da0 ≠ Db1 := by omega
                  have x23 : Db0 ≠ Da1 := by omega
                  have x24 : Da0 ≠ Da1 := by omega
                  have x34 : Da0 ≠ Db0 := by omega
                  refine ⟨by simp, .inl ⟨_, _, rfl, run_takeDeferred k1', ?_⟩⟩
                  have l2 : (S.putObj Db1 (.deferred none)).heap[Da1]? = some (.deferred (some [])) := (World.putObj_heap_other x12).trans k2'
                  have l3 : (S.putObj Db1 (.deferred none)).heap[Db0]? = some (.deferred (some [])) := (World.putObj_heap_other x13).trans k3'
                  have l4 : (S.putObj Db1 (.deferred none)).heap[Da0]? = some (.deferred (some [])) := (World.putObj_heap_other x14).trans k4'
                  refine ⟨by simp, .inl ⟨_, _, rfl, run_takeDeferred l2, ?_⟩⟩
                  have m3 : ((S.putObj Db1 (.deferred none)).putObj Da1 (.deferred none)).heap[Db0]? = some (.deferred (some [])) := (World.putObj_heap_other x23).trans l3
                  have m4 : ((S.putObj Db1 (.deferred none)).putObj Da1 (.deferred none)).heap[Da0]? = some (.deferred (some [])) := (World.putObj_heap_other x24).trans l4
                  refine ⟨by simp, .inl ⟨_, _, rfl, run_takeDeferred m3, ?_⟩⟩
                  have o4 : (((S.putObj Db1 (.deferred none)).putObj Da1 (.deferred none)).putObj Db0 (.deferred none)).heap[Da0]? = some (.deferred (some [])) := (World.putObj_heap_other x34).trans m4
                  refine ⟨by simp, .inl ⟨_, _, rfl, run_takeDeferred o4, ?_⟩⟩
                  have hT : Blk ((((S.putObj Db1 (.deferred none)).putObj Da1 (.deferred none)).putObj Db0 (.deferred none)).putObj Da0 (.deferred none)) (w.heap.size + 1) 4 #[.bool true] :=
                    (World.putObj_heap_other (by omega)).trans ((World.putObj_heap_other (by omega)).trans ((World.putObj_heap_other (by omega)).trans ((World.putObj_heap_other (by omega)).trans HSB.out)))
                  have hBT : Below w.heap.size w ((((S.putObj Db1 (.deferred none)).putObj Da1 (.deferred none)).putObj Db0 (.deferred none)).putObj Da0 (.deferred none)) :=
                    (((HSW.out.trans (belowK_b (w := w) (Nat.le_refl _) S Db1 _ _ (by omega) k1' rfl rfl)).trans (belowK_b (w := w) (Nat.le_refl _) _ Da1 _ _ (by omega) l2 rfl rfl)).trans (belowK_b (w := w) (Nat.le_refl _) _ Db0 _ _ (by omega) m3 rfl rfl)).trans (belowK_b (w := w) (Nat.le_refl _) _ Da0 _ _ (by omega) o4 rfl rfl)
                  generalize (((S.putObj Db1 (.deferred none)).putObj Da1 (.deferred none)).putObj Db0 (.deferred none)).putObj Da0 (.deferred none) = T at hT hBT ⊢
                  have j0 : T.cell? ⟨w.heap.size + 1, 0, none⟩ = some (.bool true) := hT.cell 0
                  clear hT
                  exact ⟨_, by simp [results, Tryz.results5, go_sem, j0], rfl, hBT⟩
end Go.Proofs.YtidejikolcgojaaGreat.St

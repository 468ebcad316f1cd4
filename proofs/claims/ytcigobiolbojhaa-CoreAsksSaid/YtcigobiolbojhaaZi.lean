/- Joined by program: RefBlocks SameX RefLeast2 Core9 RefTight PlainC PlainD. -/
import Derived.Test.YtcigobiolbojhaaZh
import Derived.Test.YtcigobiolbojhaaZe
/- The reference of layer 18: Blocks. -/
namespace Go.Proofs.Ytcigobiolbojhaa.Vb
open Go.RowKit

set_option maxRecDepth 100000 in
set_option maxHeartbeats 1600000 in
theorem refBlocks_err (n : Int) (bs : List (List Off)) (v : Value) (R Rp : Nat → Prop) (pay : List Int) (vp : Value) (w : World) (hl : Buys w R v bs) (hp : Sl w Rp vp pay.length 1 (ints pay)) (he : askE n bs pay ≠ 0) :
    Calls Try.prog 50 #[.agg #[.int .i64 n, v], vp] w (BlocksPost n bs pay w) := by
  obtain ⟨vs, ⟨_, A, cap, rfl, _⟩, _⟩ := id hl
  obtain ⟨_, Ap, capp, rfl, _⟩ := id hp
  have HB := Lib.hid hl
  have HP := Lib.hid hp
  have hne : (askE n bs pay != 0) = true := by simp [he]
  have HBB := Lib.hid (show blockB n bs pay = false from by unfold blockB; simp [he])
  have HE := Lib.hid he
  clear hl hp he
  go_enter Try.func50, Try.ntmps50
  go_wp2_with fail
  refine (refAsked_any n bs _ R Rp pay _ _ ((HB.out.alloc _).alloc _) ((HP.out.alloc _).alloc _)).mono ?_
  rintro e w1 ⟨(⟨h0, _⟩ | ⟨_, rfl⟩), hb1⟩
  · exact absurd h0 HE.out
  have hb1a := hb1.mono (B' := w.heap.size + 2) (by simp)
  obtain ⟨cx0, cx1, cy0, cy1, fx, fy, hs1, hb1'⟩ := two_new hb1a
  have HB1 := Lib.hid hb1'
  clear hb1 hb1a hb1'
  go_wp2_with fail
  have hL : blockL n bs pay = [] := by unfold blockL; rw [HBB.out]; rfl
  have hM : blockM n bs pay = 0 := by unfold blockM; rw [HBB.out]; rfl
  refine bodyPost_ret (v := .tuple #[.agg #[.slice none 0 0, .int .i64 0], .bool false, .int .i64 (askE n bs pay)]) (by simp [results, Try.results50, go_sem, cy0, cy1]) rfl ?_
  unfold BlocksPost
  rw [hL, hM, HBB.out]
  exact ⟨none, 0, rfl, World.ownsRow_nil _ _ _ _, (HB1.out.setCell (p := ⟨w.heap.size + 1, 0, none⟩) (by simp) _).setCell (p := ⟨w.heap.size + 1, 1, none⟩) (by simp) _⟩

set_option maxRecDepth 100000 in
set_option maxHeartbeats 3200000 in
theorem refBlocks_ok (n : Int) (bs : List (List Off)) (v : Value) (R Rp : Nat → Prop) (pay : List Int) (vp : Value) (w : World) (hl : Buys w R v bs) (hp : Sl w Rp vp pay.length 1 (ints pay)) (he : askE n bs pay = 0) :
    Calls Try.prog 50 #[.agg #[.int .i64 n, v], vp] w (BlocksPost n bs pay w) := by
  obtain ⟨vs, ⟨_, A, cap, rfl, _⟩, _⟩ := id hl
  obtain ⟨_, Ap, capp, rfl, _⟩ := id hp
  obtain ⟨hi, hok⟩ := askE_zero he
  have hwf := Buys.wf hl
  have hpb := pay_bd hi hwf hok
  have hl32 := (instE_zero hi).2.2.1
  have hpl := pay_len hok
  obtain ⟨hs0, hs1⟩ := sum_bd hpb (by omega)
  obtain ⟨hw0, hw1⟩ := W_bd (lowB_wf hwf hok) (instE_low hi hok)
  obtain ⟨Wt, hWt⟩ : ∃ x, x = W (lowB n bs pay) (allOf n) := ⟨_, rfl⟩
  obtain ⟨T, hT⟩ : ∃ x, x = sumI pay := ⟨_, rfl⟩
  have hmo : moreI n bs pay = Wt - T := by unfold moreI; rw [hWt, hT]
  rw [← hWt] at hw0 hw1
  rw [← hT] at hs0 hs1
  have e1 : IntKind.i64.wrap (Wt - T) = Wt - T := IntWalk.i64_in _ (by omega)
  have hpl64 : pay.length ≤ 64 := by omega
  have HB := Lib.hid hl
  have HP := Lib.hid hp
  have HE := Lib.hid he
  have HI := Lib.hid hi
  have HOK := Lib.hid hok
  have HIL := Lib.hid (instE_low hi hok)
  have HPB := Lib.hid hpb
  have HT := Lib.hid hT
  have HWT := Lib.hid hWt
  have HMO := Lib.hid hmo
  have HLL := Lib.hid (lowB_length n bs pay)
  clear hl hp he hi hok hpb hwf hT hWt hmo hpl
  go_enter Try.func50, Try.ntmps50
  go_wp2_with fail
  refine (refAsked_any n bs _ R Rp pay _ _ ((HB.out.alloc _).alloc _) ((HP.out.alloc _).alloc _)).mono ?_
  rintro e w1 ⟨(⟨_, A1, c1, A9, c9, rfl, hown1, _⟩ | ⟨h0, _⟩), hb1⟩
  case inr => exact absurd HE.out h0
  have hb1a := hb1.mono (B' := w.heap.size + 2) (by simp)
  have HX := Lib.hid (two_blk hb1a).1
  have HR := Lib.hid (two_blk hb1a).2
  have HB1 := Lib.hid (two_new hb1a).2.2.2.2.2.2.2
  have hsz1 := hb1a.size
  simp at hsz1
  have HBI := Lib.hid (Sl.of_own hown1).any
  have x0 : w1.cell? ⟨w.heap.size, 0, none⟩ = some (.int .i64 n) := HX.out.cell 0
  have x1 : w1.cell? ⟨w.heap.size, 1, none⟩ = some (.slice A bs.length cap) := HX.out.cell 1
  clear hb1 hb1a hown1
  go_wp2_with fail
  refine (refLower18_any n bs _ pay _ _ (fun _ => True) Rp R _ (HB.out.grow HB1.out) HBI.out (HP.out.grow HB1.out) HI.out HOK.out).mono ?_
  rintro e w2 ⟨A2, c2, rfl, hob, hb2⟩
  have HOB := Lib.hid hob
  have HB2 := Lib.hid hb2
  have hsz2 := hb2.size
  clear hb2 hob x0 x1
  go_wp2_with fail
  refine (refBest15_ok n (lowB n bs pay) (.slice A2 bs.length c2) _ _ HOB.out.buys HIL.out).mono ?_
  rintro e w3 ⟨A3, c3, rfl, hown, hb3⟩
  rw [HLL.out] at hown ⊢
  rw [← HWT.out]
  have HO3 := Lib.hid hown
  have HB3 := Lib.hid hb3
  have hsz3 := hb3.size
  clear hb3 hown
  go_wp2_with fail
  obtain ⟨W4, hW4⟩ : ∃ W4, W4 = w3.alloc (.cells #[.slice A3 bs.length c3, .int .i64 Wt] 66) := ⟨_, rfl⟩
  have HB4 := Lib.hid (show Below w.heap.size w W4 from by rw [hW4]; exact (HB1.out.trans ((HB2.out.mono (by omega)).trans (HB3.out.mono (by omega)))).alloc (by omega) _)
  have HBX := Lib.hid (show Below w1.heap.size w1 W4 from by rw [hW4]; exact (HB2.out.trans (HB3.out.mono (by omega))).alloc (by omega) _)
  have HC4 := Lib.hid (show Blk W4 w3.heap.size 66 #[.slice A3 bs.length c3, .int .i64 Wt] from by rw [hW4]; exact Blk.new w3 _ _)
  have HO4 := Lib.hid (show W4.ownsRow _ _ _ _ _ _ from by rw [hW4]; exact own_alloc HO3.out _)
  have HBY := Lib.hid (show Below w3.heap.size w3 W4 from by rw [hW4]; exact (Below.refl _ _).alloc (Nat.le_refl _) _)
  have hs4 : W4.heap.size = w3.heap.size + 1 := by rw [hW4]; simp
  rw [← hW4]
  clear hW4
  have d0 : W4.cell? ⟨w3.heap.size, 1, none⟩ = some (.int .i64 Wt) := HC4.out.cell 1
  have htot : ∀ V, Below W4.heap.size W4 V → Calls Try.prog 104 #[.slice Ap pay.length capp] V fun e w' => e = .returned (.int .i64 T) ∧ V = w' := fun V hV => by rw [HT.out]; exact refTotal_any pay _ Rp V ((HP.out.grow HB4.out).grow hV) (fun x hx => by have := HPB.out x hx; omega) hpl64
  have HTOT := Lib.hid htot
  clear htot
  by_cases hgt : 0 < Wt - T
  · have HBB := Lib.hid (show blockB n bs pay = true from by unfold blockB; rw [HE.out, HMO.out]; simp; omega)
    have hgt' : ¬ (Wt ≤ T) := by omega
    go_quiet ((go_at_call 104; exact quiet_left (v := .int .i64 T) (HTOT.out _ (below_drewN (Below.refl _ _) _))))
    go_wp2_with fail
    obtain ⟨V4, hV4⟩ : ∃ V, V = W4.drewN nq := ⟨_, rfl⟩
    have HB4 := Lib.hid (show Below w.heap.size w V4 from by rw [hV4]; exact below_drewN HB4.out _)
    have HBX := Lib.hid (show Below w1.heap.size w1 V4 from by rw [hV4]; exact below_drewN HBX.out _)
    have HBY := Lib.hid (show Below w3.heap.size w3 V4 from by rw [hV4]; exact below_drewN HBY.out _)
    have HC4 := Lib.hid (show Blk V4 w3.heap.size 66 #[.slice A3 bs.length c3, .int .i64 Wt] from by rw [hV4]; exact HC4.out.drewN _)
    have hs4 : V4.heap.size = w3.heap.size + 1 := by rw [hV4]; simpa using hs4
    have d0 : V4.cell? ⟨w3.heap.size, 1, none⟩ = some (.int .i64 Wt) := HC4.out.cell 1
    rw [← hV4]
    clear hV4
    refine wp_region_F (Below V4.heap.size V4) [] (by kernel_rfl) ((Below.refl _ _).drew) (fun hS => ?_)
    refine wpAnyF_take (i := 0) (oi := { dst := some 39, op := Go.Op.fieldAddr 66 (Go.Operand.tmp 10) 1, type := 0, pos := "ref.go:125", after := #[], guard := none }) (v := ?_) rfl (by kernel_rfl) (by kernel_rfl) (by kernel_rfl) (by kernel_rfl) (fun _ _ _ h => h) (Or.inl ⟨by rfl, ?_⟩) hS ?_
    rotate_left
    · intro w' hSw; have q1 := (hSw.cell (p := ⟨w3.heap.size, 1, none⟩) (by simp <;> omega)).trans d0; go_simp; try with_reducible rfl
    try simp only [Act.put, List.setIfInBounds_toArray, List.set_cons_zero, List.set_cons_succ]
    refine wpAnyF_take (i := 1) (oi := { dst := some 40, op := Go.Op.load 2 (Go.Operand.tmp 39), type := 2, pos := "ref.go:125", after := #[{ on := 0, ground := Go.Ground.data }], guard := none }) (v := ?_) rfl (by kernel_rfl) (by kernel_rfl) (by kernel_rfl) (by kernel_rfl) (fun _ _ _ h => h) (Or.inl ⟨by rfl, ?_⟩) hS ?_
    rotate_left
    · intro w' hSw; have q1 := (hSw.cell (p := ⟨w3.heap.size, 1, none⟩) (by simp <;> omega)).trans d0; go_simp; try with_reducible rfl
    try simp only [Act.put, List.setIfInBounds_toArray, List.set_cons_zero, List.set_cons_succ]
    refine wpAnyF_take (i := 2) (oi := { dst := some 41, op := Go.Op.move (Go.Operand.tmp 1), type := 34, pos := "ref.go:125", after := #[], guard := none }) (v := ?_) rfl (by kernel_rfl) (by kernel_rfl) (by kernel_rfl) (by kernel_rfl) (fun _ _ _ h => h) (Or.inl ⟨by rfl, ?_⟩) hS ?_
    rotate_left
    · intro w' hSw; have q1 := (hSw.cell (p := ⟨w3.heap.size, 1, none⟩) (by simp <;> omega)).trans d0; go_simp; try with_reducible rfl
    try simp only [Act.put, List.setIfInBounds_toArray, List.set_cons_zero, List.set_cons_succ]
    refine wpAnyF_ready (rs := [3, 6]) (by kernel_rfl) (by simp) ?_
    refine AllReadyF.cons (o := { dst := some 42, op := Go.Op.call { callee := Go.Callee.value (Go.Operand.func 104), args := #[Go.Operand.tmp 41], argTypes := #[34] }, type := 2, pos := "ref.go:125", after := #[{ on := 2, ground := Go.Ground.data }], guard := none }) rfl (by rfl) (fun K hK => ?_) ?_
    · go_simp
      refine (refTotal_any pay _ Rp _ (((HP.out.grow HB4.out).grow (Below.refl _ _).drew)) (fun x hx => by have := HPB.out x hx; omega) hpl64).mono ?_
      rintro e w4 ⟨rfl, rfl⟩
      rw [← HT.out]
      refine hK.out _ _ ?_ (fun hS => ?_)
      · exact hS
      clear hK K
      try simp only [Act.put, List.setIfInBounds_toArray, List.set_cons_zero, List.set_cons_succ]
      refine wpAnyF_take (i := 4) (oi := { dst := some 43, op := Go.Op.binOp Go.BinOp.sub 2 (Go.Operand.tmp 40) (Go.Operand.tmp 42) 2, type := 2, pos := "ref.go:125", after := #[{ on := 1, ground := Go.Ground.data }, { on := 3, ground := Go.Ground.data }], guard := none }) (v := ?_) rfl (by kernel_rfl) (by kernel_rfl) (by kernel_rfl) (by kernel_rfl) (fun _ _ _ h => h) (Or.inl ⟨by rfl, ?_⟩) hS ?_
      rotate_left
      · intro w' hSw; have q1 := (hSw.cell (p := ⟨w3.heap.size, 1, none⟩) (by simp <;> omega)).trans d0; go_simp; try with_reducible rfl
      try simp only [Act.put, List.setIfInBounds_toArray, List.set_cons_zero, List.set_cons_succ]
      refine wpAnyF_take (i := 5) (oi := { dst := some 44, op := Go.Op.build 85 #[(1, Go.Operand.tmp 43)], type := 85, pos := "ref.go:125", after := #[{ on := 4, ground := Go.Ground.data }], guard := none }) (v := ?_) rfl (by kernel_rfl) (by kernel_rfl) (by kernel_rfl) (by kernel_rfl) (fun _ _ _ h => h) (Or.inl ⟨by rfl, ?_⟩) hS ?_
      rotate_left
      · intro w' hSw; have q1 := (hSw.cell (p := ⟨w3.heap.size, 1, none⟩) (by simp <;> omega)).trans d0; go_simp; try with_reducible rfl
      try simp only [Act.put, List.setIfInBounds_toArray, List.set_cons_zero, List.set_cons_succ]
      refine wpAnyF_ready (rs := [6]) (by kernel_rfl) (by simp) ?_
      refine AllReadyF.cons (o := { dst := some 12, op := Go.Op.alloc 85, type := 0, pos := "ref.go:125", after := #[], guard := none }) rfl (by rfl) (fun K hK => ?_) ?_
      · go_simp
        refine hK.out _ _ ?_ (fun hS => ?_)
        · exact hS.alloc hS.size _
        clear hK K
        try simp only [Act.put, List.setIfInBounds_toArray, List.set_cons_zero, List.set_cons_succ]
        refine wpAnyF_ready (rs := [7]) (by kernel_rfl) (by simp) ?_
        refine AllReadyF.cons (o := { dst := none, op := Go.Op.store 85 (Go.Operand.tmp 12) (Go.Operand.tmp 44), type := 0, pos := "ref.go:125", after := #[{ on := 6, ground := Go.Ground.data }, { on := 5, ground := Go.Ground.data }, { on := 3, ground := Go.Ground.chain }, { on := 0, ground := Go.Ground.phase }, { on := 1, ground := Go.Ground.phase }, { on := 2, ground := Go.Ground.phase }, { on := 3, ground := Go.Ground.phase }, { on := 4, ground := Go.Ground.phase }, { on := 5, ground := Go.Ground.phase }, { on := 6, ground := Go.Ground.phase }], guard := none }) rfl (by rfl) (fun K hK => ?_) ?_
        · go_simp
          refine hK.out _ _ ?_ (fun hS => ?_)
          · first | exact ((Below.refl _ _).alloc (Nat.le_refl _) _).drew | exact ((Below.refl _ _).drew.alloc (Nat.le_refl _) _) | exact ((Below.refl _ _).alloc (Nat.le_refl _) _)
          clear hK K
          try simp only [Act.put, List.setIfInBounds_toArray, List.set_cons_zero, List.set_cons_succ]
          refine wpAnyF_done (by kernel_rfl) ?_ _
          clear hS
          obtain ⟨W5, hW5⟩ : ∃ W5, W5 = (V4.alloc (.cells #[.slice none 0 0, .int .i64 (Wt - T)] 85)).drew := ⟨_, rfl⟩
          have HN5 := Lib.hid (show Blk W5 (w3.heap.size + 1) 85 #[.slice none 0 0, .int .i64 (Wt - T)] from by rw [hW5]; exact (Blk.new' _ _ hs4).drew)
          have HB5 := Lib.hid (show Below V4.heap.size V4 W5 from by rw [hW5]; exact ((Below.refl _ _).alloc (Nat.le_refl _) _).drew)
          have hs5 : V4.heap.size < W5.heap.size := by rw [hW5]; simp [World.drew]
          rw [← hW5]
          clear hW5
          have n1 : W5.cell? ⟨w3.heap.size + 1, 1, none⟩ = some (.int .i64 (Wt - T)) := HN5.out.cell 1
          have c00 : W5.cell? ⟨w3.heap.size, 0, none⟩ = some (.slice A3 bs.length c3) := (HC4.out.grow HB5.out).cell 0
          have hcl : (bestC n (lowB n bs pay)).length = bs.length := by rw [bestC, choose_length, lowB_length]
          have HCL := Lib.hid hcl
          clear hcl
          go_wp2_with fail
          go_loopw [13] (fun i wr => ∃ (k : Nat) (A' : Option Addr) (cap' : Nat), k ≤ bs.length ∧ i = .int .i64 k ∧ wr.ownsRow (w3.heap.size + 2) 3 1 (.slice A' (whoTo (bestC n (lowB n bs pay)) k).length cap') (whoTo (bestC n (lowB n bs pay)) k).length (ints (whoTo (bestC n (lowB n bs pay)) k)) ∧
              Blk wr (w3.heap.size + 1) 85 #[.slice A' (whoTo (bestC n (lowB n bs pay)) k).length cap', .int .i64 (Wt - T)] ∧ Below (w3.heap.size + 1) W5 wr)
            (fun i _ => bs.length - (intOf i).toNat)
          case atStart => exact ⟨0, none, 0, Nat.zero_le _, rfl, World.ownsRow_nil _ _ _ _, HN5.out, Below.refl _ _⟩
          case round =>
            obtain ⟨k, A', cap', hk, rfl, hown, hn, hb⟩ := hrel
            have hby := HBY.out.trans ((HB5.out.mono (B' := w3.heap.size) (by omega)).trans (hb.mono (by omega)))
            have hszr : w3.heap.size + 2 ≤ wr.heap.size := by have := hn.lt; omega
            have m0 : wr.cell? ⟨w3.heap.size + 1, 0, none⟩ = some (.slice A' (whoTo (bestC n (lowB n bs pay)) k).length cap') := hn.cell 0
            have mf := hn.frozen
            have mc : wr.cell? ⟨w3.heap.size, 0, none⟩ = some (.slice A3 bs.length c3) := ((HC4.out.grow HB5.out).below hb (by omega)).cell 0
            have hwl := whoTo_len (bestC n (lowB n bs pay)) k
            have HON := Lib.hid hown
            have HN := Lib.hid hn
            have HBR := Lib.hid hb
            have HBZ := Lib.hid hby
            clear hown hn hb hby
            by_cases hlt : k < bs.length
            · obtain ⟨gC, oC, c, rfl, hgC, hc, cc⟩ := (Sl.of_own HO3.out).int_at hlt
              have dc := (HBZ.out.cell (p := ⟨gC, oC + k, none⟩) hgC).trans cc
              have HC := Lib.hid hc
              clear cc hc
              by_cases h0 : 0 ≤ c
              · have hge : c ≥ 0 := h0
                have HWY := Lib.hid (whoTo_yes (show winB (bestC n (lowB n bs pay)) k = true from by unfold winB; rw [HC.out]; simp [h0]))
                have m0a := cellAlloc m0 (.cells #[.int .i64 (k : Int)] 3)
                go_wp2_with (at_builtin; go_must (refine wpList_app _ rfl (.tmp 59) (.tmp 61) et_int rfl (w3.heap.size + 2) (.slice A' (whoTo (bestC n (lowB n bs pay)) k).length cap') _ _ rfl (own_alloc HON.out _) _ _ 1 _ rfl (Sl.new wr #[.int .i64 (k : Int)] _ 1 1 (by unfold maxLen; omega) rfl) (by simp [Value.oneCell']) (by omega) (by unfold maxLen; omega) (by simp; omega) ?_); intro A6 c6 w6 hown6 hg6 hloc6; have hn6 : Blk w6 (w3.heap.size + 1) 85 #[.slice A' (whoTo (bestC n (lowB n bs pay)) k).length cap', .int .i64 (Wt - T)] := (HN.out.alloc _).grown hg6 (fun e => by have := (HON.out.lt _ e.symm).1; omega); have k0 := hn6.cell 0; have k1 := hn6.frozen 0; have HN6 := Lib.hid hn6; have HO6 := Lib.hid hown6; have HG6 := Lib.hid hg6; clear hn6 hown6 hg6 hloc6)
                go_roundw
                case rel =>
                  have hlen3 : (whoTo (bestC n (lowB n bs pay)) (k + 1)).length = (whoTo (bestC n (lowB n bs pay)) k).length + 1 := by rw [HWY.out]; simp
                  refine ⟨k + 1, A6, c6, by omega, by go_num, ?_, ?_, ?_⟩
                  · have h1 := ownsRow_setCell_below HO6.out (a := ⟨w3.heap.size + 1, 0, none⟩) (by simp) (.slice A6 ((whoTo (bestC n (lowB n bs pay)) k).length + 1) c6)
                    rw [hlen3, HWY.out]
                    simpa [ints] using h1
                  · rw [hlen3]; exact HN6.out.set_ 0 _
                  · exact ((HBR.out.alloc (by omega) _).grown HG6.out (by simp; omega) (fun j e => by have := (HON.out.lt j e).1; omega)).setCell (p := ⟨w3.heap.size + 1, 0, none⟩) (by simp) _
                case measure => simp [intOf]; omega
              · have hge : ¬ (c ≥ 0) := h0
                have HWY := Lib.hid (whoTo_no (show winB (bestC n (lowB n bs pay)) k = false from by unfold winB; rw [HC.out]; simp [h0]))
                go_wp2
                go_roundw
                case rel =>
                  refine ⟨k + 1, A', cap', by omega, by go_num, ?_, ?_, HBR.out⟩
                  · rw [HWY.out]; exact HON.out
                  · rw [HWY.out]; exact HN.out
                case measure => simp [intOf]; omega
            · obtain rfl : k = bs.length := by omega
              have hbw := HB4.out.trans ((HB5.out.mono (B' := w.heap.size) (by omega)).trans (HBR.out.mono (by omega)))
              have hR := HR.out.below (HBX.out.trans ((HB5.out.mono (B' := w1.heap.size) (by omega)).trans (HBR.out.mono (by omega)))) (by omega)
              have r0 := hR.cell 0
              have r1 := hR.cell 1
              have rf := hR.frozen
              have m1 : wr.cell? ⟨w3.heap.size + 1, 1, none⟩ = some (.int .i64 (Wt - T)) := HN.out.cell 1
              have HBW := Lib.hid hbw
              have HRR := Lib.hid hR
              clear hbw hR
              go_wp2_with fail
              have hq := (HRR.out.set_ 0 (.slice A' (whoTo (bestC n (lowB n bs pay)) bs.length).length cap')).set_ 1 (.int .i64 (Wt - T))
              have s0 := hq.cell 0
              have s1 := hq.cell 1
              simp at s0 s1
              refine bodyPost_ret (v := .tuple #[.agg #[.slice A' (whoTo (bestC n (lowB n bs pay)) bs.length).length cap', .int .i64 (Wt - T)], .bool true, .int .i64 0]) (by simp [results, Try.results50, go_sem, s0, s1]) rfl ?_
              have hL : blockL n bs pay = whoTo (bestC n (lowB n bs pay)) bs.length := by unfold blockL; rw [HBB.out]; rfl
              have hM : blockM n bs pay = Wt - T := by unfold blockM; rw [HBB.out, HMO.out]; rfl
              unfold BlocksPost
              rw [hL, hM, HBB.out, HE.out]
              exact ⟨_, _, rfl, own_mono (ownsRow_setCell_below (ownsRow_setCell_below HON.out (a := ⟨w.heap.size + 1, 0, none⟩) (by simp; omega) _) (a := ⟨w.heap.size + 1, 1, none⟩) (by simp; omega) _) (by omega), (HBW.out.setCell (p := ⟨w.heap.size + 1, 0, none⟩) (by simp) _).setCell (p := ⟨w.heap.size + 1, 1, none⟩) (by simp) _⟩
          
        exact AllReadyF.nil
      exact AllReadyF.nil
    refine AllReadyF.cons (o := { dst := some 12, op := Go.Op.alloc 85, type := 0, pos := "ref.go:125", after := #[], guard := none }) rfl (by rfl) (fun K hK => ?_) ?_
    · go_simp
      refine hK.out _ _ ?_ (fun hS => ?_)
      · exact hS.alloc hS.size _
      clear hK K
      try simp only [Act.put, List.setIfInBounds_toArray, List.set_cons_zero, List.set_cons_succ]
      refine wpAnyF_ready (rs := [3]) (by kernel_rfl) (by simp) ?_
      refine AllReadyF.cons (o := { dst := some 42, op := Go.Op.call { callee := Go.Callee.value (Go.Operand.func 104), args := #[Go.Operand.tmp 41], argTypes := #[34] }, type := 2, pos := "ref.go:125", after := #[{ on := 2, ground := Go.Ground.data }], guard := none }) rfl (by rfl) (fun K hK => ?_) ?_
      · go_simp
        refine (refTotal_any pay _ Rp _ (((HP.out.grow HB4.out).grow (Below.refl _ _).drew).alloc _) (fun x hx => by have := HPB.out x hx; omega) hpl64).mono ?_
        rintro e w4 ⟨rfl, rfl⟩
        rw [← HT.out]
        refine hK.out _ _ ?_ (fun hS => ?_)
        · exact hS
        clear hK K
        try simp only [Act.put, List.setIfInBounds_toArray, List.set_cons_zero, List.set_cons_succ]
        refine wpAnyF_take (i := 4) (oi := { dst := some 43, op := Go.Op.binOp Go.BinOp.sub 2 (Go.Operand.tmp 40) (Go.Operand.tmp 42) 2, type := 2, pos := "ref.go:125", after := #[{ on := 1, ground := Go.Ground.data }, { on := 3, ground := Go.Ground.data }], guard := none }) (v := ?_) rfl (by kernel_rfl) (by kernel_rfl) (by kernel_rfl) (by kernel_rfl) (fun _ _ _ h => h) (Or.inl ⟨by rfl, ?_⟩) hS ?_
        rotate_left
        · intro w' hSw; have q1 := (hSw.cell (p := ⟨w3.heap.size, 1, none⟩) (by simp <;> omega)).trans d0; go_simp; try with_reducible rfl
        try simp only [Act.put, List.setIfInBounds_toArray, List.set_cons_zero, List.set_cons_succ]
        refine wpAnyF_take (i := 5) (oi := { dst := some 44, op := Go.Op.build 85 #[(1, Go.Operand.tmp 43)], type := 85, pos := "ref.go:125", after := #[{ on := 4, ground := Go.Ground.data }], guard := none }) (v := ?_) rfl (by kernel_rfl) (by kernel_rfl) (by kernel_rfl) (by kernel_rfl) (fun _ _ _ h => h) (Or.inl ⟨by rfl, ?_⟩) hS ?_
        rotate_left
        · intro w' hSw; have q1 := (hSw.cell (p := ⟨w3.heap.size, 1, none⟩) (by simp <;> omega)).trans d0; go_simp; try with_reducible rfl
        try simp only [Act.put, List.setIfInBounds_toArray, List.set_cons_zero, List.set_cons_succ]
        refine wpAnyF_ready (rs := [7]) (by kernel_rfl) (by simp) ?_
        refine AllReadyF.cons (o := { dst := none, op := Go.Op.store 85 (Go.Operand.tmp 12) (Go.Operand.tmp 44), type := 0, pos := "ref.go:125", after := #[{ on := 6, ground := Go.Ground.data }, { on := 5, ground := Go.Ground.data }, { on := 3, ground := Go.Ground.chain }, { on := 0, ground := Go.Ground.phase }, { on := 1, ground := Go.Ground.phase }, { on := 2, ground := Go.Ground.phase }, { on := 3, ground := Go.Ground.phase }, { on := 4, ground := Go.Ground.phase }, { on := 5, ground := Go.Ground.phase }, { on := 6, ground := Go.Ground.phase }], guard := none }) rfl (by rfl) (fun K hK => ?_) ?_
        · go_simp
          refine hK.out _ _ ?_ (fun hS => ?_)
          · first | exact ((Below.refl _ _).alloc (Nat.le_refl _) _).drew | exact ((Below.refl _ _).drew.alloc (Nat.le_refl _) _) | exact ((Below.refl _ _).alloc (Nat.le_refl _) _)
          clear hK K
          try simp only [Act.put, List.setIfInBounds_toArray, List.set_cons_zero, List.set_cons_succ]
          refine wpAnyF_done (by kernel_rfl) ?_ _
          clear hS
          obtain ⟨W5, hW5⟩ : ∃ W5, W5 = (V4.alloc (.cells #[.slice none 0 0, .int .i64 (Wt - T)] 85)).drew := ⟨_, rfl⟩
          have HN5 := Lib.hid (show Blk W5 (w3.heap.size + 1) 85 #[.slice none 0 0, .int .i64 (Wt - T)] from by rw [hW5]; exact (Blk.new' _ _ hs4).drew)
          have HB5 := Lib.hid (show Below V4.heap.size V4 W5 from by rw [hW5]; exact ((Below.refl _ _).alloc (Nat.le_refl _) _).drew)
          have hs5 : V4.heap.size < W5.heap.size := by rw [hW5]; simp [World.drew]
          rw [← hW5]
          clear hW5
          have n1 : W5.cell? ⟨w3.heap.size + 1, 1, none⟩ = some (.int .i64 (Wt - T)) := HN5.out.cell 1
          have c00 : W5.cell? ⟨w3.heap.size, 0, none⟩ = some (.slice A3 bs.length c3) := (HC4.out.grow HB5.out).cell 0
          have hcl : (bestC n (lowB n bs pay)).length = bs.length := by rw [bestC, choose_length, lowB_length]
          have HCL := Lib.hid hcl
          clear hcl
          go_wp2_with fail
          go_loopw [13] (fun i wr => ∃ (k : Nat) (A' : Option Addr) (cap' : Nat), k ≤ bs.length ∧ i = .int .i64 k ∧ wr.ownsRow (w3.heap.size + 2) 3 1 (.slice A' (whoTo (bestC n (lowB n bs pay)) k).length cap') (whoTo (bestC n (lowB n bs pay)) k).length (ints (whoTo (bestC n (lowB n bs pay)) k)) ∧
              Blk wr (w3.heap.size + 1) 85 #[.slice A' (whoTo (bestC n (lowB n bs pay)) k).length cap', .int .i64 (Wt - T)] ∧ Below (w3.heap.size + 1) W5 wr)
            (fun i _ => bs.length - (intOf i).toNat)
          case atStart => exact ⟨0, none, 0, Nat.zero_le _, rfl, World.ownsRow_nil _ _ _ _, HN5.out, Below.refl _ _⟩
          case round =>
            obtain ⟨k, A', cap', hk, rfl, hown, hn, hb⟩ := hrel
            have hby := HBY.out.trans ((HB5.out.mono (B' := w3.heap.size) (by omega)).trans (hb.mono (by omega)))
            have hszr : w3.heap.size + 2 ≤ wr.heap.size := by have := hn.lt; omega
            have m0 : wr.cell? ⟨w3.heap.size + 1, 0, none⟩ = some (.slice A' (whoTo (bestC n (lowB n bs pay)) k).length cap') := hn.cell 0
            have mf := hn.frozen
            have mc : wr.cell? ⟨w3.heap.size, 0, none⟩ = some (.slice A3 bs.length c3) := ((HC4.out.grow HB5.out).below hb (by omega)).cell 0
            have hwl := whoTo_len (bestC n (lowB n bs pay)) k
            have HON := Lib.hid hown
            have HN := Lib.hid hn
            have HBR := Lib.hid hb
            have HBZ := Lib.hid hby
            clear hown hn hb hby
            by_cases hlt : k < bs.length
            · obtain ⟨gC, oC, c, rfl, hgC, hc, cc⟩ := (Sl.of_own HO3.out).int_at hlt
              have dc := (HBZ.out.cell (p := ⟨gC, oC + k, none⟩) hgC).trans cc
              have HC := Lib.hid hc
              clear cc hc
              by_cases h0 : 0 ≤ c
              · have hge : c ≥ 0 := h0
                have HWY := Lib.hid (whoTo_yes (show winB (bestC n (lowB n bs pay)) k = true from by unfold winB; rw [HC.out]; simp [h0]))
                have m0a := cellAlloc m0 (.cells #[.int .i64 (k : Int)] 3)
                go_wp2_with (at_builtin; go_must (refine wpList_app _ rfl (.tmp 59) (.tmp 61) et_int rfl (w3.heap.size + 2) (.slice A' (whoTo (bestC n (lowB n bs pay)) k).length cap') _ _ rfl (own_alloc HON.out _) _ _ 1 _ rfl (Sl.new wr #[.int .i64 (k : Int)] _ 1 1 (by unfold maxLen; omega) rfl) (by simp [Value.oneCell']) (by omega) (by unfold maxLen; omega) (by simp; omega) ?_); intro A6 c6 w6 hown6 hg6 hloc6; have hn6 : Blk w6 (w3.heap.size + 1) 85 #[.slice A' (whoTo (bestC n (lowB n bs pay)) k).length cap', .int .i64 (Wt - T)] := (HN.out.alloc _).grown hg6 (fun e => by have := (HON.out.lt _ e.symm).1; omega); have k0 := hn6.cell 0; have k1 := hn6.frozen 0; have HN6 := Lib.hid hn6; have HO6 := Lib.hid hown6; have HG6 := Lib.hid hg6; clear hn6 hown6 hg6 hloc6)
                go_roundw
                case rel =>
                  have hlen3 : (whoTo (bestC n (lowB n bs pay)) (k + 1)).length = (whoTo (bestC n (lowB n bs pay)) k).length + 1 := by rw [HWY.out]; simp
                  refine ⟨k + 1, A6, c6, by omega, by go_num, ?_, ?_, ?_⟩
                  · have h1 := ownsRow_setCell_below HO6.out (a := ⟨w3.heap.size + 1, 0, none⟩) (by simp) (.slice A6 ((whoTo (bestC n (lowB n bs pay)) k).length + 1) c6)
                    rw [hlen3, HWY.out]
                    simpa [ints] using h1
                  · rw [hlen3]; exact HN6.out.set_ 0 _
                  · exact ((HBR.out.alloc (by omega) _).grown HG6.out (by simp; omega) (fun j e => by have := (HON.out.lt j e).1; omega)).setCell (p := ⟨w3.heap.size + 1, 0, none⟩) (by simp) _
                case measure => simp [intOf]; omega
              · have hge : ¬ (c ≥ 0) := h0
                have HWY := Lib.hid (whoTo_no (show winB (bestC n (lowB n bs pay)) k = false from by unfold winB; rw [HC.out]; simp [h0]))
                go_wp2
                go_roundw
                case rel =>
                  refine ⟨k + 1, A', cap', by omega, by go_num, ?_, ?_, HBR.out⟩
                  · rw [HWY.out]; exact HON.out
                  · rw [HWY.out]; exact HN.out
                case measure => simp [intOf]; omega
            · obtain rfl : k = bs.length := by omega
              have hbw := HB4.out.trans ((HB5.out.mono (B' := w.heap.size) (by omega)).trans (HBR.out.mono (by omega)))
              have hR := HR.out.below (HBX.out.trans ((HB5.out.mono (B' := w1.heap.size) (by omega)).trans (HBR.out.mono (by omega)))) (by omega)
              have r0 := hR.cell 0
              have r1 := hR.cell 1
              have rf := hR.frozen
              have m1 : wr.cell? ⟨w3.heap.size + 1, 1, none⟩ = some (.int .i64 (Wt - T)) := HN.out.cell 1
              have HBW := Lib.hid hbw
              have HRR := Lib.hid hR
              clear hbw hR
              go_wp2_with fail
              have hq := (HRR.out.set_ 0 (.slice A' (whoTo (bestC n (lowB n bs pay)) bs.length).length cap')).set_ 1 (.int .i64 (Wt - T))
              have s0 := hq.cell 0
              have s1 := hq.cell 1
              simp at s0 s1
              refine bodyPost_ret (v := .tuple #[.agg #[.slice A' (whoTo (bestC n (lowB n bs pay)) bs.length).length cap', .int .i64 (Wt - T)], .bool true, .int .i64 0]) (by simp [results, Try.results50, go_sem, s0, s1]) rfl ?_
              have hL : blockL n bs pay = whoTo (bestC n (lowB n bs pay)) bs.length := by unfold blockL; rw [HBB.out]; rfl
              have hM : blockM n bs pay = Wt - T := by unfold blockM; rw [HBB.out, HMO.out]; rfl
              unfold BlocksPost
              rw [hL, hM, HBB.out, HE.out]
              exact ⟨_, _, rfl, own_mono (ownsRow_setCell_below (ownsRow_setCell_below HON.out (a := ⟨w.heap.size + 1, 0, none⟩) (by simp; omega) _) (a := ⟨w.heap.size + 1, 1, none⟩) (by simp; omega) _) (by omega), (HBW.out.setCell (p := ⟨w.heap.size + 1, 0, none⟩) (by simp) _).setCell (p := ⟨w.heap.size + 1, 1, none⟩) (by simp) _⟩
          
        exact AllReadyF.nil
      exact AllReadyF.nil
    exact AllReadyF.nil
  · have HBB := Lib.hid (show blockB n bs pay = false from by unfold blockB; rw [HE.out, HMO.out]; simp; omega)
    have hgt' : Wt ≤ T := by omega
    have hbw := HB4.out
    have hR := HR.out.below HBX.out (by omega)
    have r0 := hR.cell 0
    have r1 := hR.cell 1
    have rf := hR.frozen
    have HBW := Lib.hid hbw
    have HRR := Lib.hid hR
    clear hbw hR
    go_quiet ((go_at_call 104; exact quiet_left (v := .int .i64 T) (HTOT.out _ (below_drewN (Below.refl _ _) _))))
    go_wp2_with fail
    have hq := ((HRR.out.drewN nq).set_ 0 (.slice none 0 0)).set_ 1 (.int .i64 0)
    have s0 := hq.cell 0
    have s1 := hq.cell 1
    simp at s0 s1
    have hL : blockL n bs pay = [] := by unfold blockL; rw [HBB.out]; rfl
    have hM : blockM n bs pay = 0 := by unfold blockM; rw [HBB.out]; rfl
    refine bodyPost_ret (v := .tuple #[.agg #[.slice none 0 0, .int .i64 0], .bool false, .int .i64 0]) (by simp [results, Try.results50, go_sem, s0, s1]) rfl ?_
    unfold BlocksPost
    rw [hL, hM, HBB.out, HE.out]
    exact ⟨none, 0, rfl, World.ownsRow_nil _ _ _ _, ((below_drewN HBW.out _).setCell (p := ⟨w.heap.size + 1, 0, none⟩) (by simp) _).setCell (p := ⟨w.heap.size + 1, 1, none⟩) (by simp) _⟩
end Go.Proofs.Ytcigobiolbojhaa.Vb

/- Law 18's reference: what is the same. -/
namespace Go.Proofs.Ytcigobiolbojhaa.Vb
open Go.RowKit

theorem same15_true (cs : List Int) (ca cb : Value) (R1 R2 : Nat → Prop) (w : World) (h1 : Sl w R1 ca cs.length 1 (ints cs)) (h2 : Sl w R2 cb cs.length 1 (ints cs)) :
    Calls Try.prog 57 #[ca, cb] w fun e w' => e = .returned (.bool true) ∧ Below w.heap.size w w' := by
  obtain ⟨_, A1, c1, rfl, hn1, hc1, hs1⟩ := h1
  obtain ⟨_, A2, c2, rfl, hn2, hc2, hs2⟩ := h2
  unfold maxLen at hc1 hc2
  have H1 := Lib.hid hs1
  have H2 := Lib.hid hs2
  clear hs1 hs2
  go_enter Try.func57, Try.ntmps57
  go_wp2
  go_loopw [5] (fun i wr => ∃ k : Nat, k ≤ cs.length ∧ i = .int .i64 k ∧ Below w.heap.size w wr) (fun i _ => cs.length - (intOf i).toNat)
  case atStart => exact ⟨0, Nat.zero_le _, rfl, Below.refl _ _⟩
  case round =>
    obtain ⟨k, hk, rfl, hb⟩ := hrel
    by_cases hlt : k < cs.length
    · obtain ⟨c, hc⟩ : ∃ c, cs[k]? = some c := ⟨_, List.getElem?_eq_getElem hlt⟩
      obtain ⟨b1, o1, rfl, _, hb1, hx1⟩ := H1.out (by omega)
      obtain ⟨b2, o2, rfl, _, hb2, hx2⟩ := H2.out (by omega)
      have e1 := (hb.cell hb1).trans (hx1 _ _ (ints_get hc))
      have e2 := (hb.cell hb2).trans (hx2 _ _ (ints_get hc))
      have HB := Lib.hid hb
      clear hx1 hx2 hb hc
      go_wp2_with fail
      go_quiet (fail)
      go_wp2_with fail
      go_roundw
      case rel => exact ⟨k + 1, by omega, by go_num, below_drewN HB.out _⟩
      case measure => simp [intOf]; omega
    · have HB := Lib.hid hb
      clear hb
      go_wp2_with fail
      go_ret
      exact ⟨rfl, HB.out⟩

set_option maxRecDepth 100000 in
set_option maxHeartbeats 1600000 in
theorem same18Inst_true (n : Int) (bs : List (List Off)) (va vb : Value) (Ra Rb : Nat → Prop) (w : World) (ha : Buys w Ra va bs) (hb : Buys w Rb vb bs) (hsm : Small bs) :
    Calls Try.prog 58 #[.agg #[.int .i64 n, va], .agg #[.int .i64 n, vb]] w fun e w' => e = .returned (.bool true) ∧ Below w.heap.size w w' := by
  obtain ⟨vs, ⟨hlen, A, cap, rfl, hncap, hcap, hcells⟩, hvs⟩ := ha
  obtain ⟨vs', ⟨hlen', A', cap', rfl, hncap', hcap', hcells'⟩, hvs'⟩ := hb
  unfold maxLen at hcap hcap'
  have HSM := Lib.hid hsm.2
  have HC := Lib.hid hcells
  have HC' := Lib.hid hcells'
  have HV := Lib.hid hvs
  have HV' := Lib.hid hvs'
  clear hcells hcells' hvs hvs' hlen hlen' hsm
  go_enter Try.func58, Try.ntmps58
  go_wp2
  go_loopw [5] (fun i wr => ∃ k : Nat, k ≤ bs.length ∧ i = .int .i64 k ∧ Below (w.heap.size + 2) ((w.alloc (.cells #[.int .i64 n, .slice A bs.length cap] 24)).alloc (.cells #[.int .i64 n, .slice A' bs.length cap'] 24)) wr) (fun i _ => bs.length - (intOf i).toNat)
  case atStart => exact ⟨0, Nat.zero_le _, rfl, Below.refl _ _⟩
  case round =>
    obtain ⟨k, hk, rfl, hb⟩ := hrel
    obtain ⟨wq, rfl⟩ : ∃ V, V = wr := ⟨_, rfl⟩
    obtain ⟨cx0, cx1, cy0, cy1, fx, fy, hs, hbw⟩ := two_new hb
    have HB := Lib.hid hb
    have HBW := Lib.hid hbw
    clear hb fx fy cx0 cy0
    by_cases hlt : k < bs.length
    · obtain ⟨bb, off, rfl, _, hbb, hcs⟩ := HC.out (by omega)
      obtain ⟨bb', off', rfl, _, hbb', hcs'⟩ := HC'.out (by omega)
      obtain ⟨l, ho⟩ : ∃ l, bs[k]? = some l := ⟨_, List.getElem?_eq_getElem hlt⟩
      obtain ⟨u, hu, hol⟩ := HV.out k l ho
      obtain ⟨u', hu', hol'⟩ := HV'.out k l ho
      have hll := HSM.out l (List.mem_of_getElem? ho)
      have q1 := hcs _ _ hu
      have q2 := hcs' _ _ hu'
      have HQ1 := Lib.hid q1
      have HQ2 := Lib.hid q2
      have c0 := (hbw.cell hbb).trans q1
      have d0 := (hbw.cell hbb').trans q2
      have HOL := Lib.hid hol
      have HOL' := Lib.hid hol'
      obtain ⟨⟨_, A1, cap1, rfl, _⟩, _⟩ := id hol
      obtain ⟨⟨_, A2, cap2, rfl, _⟩, _⟩ := id hol'
      have e1 : (0 : Int) ≤ (k : Int) := by omega
      have e2 : (k : Int) < (bs.length : Int) := by omega
      clear hcs hcs' ho hu hu' hbw hol hol' q1 q2
      go_wp2_with fail
      go_quiet (fail)
      go_wp2_with fail
      clear c0 d0 cx1 cy1
      go_loopw [6] (fun i wr2 => ∃ j : Nat, j ≤ l.length ∧ i = .int .i64 j ∧ Below (w.heap.size + 2) ((w.alloc (.cells #[.int .i64 n, .slice (some ⟨bb, off, none⟩) bs.length cap] 24)).alloc (.cells #[.int .i64 n, .slice (some ⟨bb', off', none⟩) bs.length cap'] 24)) wr2) (fun i _ => l.length - (intOf i).toNat)
      case atStart => exact ⟨0, Nat.zero_le _, rfl, below_drewN HB.out _⟩
      case round =>
        obtain ⟨j, hj, rfl, hb⟩ := hrel
        obtain ⟨cx0, cx1, cy0, cy1, fx, fy, hs, hbw⟩ := two_new hb
        have c0 := (hbw.cell hbb).trans HQ1.out
        have d0 := (hbw.cell hbb').trans HQ2.out
        have HB2 := Lib.hid hb
        clear hb fx fy cx0 cy0
        by_cases hlj : j < l.length
        · obtain ⟨o, ho⟩ : ∃ o, l[j]? = some o := ⟨_, List.getElem?_eq_getElem hlj⟩
          obtain ⟨b1, o1, rfl, hb1, p0, p1⟩ := (HOL.out.grow hbw).at_ ho
          obtain ⟨b2, o2, rfl, hb2, r0, r1⟩ := (HOL'.out.grow hbw).at_ ho
          have e3 : (0 : Int) ≤ (j : Int) := by omega
          have e4 : (j : Int) < (l.length : Int) := by omega
          clear hbw ho
          go_wp2_with fail
          go_quiet (fail)
          go_wp2_with fail
          go_roundw
          case rel => exact ⟨j + 1, by omega, by go_num, below_drewN HB2.out _⟩
          case measure => simp [intOf]; omega
        · obtain rfl : j = l.length := by omega
          clear hbw
          go_wp2_with fail
          go_roundw
          case rel => exact ⟨k + 1, by omega, by go_num, HB2.out⟩
          case measure => simp [intOf]; omega
    · clear hbw
      go_wp2_with fail
      go_ret
      exact ⟨rfl, HBW.out⟩
end Go.Proofs.Ytcigobiolbojhaa.Vb

/- The reference of layer 18: Least. -/
namespace Go.Proofs.Ytcigobiolbojhaa.Vb
open Go.RowKit

set_option maxRecDepth 100000 in
set_option maxHeartbeats 1600000 in
theorem refLeastX_any (n : Int) (bs : List (List Off)) (v : Value) (R Rp : Nat → Prop) (pay : List Int) (vp : Value) (buyer : Int) (w : World) (hl : Buys w R v bs) (hp : Sl w Rp vp pay.length 1 (ints pay)) :
    Calls Try.prog 52 #[.agg #[.int .i64 n, v], .int .i64 buyer, vp] w fun e w' => e = .returned (.tuple #[.int .i64 (leastV n bs pay buyer), .int .i64 (leastE n bs pay buyer)]) ∧ Below w.heap.size w w' := by
  obtain ⟨_, ⟨_, A, cap, rfl, _⟩, _⟩ := id hl
  obtain ⟨_, Ap, capp, rfl, hnc, hcm, _⟩ := id hp
  unfold maxLen at hcm
  have HB := Lib.hid hl
  have HP := Lib.hid hp
  clear hl hp
  by_cases he : askE n bs pay = 0
  · obtain ⟨hi, hok⟩ := askE_zero he
    have hpl := pay_len hok
    have HE := Lib.hid he
    have HI := Lib.hid hi
    have HOK := Lib.hid hok
    have HPL := Lib.hid hpl
    clear he hi hok hpl
    have hstart : ∀ (Q : Bool) (hq : leastOk n bs pay buyer = Q) , leastV n bs pay buyer = (if Q = true then leastI n bs pay buyer.toNat else 0) ∧ leastE n bs pay buyer = (if Q = true then 0 else 2) := by
      intro Q hq
      unfold leastV leastE
      rw [hq, if_pos HE.out]
      exact ⟨rfl, rfl⟩
    have HST := Lib.hid hstart
    clear hstart
    go_enter Try.func52, Try.ntmps52
    go_wp2_with fail
    refine (refAsked_any n bs _ R Rp pay _ _ (HB.out.alloc _) (HP.out.alloc _)).mono ?_
    rintro e w1 ⟨(⟨_, A1, c1, A2, c2, rfl, hown1, hown2⟩ | ⟨h0, _⟩), hb1⟩
    case inr => exact absurd HE.out h0
    obtain ⟨hX, hs1, hbw⟩ := one_blk' hb1
    have HBI := Lib.hid (Sl.of_own hown1).any
    have HWI := Lib.hid hown2
    have x0 : w1.cell? ⟨w.heap.size, 0, none⟩ = some (.int .i64 n) := hX.cell 0
    have x1 : w1.cell? ⟨w.heap.size, 1, none⟩ = some (.slice A bs.length cap) := hX.cell 1
    have HBW := Lib.hid hbw
    clear hX hbw hown1 hown2 hb1
    by_cases hr : 0 ≤ buyer ∧ buyer < pay.length
    · obtain ⟨hr0, hr1⟩ := hr
      obtain ⟨k, rfl⟩ := Int.eq_ofNat_of_zero_le hr0
      have hk : k < bs.length := by have := HPL.out; omega
      obtain ⟨gW, rfl, _, _, _, _, hcw⟩ := own_some HWI.out (by omega)
      obtain ⟨u, hu, dW⟩ := hcw k hk
      have hu2 : u = .bool (winB (bestC n bs) k) := by
        have h2 : (bools (winL n bs))[k]? = some (.bool (winB (bestC n bs) k)) := by simp [bools, winL_get hk]
        rw [h2] at hu
        exact (Option.some.inj hu).symm
      subst hu2
      have hq : leastOk n bs pay (k : Int) = winB (bestC n bs) k := by
        unfold leastOk
        rw [HE.out, decide_eq_true (show 0 ≤ (k : Int) ∧ (k : Int) < pay.length from ⟨by omega, hr1⟩)]
        simp
      have HQ := Lib.hid hq
      have hnb : ¬ (k : Int) < 0 := by omega
      have hkb : (k : Int) < (bs.length : Int) := by omega
      clear hcw hu hq
      cases hw : winB (bestC n bs) k with
      | true =>
        rw [hw] at dW
        have HF := Lib.hid (HST.out true (by rw [HQ.out, hw]))
        clear hw
        go_wp2_with fail
        refine (refLeast18_any n bs _ _ pay _ _ Rp R k hk w1 (HB.out.grow HBW.out) HBI.out (HP.out.grow HBW.out) HI.out HOK.out).mono ?_
        rintro e w2 ⟨rfl, hb2⟩
        have HB2 := Lib.hid (HBW.out.trans (hb2.mono HBW.out.size))
        clear hb2
        go_wp2_with fail
        go_ret2
        rw [HF.out.1, HF.out.2]
        exact ⟨rfl, HB2.out⟩
      | false =>
        rw [hw] at dW
        have HF := Lib.hid (HST.out false (by rw [HQ.out, hw]))
        clear hw
        go_wp2_with fail
        go_ret2
        rw [HF.out.1, HF.out.2]
        exact ⟨rfl, HBW.out⟩
    · have HF := Lib.hid (HST.out false (by unfold leastOk; rw [decide_eq_false hr]; simp))
      rcases (show buyer < 0 ∨ (¬ buyer < 0 ∧ (pay.length : Int) ≤ buyer) by omega) with h0 | ⟨h0, h3⟩
      all_goals
        clear hr
        go_wp2_with fail
        go_ret2
        rw [HF.out.1, HF.out.2]
        exact ⟨rfl, HBW.out⟩
  · have hv : leastV n bs pay buyer = 0 ∧ leastE n bs pay buyer = askE n bs pay := by
      have : leastOk n bs pay buyer = false := by unfold leastOk; rw [decide_eq_false he]; rfl
      unfold leastV leastE
      rw [this, if_neg he]
      exact ⟨rfl, rfl⟩
    rw [hv.1, hv.2]
    have HE := Lib.hid he
    have hne : (askE n bs pay != 0) = true := by simp [he]
    clear hv he
    go_enter Try.func52, Try.ntmps52
    go_wp2_with fail
    refine (refAsked_any n bs _ R Rp pay _ _ (HB.out.alloc _) (HP.out.alloc _)).mono ?_
    rintro e w1 ⟨(⟨h0, _⟩ | ⟨_, rfl⟩), hb1⟩
    · exact absurd h0 HE.out
    have HB1 := Lib.hid (one_blk' hb1).2.2
    clear hb1
    go_wp2_with fail
    go_ret2
    exact ⟨rfl, HB1.out⟩
end Go.Proofs.Ytcigobiolbojhaa.Vb

/- core: Tight. -/
namespace Go.Proofs.Ytcigobiolbojhaa.Vb
open Go.RowKit

def tightAt (n : Int) (bs : List (List Off)) (pay : List Int) (i : Nat) : Bool := !winB (bestC n bs) i || decide (leastI n bs pay i = pay[i]?.getD 0)
def tightTo (n : Int) (bs : List (List Off)) (pay : List Int) (k : Nat) : Bool := (List.range k).all (tightAt n bs pay)
theorem tightTo_succ (n : Int) (bs : List (List Off)) (pay : List Int) (k : Nat) : tightTo n bs pay (k + 1) = (tightTo n bs pay k && tightAt n bs pay k) := by
  unfold tightTo; rw [List.range_succ, List.all_append]; simp
theorem tightTo_stop {n : Int} {bs : List (List Off)} {pay : List Int} {k m : Nat} (hk : k < m) (h : tightAt n bs pay k = false) : tightTo n bs pay m = false := by
  unfold tightTo
  rw [Bool.eq_false_iff]
  intro ha
  rw [List.all_eq_true] at ha
  have := ha k (List.mem_range.mpr hk)
  rw [h] at this
  cases this
def tightB (n : Int) (bs : List (List Off)) (pay : List Int) : Bool := decide (askE n bs pay = 0) && !blockB n bs pay && tightTo n bs pay bs.length

set_option maxRecDepth 100000 in
set_option maxHeartbeats 1600000 in
theorem coreTight_any (n : Int) (bs : List (List Off)) (v : Value) (R Rp : Nat → Prop) (pay : List Int) (vp : Value) (w : World) (hl : Buys w R v bs) (hp : Sl w Rp vp pay.length 1 (ints pay)) :
    Calls Try.prog 48 #[.agg #[.int .i64 n, v], vp] w fun e w' => e = .returned (.tuple #[.bool (tightB n bs pay), .int .i64 (askE n bs pay)]) ∧ Below w.heap.size w w' := by
  obtain ⟨vs, ⟨_, A, cap, rfl, _⟩, _⟩ := id hl
  obtain ⟨_, Ap, capp, rfl, _⟩ := id hp
  have HB := Lib.hid hl
  have HP := Lib.hid hp
  by_cases he : askE n bs pay = 0
  · obtain ⟨hi, hok⟩ := askE_zero he
    have hl32 := (instE_zero hi).2.2.1
    have hpl := pay_len hok
    have HWF := Lib.hid (Buys.wf hl)
    have HE := Lib.hid he
    have HI := Lib.hid hi
    have HOK := Lib.hid hok
    have hpl1 : pay.length ≤ bs.length := by omega
    have hpl2 : bs.length ≤ pay.length := by omega
    have hpl3 : pay.length ≤ 32 := by omega
    clear hl hp he hi hok hpl
    cases hbk : blockB n bs pay with
    | true =>
      have HT := Lib.hid (show tightB n bs pay = false from by unfold tightB; rw [hbk]; simp)
      have HBK := Lib.hid hbk
      clear hbk
      go_enter Try.func48, Try.ntmps48
      go_wp2_with (first
        | (go_at_call 99; refine (asked_yes n bs _ R Rp pay _ _ (HB.out.alloc _) (HP.out.alloc _) HE.out).mono ?_; rintro e w1 ⟨g, A1, c1, rfl, hw1, hb1⟩; have hx := (one_blk' hb1).1; have hx0 := hx.cell 0; have hx1 := hx.cell 1; simp at hx0 hx1; have HB1 := Lib.hid (one_blk' hb1).2.2; clear hb1 hw1 hx)
        | (go_at_call 46; go_must (refine (coreBlocks_ok n bs _ R Rp pay _ _ (HB.out.grow HB1.out) (HP.out.grow HB1.out) HE.out).mono ?_); rintro e w2 ⟨A2, c2, rfl, _, hb2⟩; rw [HBK.out, HE.out]; have HB2 := Lib.hid (HB1.out.trans (hb2.mono HB1.out.size)); clear hb2))
      go_ret2
      exact ⟨by rw [HT.out, HE.out]; rfl, HB2.out.alloc HB2.out.size _⟩
    | false =>
      have HBK := Lib.hid hbk
      clear hbk
      go_enter Try.func48, Try.ntmps48
      go_wp2_with (first
        | (go_at_call 99; refine (asked_yes n bs _ R Rp pay _ _ (HB.out.alloc _) (HP.out.alloc _) HE.out).mono ?_; rintro e w1 ⟨g, A1, c1, rfl, hw1, hb1⟩; have hx := (one_blk' hb1).1; have hx0 := hx.cell 0; have hx1 := hx.cell 1; simp at hx0 hx1; have HB1 := Lib.hid (one_blk' hb1).2.2; have HW1 := Lib.hid hw1; clear hb1 hw1 hx)
        | (go_at_call 46; go_must (refine (coreBlocks_ok n bs _ R Rp pay _ _ (HB.out.grow HB1.out) (HP.out.grow HB1.out) HE.out).mono ?_); rintro e w2 ⟨A2, c2, rfl, _, hb2⟩; rw [HBK.out, HE.out]; have HB2 := Lib.hid hb2; have hsz2 := HB1.out.size; have hsz3 := hb2.size; clear hb2))
      obtain ⟨W3, hW3⟩ : ∃ W3, W3 = w2.alloc (.cells #[.slice A2 (blockL n bs pay).length c2, .int .i64 (blockM n bs pay)] 85) := ⟨_, rfl⟩
      have HBW := Lib.hid (show Below w.heap.size w W3 from by rw [hW3]; exact (HB1.out.trans (HB2.out.mono (by omega))).alloc (by omega) _)
      have HW3 := Lib.hid (show WonAt W3 _ _ _ _ _ _ _ from (HW1.out.grow (show Below w1.heap.size w1 W3 from by rw [hW3]; exact HB2.out.alloc HB2.out.size _)))
      rw [← hW3]
      clear hW3
      go_loopw [31] (fun i wr => ∃ k : Nat, k ≤ pay.length ∧ i = .int .i64 k ∧ tightTo n bs pay k = true ∧ Below W3.heap.size W3 wr) (fun i _ => pay.length - (intOf i).toNat)
      case atStart => exact ⟨0, Nat.zero_le _, rfl, rfl, Below.refl _ _⟩
      case round =>
        obtain ⟨k, hk, rfl, htt, hb⟩ := hrel
        have hbw := HBW.out.trans (hb.mono HBW.out.size)
        have HTT := Lib.hid htt
        have HBR := Lib.hid hb
        have HBX := Lib.hid hbw
        clear htt hb hbw
        by_cases hlt : k < pay.length
        · have hk32 : k < 32 := by omega
          obtain ⟨bp, op, p, rfl, hbp, hpk, cp⟩ := HP.out.int_at hlt
          have dp := (HBX.out.cell (p := ⟨bp, op + k, none⟩) hbp).trans cp
          have HWR := Lib.hid (HW3.out.grow HBR.out)
          have dq := HWR.out.cw hk32
          have hgl := HWR.out.lt
          have hbpr := Nat.lt_of_lt_of_le hbp HBX.out.size
          have HPK := Lib.hid hpk
          have e0 : (0 : Int) ≤ (k : Int) := by omega
          have e1 : (k : Int) < 32 := by omega
          have e2 : (k : Int) < (pay.length : Int) := by omega
          clear cp hpk
          go_wp2_with fail
          cases hwin : winB (bestC n bs) k with
          | false =>
            rw [hwin] at dq
            have HTA := Lib.hid (show tightTo n bs pay (k + 1) = true from by rw [tightTo_succ, HTT.out]; unfold tightAt; rw [hwin]; rfl)
            clear hwin
            refine wp_region_F (Below wr.heap.size wr) [] (by kernel_rfl) ((Below.refl _ _).drew) (fun hS => ?_)
            refine wpAnyF_take (i := 0) (oi := { dst := some 34, op := Go.Op.move (Go.Operand.tmp 6), type := 153, pos := "core.go:173", after := #[], guard := none }) (v := ?_) rfl (by kernel_rfl) (by kernel_rfl) (by kernel_rfl) (by kernel_rfl) (fun _ _ _ h => h) (Or.inl ⟨by rfl, ?_⟩) hS ?_
            rotate_left
            · intro w' hSw; have q1 := (hSw.cell (p := ⟨g, 2 + k, none⟩) hgl).trans dq; go_simp; try with_reducible rfl
            try simp only [Act.put, List.setIfInBounds_toArray, List.set_cons_zero, List.set_cons_succ]
            refine wpAnyF_take (i := 1) (oi := { dst := some 35, op := Go.Op.move (Go.Operand.tmp 11), type := 3, pos := "core.go:173", after := #[], guard := none }) (v := ?_) rfl (by kernel_rfl) (by kernel_rfl) (by kernel_rfl) (by kernel_rfl) (fun _ _ _ h => h) (Or.inl ⟨by rfl, ?_⟩) hS ?_
            rotate_left
            · intro w' hSw; have q1 := (hSw.cell (p := ⟨g, 2 + k, none⟩) hgl).trans dq; go_simp; try with_reducible rfl
            try simp only [Act.put, List.setIfInBounds_toArray, List.set_cons_zero, List.set_cons_succ]
            refine wpAnyF_take (i := 2) (oi := { dst := some 36, op := Go.Op.nilCheck (Go.Operand.tmp 34), type := 0, pos := "core.go:173", after := #[{ on := 0, ground := Go.Ground.data }], guard := none }) (v := ?_) rfl (by kernel_rfl) (by kernel_rfl) (by kernel_rfl) (by kernel_rfl) (fun _ _ _ h => h) (Or.inl ⟨by rfl, ?_⟩) hS ?_
            rotate_left
            · intro w' hSw; have q1 := (hSw.cell (p := ⟨g, 2 + k, none⟩) hgl).trans dq; go_simp; try with_reducible rfl
            try simp only [Act.put, List.setIfInBounds_toArray, List.set_cons_zero, List.set_cons_succ]
            refine wpAnyF_take (i := 3) (oi := { dst := some 37, op := Go.Op.fieldAddr 158 (Go.Operand.tmp 36) 1, type := 0, pos := "core.go:173", after := #[{ on := 2, ground := Go.Ground.data }], guard := none }) (v := ?_) rfl (by kernel_rfl) (by kernel_rfl) (by kernel_rfl) (by kernel_rfl) (fun _ _ _ h => h) (Or.inl ⟨by rfl, ?_⟩) hS ?_
            rotate_left
            · intro w' hSw; have q1 := (hSw.cell (p := ⟨g, 2 + k, none⟩) hgl).trans dq; go_simp; try with_reducible rfl
            try simp only [Act.put, List.setIfInBounds_toArray, List.set_cons_zero, List.set_cons_succ]
            refine wpAnyF_take (i := 4) (oi := { dst := some 38, op := Go.Op.indexAddr 156 (Go.Operand.tmp 37) (Go.Operand.tmp 35), type := 0, pos := "core.go:173", after := #[{ on := 3, ground := Go.Ground.data }, { on := 1, ground := Go.Ground.data }], guard := none }) (v := ?_) rfl (by kernel_rfl) (by kernel_rfl) (by kernel_rfl) (by kernel_rfl) (fun _ _ _ h => h) (Or.inl ⟨by rfl, ?_⟩) hS ?_
            rotate_left
            · intro w' hSw; have q1 := (hSw.cell (p := ⟨g, 2 + k, none⟩) hgl).trans dq; go_simp; try with_reducible rfl
            try simp only [Act.put, List.setIfInBounds_toArray, List.set_cons_zero, List.set_cons_succ]
            refine wpAnyF_take (i := 5) (oi := { dst := some 39, op := Go.Op.load 4 (Go.Operand.tmp 38), type := 4, pos := "core.go:173", after := #[{ on := 4, ground := Go.Ground.data }], guard := none }) (v := ?_) rfl (by kernel_rfl) (by kernel_rfl) (by kernel_rfl) (by kernel_rfl) (fun _ _ _ h => h) (Or.inl ⟨by rfl, ?_⟩) hS ?_
            rotate_left
            · intro w' hSw; have q1 := (hSw.cell (p := ⟨g, 2 + k, none⟩) hgl).trans dq; go_simp; try with_reducible rfl
            try simp only [Act.put, List.setIfInBounds_toArray, List.set_cons_zero, List.set_cons_succ]
            refine wpAnyF_take (i := 6) (oi := { dst := some 40, op := Go.Op.move (Go.Operand.tmp 39), type := 4, pos := "core.go:173", after := #[{ on := 5, ground := Go.Ground.data }], guard := none }) (v := ?_) rfl (by kernel_rfl) (by kernel_rfl) (by kernel_rfl) (by kernel_rfl) (fun _ _ _ h => h) (Or.inl ⟨by rfl, ?_⟩) hS ?_
            rotate_left
            · intro w' hSw; have q1 := (hSw.cell (p := ⟨g, 2 + k, none⟩) hgl).trans dq; go_simp; try with_reducible rfl
            try simp only [Act.put, List.setIfInBounds_toArray, List.set_cons_zero, List.set_cons_succ]
            refine wpAnyF_take (i := 7) (oi := { dst := some 41, op := Go.Op.move (Go.Operand.tmp 6), type := 153, pos := "core.go:173", after := #[{ on := 6, ground := Go.Ground.guard }], guard := some (6, true) }) (v := undef) rfl (by kernel_rfl) (by kernel_rfl) (by kernel_rfl) (by kernel_rfl) (fun _ _ _ h => h) (Or.inr ⟨by rfl, rfl⟩) hS ?_
            try simp only [Act.put, List.setIfInBounds_toArray, List.set_cons_zero, List.set_cons_succ]
            refine wpAnyF_take (i := 8) (oi := { dst := some 42, op := Go.Op.move (Go.Operand.tmp 11), type := 3, pos := "core.go:173", after := #[{ on := 6, ground := Go.Ground.guard }], guard := some (6, true) }) (v := undef) rfl (by kernel_rfl) (by kernel_rfl) (by kernel_rfl) (by kernel_rfl) (fun _ _ _ h => h) (Or.inr ⟨by rfl, rfl⟩) hS ?_
            try simp only [Act.put, List.setIfInBounds_toArray, List.set_cons_zero, List.set_cons_succ]
            refine wpAnyF_take (i := 9) (oi := { dst := some 43, op := Go.Op.move (Go.Operand.tmp 1), type := 34, pos := "core.go:173", after := #[{ on := 6, ground := Go.Ground.guard }], guard := some (6, true) }) (v := undef) rfl (by kernel_rfl) (by kernel_rfl) (by kernel_rfl) (by kernel_rfl) (fun _ _ _ h => h) (Or.inr ⟨by rfl, rfl⟩) hS ?_
            try simp only [Act.put, List.setIfInBounds_toArray, List.set_cons_zero, List.set_cons_succ]
            refine wpAnyF_take (i := 10) (oi := { dst := some 44, op := Go.Op.call { callee := Go.Callee.value (Go.Operand.func 97), args := #[Go.Operand.tmp 41, Go.Operand.tmp 42, Go.Operand.tmp 43], argTypes := #[153, 3, 34] }, type := 2, pos := "core.go:173", after := #[{ on := 7, ground := Go.Ground.data }, { on := 8, ground := Go.Ground.data }, { on := 9, ground := Go.Ground.data }, { on := 6, ground := Go.Ground.chain }, { on := 6, ground := Go.Ground.guard }], guard := some (6, true) }) (v := undef) rfl (by kernel_rfl) (by kernel_rfl) (by kernel_rfl) (by kernel_rfl) (fun _ _ _ h => h) (Or.inr ⟨by rfl, rfl⟩) hS ?_
            try simp only [Act.put, List.setIfInBounds_toArray, List.set_cons_zero, List.set_cons_succ]
            refine wpAnyF_take (i := 11) (oi := { dst := some 45, op := Go.Op.move (Go.Operand.tmp 1), type := 34, pos := "core.go:173", after := #[{ on := 6, ground := Go.Ground.guard }], guard := some (6, true) }) (v := undef) rfl (by kernel_rfl) (by kernel_rfl) (by kernel_rfl) (by kernel_rfl) (fun _ _ _ h => h) (Or.inr ⟨by rfl, rfl⟩) hS ?_
            try simp only [Act.put, List.setIfInBounds_toArray, List.set_cons_zero, List.set_cons_succ]
            refine wpAnyF_take (i := 12) (oi := { dst := some 46, op := Go.Op.move (Go.Operand.tmp 11), type := 3, pos := "core.go:173", after := #[{ on := 6, ground := Go.Ground.guard }], guard := some (6, true) }) (v := undef) rfl (by kernel_rfl) (by kernel_rfl) (by kernel_rfl) (by kernel_rfl) (fun _ _ _ h => h) (Or.inr ⟨by rfl, rfl⟩) hS ?_
            try simp only [Act.put, List.setIfInBounds_toArray, List.set_cons_zero, List.set_cons_succ]
            refine wpAnyF_take (i := 13) (oi := { dst := some 47, op := Go.Op.indexAddr 34 (Go.Operand.tmp 45) (Go.Operand.tmp 46), type := 0, pos := "core.go:173", after := #[{ on := 11, ground := Go.Ground.data }, { on := 12, ground := Go.Ground.data }, { on := 6, ground := Go.Ground.guard }], guard := some (6, true) }) (v := undef) rfl (by kernel_rfl) (by kernel_rfl) (by kernel_rfl) (by kernel_rfl) (fun _ _ _ h => h) (Or.inr ⟨by rfl, rfl⟩) hS ?_
            try simp only [Act.put, List.setIfInBounds_toArray, List.set_cons_zero, List.set_cons_succ]
            refine wpAnyF_take (i := 14) (oi := { dst := some 48, op := Go.Op.load 2 (Go.Operand.tmp 47), type := 2, pos := "core.go:173", after := #[{ on := 13, ground := Go.Ground.data }, { on := 6, ground := Go.Ground.guard }], guard := some (6, true) }) (v := undef) rfl (by kernel_rfl) (by kernel_rfl) (by kernel_rfl) (by kernel_rfl) (fun _ _ _ h => h) (Or.inr ⟨by rfl, rfl⟩) hS ?_
            try simp only [Act.put, List.setIfInBounds_toArray, List.set_cons_zero, List.set_cons_succ]
            refine wpAnyF_take (i := 15) (oi := { dst := some 49, op := Go.Op.binOp Go.BinOp.neq 2 (Go.Operand.tmp 44) (Go.Operand.tmp 48) 2, type := 4, pos := "core.go:173", after := #[{ on := 10, ground := Go.Ground.data }, { on := 14, ground := Go.Ground.data }, { on := 6, ground := Go.Ground.guard }], guard := some (6, true) }) (v := undef) rfl (by kernel_rfl) (by kernel_rfl) (by kernel_rfl) (by kernel_rfl) (fun _ _ _ h => h) (Or.inr ⟨by rfl, rfl⟩) hS ?_
            try simp only [Act.put, List.setIfInBounds_toArray, List.set_cons_zero, List.set_cons_succ]
            refine wpAnyF_take (i := 16) (oi := { dst := some 50, op := Go.Op.pick (Go.Operand.tmp 40) (Go.Operand.tmp 49) (Go.Operand.const (Go.Value.bool false)), type := 4, pos := "core.go:173", after := #[{ on := 6, ground := Go.Ground.data }, { on := 15, ground := Go.Ground.data }], guard := none }) (v := ?_) rfl (by kernel_rfl) (by kernel_rfl) (by kernel_rfl) (by kernel_rfl) (fun _ _ _ h => h) (Or.inl ⟨by rfl, ?_⟩) hS ?_
            rotate_left
            · intro w' hSw; have q1 := (hSw.cell (p := ⟨g, 2 + k, none⟩) hgl).trans dq; go_simp; try with_reducible rfl
            try simp only [Act.put, List.setIfInBounds_toArray, List.set_cons_zero, List.set_cons_succ]
            refine wpAnyF_done (by kernel_rfl) ?_ _
            go_wp2_with fail
            go_roundw
            case rel => exact ⟨k + 1, by omega, by go_num, HTA.out, HBR.out.drew⟩
            case measure => simp [intOf]; omega
          | true =>
            rw [hwin] at dq
            have HWN := Lib.hid hwin
            clear hwin
            refine wp_region_F (Below wr.heap.size wr) [] (by kernel_rfl) ((Below.refl _ _).drew) (fun hS => ?_)
            refine wpAnyF_take (i := 0) (oi := { dst := some 34, op := Go.Op.move (Go.Operand.tmp 6), type := 153, pos := "core.go:173", after := #[], guard := none }) (v := ?_) rfl (by kernel_rfl) (by kernel_rfl) (by kernel_rfl) (by kernel_rfl) (fun _ _ _ h => h) (Or.inl ⟨by rfl, ?_⟩) hS ?_
            rotate_left
            · intro w' hSw; have q1 := (hSw.cell (p := ⟨g, 2 + k, none⟩) hgl).trans dq; have q2 := (hSw.cell (p := ⟨bp, op + k, none⟩) hbpr).trans dp; go_simp; try with_reducible rfl
            try simp only [Act.put, List.setIfInBounds_toArray, List.set_cons_zero, List.set_cons_succ]
            refine wpAnyF_take (i := 1) (oi := { dst := some 35, op := Go.Op.move (Go.Operand.tmp 11), type := 3, pos := "core.go:173", after := #[], guard := none }) (v := ?_) rfl (by kernel_rfl) (by kernel_rfl) (by kernel_rfl) (by kernel_rfl) (fun _ _ _ h => h) (Or.inl ⟨by rfl, ?_⟩) hS ?_
            rotate_left
            · intro w' hSw; have q1 := (hSw.cell (p := ⟨g, 2 + k, none⟩) hgl).trans dq; have q2 := (hSw.cell (p := ⟨bp, op + k, none⟩) hbpr).trans dp; go_simp; try with_reducible rfl
            try simp only [Act.put, List.setIfInBounds_toArray, List.set_cons_zero, List.set_cons_succ]
            refine wpAnyF_take (i := 2) (oi := { dst := some 36, op := Go.Op.nilCheck (Go.Operand.tmp 34), type := 0, pos := "core.go:173", after := #[{ on := 0, ground := Go.Ground.data }], guard := none }) (v := ?_) rfl (by kernel_rfl) (by kernel_rfl) (by kernel_rfl) (by kernel_rfl) (fun _ _ _ h => h) (Or.inl ⟨by rfl, ?_⟩) hS ?_
            rotate_left
            · intro w' hSw; have q1 := (hSw.cell (p := ⟨g, 2 + k, none⟩) hgl).trans dq; have q2 := (hSw.cell (p := ⟨bp, op + k, none⟩) hbpr).trans dp; go_simp; try with_reducible rfl
            try simp only [Act.put, List.setIfInBounds_toArray, List.set_cons_zero, List.set_cons_succ]
            refine wpAnyF_take (i := 3) (oi := { dst := some 37, op := Go.Op.fieldAddr 158 (Go.Operand.tmp 36) 1, type := 0, pos := "core.go:173", after := #[{ on := 2, ground := Go.Ground.data }], guard := none }) (v := ?_) rfl (by kernel_rfl) (by kernel_rfl) (by kernel_rfl) (by kernel_rfl) (fun _ _ _ h => h) (Or.inl ⟨by rfl, ?_⟩) hS ?_
            rotate_left
            · intro w' hSw; have q1 := (hSw.cell (p := ⟨g, 2 + k, none⟩) hgl).trans dq; have q2 := (hSw.cell (p := ⟨bp, op + k, none⟩) hbpr).trans dp; go_simp; try with_reducible rfl
            try simp only [Act.put, List.setIfInBounds_toArray, List.set_cons_zero, List.set_cons_succ]
            refine wpAnyF_take (i := 4) (oi := { dst := some 38, op := Go.Op.indexAddr 156 (Go.Operand.tmp 37) (Go.Operand.tmp 35), type := 0, pos := "core.go:173", after := #[{ on := 3, ground := Go.Ground.data }, { on := 1, ground := Go.Ground.data }], guard := none }) (v := ?_) rfl (by kernel_rfl) (by kernel_rfl) (by kernel_rfl) (by kernel_rfl) (fun _ _ _ h => h) (Or.inl ⟨by rfl, ?_⟩) hS ?_
            rotate_left
            · intro w' hSw; have q1 := (hSw.cell (p := ⟨g, 2 + k, none⟩) hgl).trans dq; have q2 := (hSw.cell (p := ⟨bp, op + k, none⟩) hbpr).trans dp; go_simp; try with_reducible rfl
            try simp only [Act.put, List.setIfInBounds_toArray, List.set_cons_zero, List.set_cons_succ]
            refine wpAnyF_take (i := 5) (oi := { dst := some 39, op := Go.Op.load 4 (Go.Operand.tmp 38), type := 4, pos := "core.go:173", after := #[{ on := 4, ground := Go.Ground.data }], guard := none }) (v := ?_) rfl (by kernel_rfl) (by kernel_rfl) (by kernel_rfl) (by kernel_rfl) (fun _ _ _ h => h) (Or.inl ⟨by rfl, ?_⟩) hS ?_
            rotate_left
            · intro w' hSw; have q1 := (hSw.cell (p := ⟨g, 2 + k, none⟩) hgl).trans dq; have q2 := (hSw.cell (p := ⟨bp, op + k, none⟩) hbpr).trans dp; go_simp; try with_reducible rfl
            try simp only [Act.put, List.setIfInBounds_toArray, List.set_cons_zero, List.set_cons_succ]
            refine wpAnyF_take (i := 6) (oi := { dst := some 40, op := Go.Op.move (Go.Operand.tmp 39), type := 4, pos := "core.go:173", after := #[{ on := 5, ground := Go.Ground.data }], guard := none }) (v := ?_) rfl (by kernel_rfl) (by kernel_rfl) (by kernel_rfl) (by kernel_rfl) (fun _ _ _ h => h) (Or.inl ⟨by rfl, ?_⟩) hS ?_
            rotate_left
            · intro w' hSw; have q1 := (hSw.cell (p := ⟨g, 2 + k, none⟩) hgl).trans dq; have q2 := (hSw.cell (p := ⟨bp, op + k, none⟩) hbpr).trans dp; go_simp; try with_reducible rfl
            try simp only [Act.put, List.setIfInBounds_toArray, List.set_cons_zero, List.set_cons_succ]
            refine wpAnyF_take (i := 7) (oi := { dst := some 41, op := Go.Op.move (Go.Operand.tmp 6), type := 153, pos := "core.go:173", after := #[{ on := 6, ground := Go.Ground.guard }], guard := some (6, true) }) (v := ?_) rfl (by kernel_rfl) (by kernel_rfl) (by kernel_rfl) (by kernel_rfl) (fun _ _ _ h => h) (Or.inl ⟨by rfl, ?_⟩) hS ?_
            rotate_left
            · intro w' hSw; have q1 := (hSw.cell (p := ⟨g, 2 + k, none⟩) hgl).trans dq; have q2 := (hSw.cell (p := ⟨bp, op + k, none⟩) hbpr).trans dp; go_simp; try with_reducible rfl
            try simp only [Act.put, List.setIfInBounds_toArray, List.set_cons_zero, List.set_cons_succ]
            refine wpAnyF_take (i := 8) (oi := { dst := some 42, op := Go.Op.move (Go.Operand.tmp 11), type := 3, pos := "core.go:173", after := #[{ on := 6, ground := Go.Ground.guard }], guard := some (6, true) }) (v := ?_) rfl (by kernel_rfl) (by kernel_rfl) (by kernel_rfl) (by kernel_rfl) (fun _ _ _ h => h) (Or.inl ⟨by rfl, ?_⟩) hS ?_
            rotate_left
            · intro w' hSw; have q1 := (hSw.cell (p := ⟨g, 2 + k, none⟩) hgl).trans dq; have q2 := (hSw.cell (p := ⟨bp, op + k, none⟩) hbpr).trans dp; go_simp; try with_reducible rfl
            try simp only [Act.put, List.setIfInBounds_toArray, List.set_cons_zero, List.set_cons_succ]
            refine wpAnyF_take (i := 9) (oi := { dst := some 43, op := Go.Op.move (Go.Operand.tmp 1), type := 34, pos := "core.go:173", after := #[{ on := 6, ground := Go.Ground.guard }], guard := some (6, true) }) (v := ?_) rfl (by kernel_rfl) (by kernel_rfl) (by kernel_rfl) (by kernel_rfl) (fun _ _ _ h => h) (Or.inl ⟨by rfl, ?_⟩) hS ?_
            rotate_left
            · intro w' hSw; have q1 := (hSw.cell (p := ⟨g, 2 + k, none⟩) hgl).trans dq; have q2 := (hSw.cell (p := ⟨bp, op + k, none⟩) hbpr).trans dp; go_simp; try with_reducible rfl
            try simp only [Act.put, List.setIfInBounds_toArray, List.set_cons_zero, List.set_cons_succ]
            refine wpAnyF_take (i := 11) (oi := { dst := some 45, op := Go.Op.move (Go.Operand.tmp 1), type := 34, pos := "core.go:173", after := #[{ on := 6, ground := Go.Ground.guard }], guard := some (6, true) }) (v := ?_) rfl (by kernel_rfl) (by kernel_rfl) (by kernel_rfl) (by kernel_rfl) (fun _ _ _ h => h) (Or.inl ⟨by rfl, ?_⟩) hS ?_
            rotate_left
            · intro w' hSw; have q1 := (hSw.cell (p := ⟨g, 2 + k, none⟩) hgl).trans dq; have q2 := (hSw.cell (p := ⟨bp, op + k, none⟩) hbpr).trans dp; go_simp; try with_reducible rfl
            try simp only [Act.put, List.setIfInBounds_toArray, List.set_cons_zero, List.set_cons_succ]
            refine wpAnyF_take (i := 12) (oi := { dst := some 46, op := Go.Op.move (Go.Operand.tmp 11), type := 3, pos := "core.go:173", after := #[{ on := 6, ground := Go.Ground.guard }], guard := some (6, true) }) (v := ?_) rfl (by kernel_rfl) (by kernel_rfl) (by kernel_rfl) (by kernel_rfl) (fun _ _ _ h => h) (Or.inl ⟨by rfl, ?_⟩) hS ?_
            rotate_left
            · intro w' hSw; have q1 := (hSw.cell (p := ⟨g, 2 + k, none⟩) hgl).trans dq; have q2 := (hSw.cell (p := ⟨bp, op + k, none⟩) hbpr).trans dp; go_simp; try with_reducible rfl
            try simp only [Act.put, List.setIfInBounds_toArray, List.set_cons_zero, List.set_cons_succ]
            refine wpAnyF_take (i := 13) (oi := { dst := some 47, op := Go.Op.indexAddr 34 (Go.Operand.tmp 45) (Go.Operand.tmp 46), type := 0, pos := "core.go:173", after := #[{ on := 11, ground := Go.Ground.data }, { on := 12, ground := Go.Ground.data }, { on := 6, ground := Go.Ground.guard }], guard := some (6, true) }) (v := ?_) rfl (by kernel_rfl) (by kernel_rfl) (by kernel_rfl) (by kernel_rfl) (fun _ _ _ h => h) (Or.inl ⟨by rfl, ?_⟩) hS ?_
            rotate_left
            · intro w' hSw; have q1 := (hSw.cell (p := ⟨g, 2 + k, none⟩) hgl).trans dq; have q2 := (hSw.cell (p := ⟨bp, op + k, none⟩) hbpr).trans dp; go_simp; try with_reducible rfl
            try simp only [Act.put, List.setIfInBounds_toArray, List.set_cons_zero, List.set_cons_succ]
            refine wpAnyF_take (i := 14) (oi := { dst := some 48, op := Go.Op.load 2 (Go.Operand.tmp 47), type := 2, pos := "core.go:173", after := #[{ on := 13, ground := Go.Ground.data }, { on := 6, ground := Go.Ground.guard }], guard := some (6, true) }) (v := ?_) rfl (by kernel_rfl) (by kernel_rfl) (by kernel_rfl) (by kernel_rfl) (fun _ _ _ h => h) (Or.inl ⟨by rfl, ?_⟩) hS ?_
            rotate_left
            · intro w' hSw; have q1 := (hSw.cell (p := ⟨g, 2 + k, none⟩) hgl).trans dq; have q2 := (hSw.cell (p := ⟨bp, op + k, none⟩) hbpr).trans dp; go_simp; try with_reducible rfl
            try simp only [Act.put, List.setIfInBounds_toArray, List.set_cons_zero, List.set_cons_succ]
            refine wpAnyF_ready (rs := [10]) (by kernel_rfl) (by simp) ?_
            refine AllReadyF.cons (o := { dst := some 44, op := Go.Op.call { callee := Go.Callee.value (Go.Operand.func 97), args := #[Go.Operand.tmp 41, Go.Operand.tmp 42, Go.Operand.tmp 43], argTypes := #[153, 3, 34] }, type := 2, pos := "core.go:173", after := #[{ on := 7, ground := Go.Ground.data }, { on := 8, ground := Go.Ground.data }, { on := 9, ground := Go.Ground.data }, { on := 6, ground := Go.Ground.chain }, { on := 6, ground := Go.Ground.guard }], guard := some (6, true) }) rfl (by rfl) (fun K hK => ?_) ?_
            · go_simp
              refine (least_any n bs _ _ _ _ _ pay _ Rp R k (by omega) _ (HWR.out.grow (Below.refl _ _).drew) ((HB.out.grow HBX.out).grow (Below.refl _ _).drew) ((HP.out.grow HBX.out).grow (Below.refl _ _).drew) HI.out HOK.out).mono ?_
              rintro e w4 ⟨rfl, hb4⟩
              refine hK.out _ _ ?_ (fun hS => ?_)
              · exact (Below.refl wr.heap.size wr).drew.trans (hb4.mono (by simp))
              clear hK K
              try simp only [Act.put, List.setIfInBounds_toArray, List.set_cons_zero, List.set_cons_succ]
              have HB4 := Lib.hid hb4
              have hs4 := hb4.size
              clear hb4
              refine wpAnyF_take (i := 15) (oi := { dst := some 49, op := Go.Op.binOp Go.BinOp.neq 2 (Go.Operand.tmp 44) (Go.Operand.tmp 48) 2, type := 4, pos := "core.go:173", after := #[{ on := 10, ground := Go.Ground.data }, { on := 14, ground := Go.Ground.data }, { on := 6, ground := Go.Ground.guard }], guard := some (6, true) }) (v := ?_) rfl (by kernel_rfl) (by kernel_rfl) (by kernel_rfl) (by kernel_rfl) (fun _ _ _ h => h) (Or.inl ⟨by rfl, ?_⟩) hS ?_
              rotate_left
              · intro w' hSw; have q1 := (hSw.cell (p := ⟨g, 2 + k, none⟩) hgl).trans dq; have q2 := (hSw.cell (p := ⟨bp, op + k, none⟩) hbpr).trans dp; go_simp; try with_reducible rfl
              try simp only [Act.put, List.setIfInBounds_toArray, List.set_cons_zero, List.set_cons_succ]
              refine wpAnyF_take (i := 16) (oi := { dst := some 50, op := Go.Op.pick (Go.Operand.tmp 40) (Go.Operand.tmp 49) (Go.Operand.const (Go.Value.bool false)), type := 4, pos := "core.go:173", after := #[{ on := 6, ground := Go.Ground.data }, { on := 15, ground := Go.Ground.data }], guard := none }) (v := ?_) rfl (by kernel_rfl) (by kernel_rfl) (by kernel_rfl) (by kernel_rfl) (fun _ _ _ h => h) (Or.inl ⟨by rfl, ?_⟩) hS ?_
              rotate_left
              · intro w' hSw; have q1 := (hSw.cell (p := ⟨g, 2 + k, none⟩) hgl).trans dq; have q2 := (hSw.cell (p := ⟨bp, op + k, none⟩) hbpr).trans dp; go_simp; try with_reducible rfl
              try simp only [Act.put, List.setIfInBounds_toArray, List.set_cons_zero, List.set_cons_succ]
              refine wpAnyF_done (by kernel_rfl) ?_ _
              by_cases heq : leastI n bs pay k = p
              · have hne : (leastI n bs pay k != p) = false := by simp [heq]
                have HTA := Lib.hid (show tightTo n bs pay (k + 1) = true from by rw [tightTo_succ, HTT.out]; unfold tightAt; rw [HWN.out, HPK.out]; simp [heq])
                clear heq
                go_wp2_with fail
                go_roundw
                case rel => exact ⟨k + 1, by omega, by go_num, HTA.out, HBR.out.trans (((Below.refl wr.heap.size wr).drew.trans (HB4.out.mono (by simp))).mono HBR.out.size)⟩
                case measure => simp [intOf]; omega
              · have hne : (leastI n bs pay k != p) = true := by simp [heq]
                have HTA := Lib.hid (show tightB n bs pay = false from by unfold tightB; rw [tightTo_stop (m := bs.length) (k := k) (by omega) (by unfold tightAt; rw [HWN.out, HPK.out]; simp [heq])]; simp)
                clear heq
                go_wp2_with fail
                go_ret2
                exact ⟨by rw [HTA.out, HE.out]; rfl, HBX.out.trans (((Below.refl wr.heap.size wr).drew.trans (HB4.out.mono (by simp))).mono HBX.out.size)⟩
            exact AllReadyF.nil
        · obtain rfl : k = pay.length := by omega
          have HT := Lib.hid (show tightB n bs pay = true from by unfold tightB; rw [HE.out, HBK.out, show bs.length = pay.length by omega, HTT.out]; rfl)
          go_wp2_with fail
          go_ret2
          exact ⟨by rw [HT.out, HE.out]; rfl, HBX.out⟩
  · have HT := Lib.hid (show tightB n bs pay = false from by unfold tightB; simp [he])
    have hne : (askE n bs pay != 0) = true := by simp [he]
    have HE := Lib.hid he
    clear hl hp he
    go_enter Try.func48, Try.ntmps48
    go_wp2_with (go_at_call 99; refine (asked_err n bs _ R Rp pay _ _ (HB.out.alloc _) (HP.out.alloc _) HE.out).mono ?_; rintro e w1 ⟨rfl, hb1⟩; have HB1 := Lib.hid (((Below.refl w.heap.size w).alloc (Nat.le_refl _) _).trans (hb1.mono (by simp))); clear hb1)
    go_ret2
    exact ⟨by rw [HT.out]; rfl, HB1.out⟩
end Go.Proofs.Ytcigobiolbojhaa.Vb

/- The reference of layer 18: Tight. -/
namespace Go.Proofs.Ytcigobiolbojhaa.Vb
open Go.RowKit

set_option maxRecDepth 100000 in
set_option maxHeartbeats 1600000 in
theorem refTight_any (n : Int) (bs : List (List Off)) (v : Value) (R Rp : Nat → Prop) (pay : List Int) (vp : Value) (w : World) (hl : Buys w R v bs) (hp : Sl w Rp vp pay.length 1 (ints pay)) :
    Calls Try.prog 53 #[.agg #[.int .i64 n, v], vp] w fun e w' => e = .returned (.tuple #[.bool (tightB n bs pay), .int .i64 (askE n bs pay)]) ∧ Below w.heap.size w w' := by
  obtain ⟨vs, ⟨_, A, cap, rfl, _⟩, _⟩ := id hl
  obtain ⟨_, Ap, capp, rfl, _⟩ := id hp
  have HB := Lib.hid hl
  have HP := Lib.hid hp
  by_cases he : askE n bs pay = 0
  · obtain ⟨hi, hok⟩ := askE_zero he
    have hl32 := (instE_zero hi).2.2.1
    have hpl := pay_len hok
    have HWF := Lib.hid (Buys.wf hl)
    have HE := Lib.hid he
    have HI := Lib.hid hi
    have HOK := Lib.hid hok
    have hpl1 : pay.length ≤ bs.length := by omega
    have hpl2 : bs.length ≤ pay.length := by omega
    have hpl3 : pay.length ≤ 32 := by omega
    clear hl hp he hi hok hpl
    cases hbk : blockB n bs pay with
    | true =>
      have HT := Lib.hid (show tightB n bs pay = false from by unfold tightB; rw [hbk]; simp)
      have HBK := Lib.hid hbk
      clear hbk
      go_enter Try.func53, Try.ntmps53
      go_wp2_with fail
      refine (refAsked_any n bs _ R Rp pay _ _ (HB.out.alloc _) (HP.out.alloc _)).mono ?_
      rintro e w1 ⟨(⟨_, A8, c8, A9, c9, rfl, hown1, hown2⟩ | ⟨h0, _⟩), hb1⟩
      case inr => exact absurd HE.out h0
      have hx := (one_blk' hb1).1
      have HX1 := Lib.hid hx
      have hx0 : w1.cell? ⟨w.heap.size, 0, none⟩ = some (.int .i64 n) := hx.cell 0
      have hx1 : w1.cell? ⟨w.heap.size, 1, none⟩ = some (.slice A bs.length cap) := hx.cell 1
      have hsw1 := (one_blk' hb1).2.1
      have HB1 := Lib.hid (one_blk' hb1).2.2
      have HBI := Lib.hid (Sl.of_own hown1).any
      have HWI := Lib.hid hown2
      clear hb1 hx hown1 hown2
      go_wp2_with fail
      refine (refBlocks_ok n bs _ R Rp pay _ _ (HB.out.grow HB1.out) (HP.out.grow HB1.out) HE.out).mono ?_
      rintro e w2 ⟨A2, c2, rfl, _, hb2⟩
      rw [HBK.out, HE.out]
      have HB2 := Lib.hid (HB1.out.trans (hb2.mono HB1.out.size))
      clear hb2 hx0 hx1
      go_wp2_with fail
      go_ret2
      exact ⟨by rw [HT.out, HE.out]; rfl, HB2.out.alloc HB2.out.size _⟩
    | false =>
      have HBK := Lib.hid hbk
      clear hbk
      go_enter Try.func53, Try.ntmps53
      go_wp2_with fail
      refine (refAsked_any n bs _ R Rp pay _ _ (HB.out.alloc _) (HP.out.alloc _)).mono ?_
      rintro e w1 ⟨(⟨_, A8, c8, A9, c9, rfl, hown1, hown2⟩ | ⟨h0, _⟩), hb1⟩
      case inr => exact absurd HE.out h0
      have hx := (one_blk' hb1).1
      have HX1 := Lib.hid hx
      have hx0 : w1.cell? ⟨w.heap.size, 0, none⟩ = some (.int .i64 n) := hx.cell 0
      have hx1 : w1.cell? ⟨w.heap.size, 1, none⟩ = some (.slice A bs.length cap) := hx.cell 1
      have hsw1 := (one_blk' hb1).2.1
      have HB1 := Lib.hid (one_blk' hb1).2.2
      have HBI := Lib.hid (Sl.of_own hown1).any
      have HWI := Lib.hid hown2
      clear hb1 hx hown1 hown2
      go_wp2_with fail
      refine (refBlocks_ok n bs _ R Rp pay _ _ (HB.out.grow HB1.out) (HP.out.grow HB1.out) HE.out).mono ?_
      rintro e w2 ⟨A2, c2, rfl, _, hb2⟩
      rw [HBK.out, HE.out]
      have HB2 := Lib.hid hb2
      have hsz2 := HB1.out.size
      have hsz3 := hb2.size
      clear hb2 hx0 hx1
      go_wp2_with fail
      obtain ⟨W3, hW3⟩ : ∃ W3, W3 = w2.alloc (.cells #[.slice A2 (blockL n bs pay).length c2, .int .i64 (blockM n bs pay)] 85) := ⟨_, rfl⟩
      have HBW := Lib.hid (show Below w.heap.size w W3 from by rw [hW3]; exact (HB1.out.trans (HB2.out.mono (by omega))).alloc (by omega) _)
      have HBX1 := Lib.hid (show Below w1.heap.size w1 W3 from by rw [hW3]; exact HB2.out.alloc HB2.out.size _)
      have HX3 := Lib.hid (HX1.out.grow HBX1.out)
      have HW3 := Lib.hid (own_grow HWI.out HBX1.out)
      have HBI3 := Lib.hid (HBI.out.grow HBX1.out)
      rw [← hW3]
      clear hW3
      go_loopw [12] (fun i wr => ∃ k : Nat, k ≤ pay.length ∧ i = .int .i64 k ∧ tightTo n bs pay k = true ∧ Below W3.heap.size W3 wr) (fun i _ => pay.length - (intOf i).toNat)
      case atStart => exact ⟨0, Nat.zero_le _, rfl, rfl, Below.refl _ _⟩
      case round =>
        obtain ⟨k, hk, rfl, htt, hb⟩ := hrel
        have hbw := HBW.out.trans (hb.mono HBW.out.size)
        have HTT := Lib.hid htt
        have HBR := Lib.hid hb
        have HBX := Lib.hid hbw
        clear htt hb hbw
        by_cases hlt : k < pay.length
        · have hk32 : k < 32 := by omega
          obtain ⟨bp, op, p, rfl, hbp, hpk, cp⟩ := HP.out.int_at hlt
          have dp := (HBX.out.cell (p := ⟨bp, op + k, none⟩) hbp).trans cp
          have hxr := HX3.out.grow HBR.out
          have y0 : wr.cell? ⟨w.heap.size, 0, none⟩ = some (.int .i64 n) := hxr.cell 0
          have y1 : wr.cell? ⟨w.heap.size, 1, none⟩ = some (.slice A bs.length cap) := hxr.cell 1
          have hyl := hxr.lt
          obtain ⟨gW, hgW9, _, hgl, _, _, hcw⟩ := own_some (own_grow HW3.out HBR.out) (by omega)
          subst hgW9
          obtain ⟨uW, huW, dq⟩ := hcw k (by omega)
          have hu2 : uW = .bool (winB (bestC n bs) k) := by
            have h2 : (bools (winL n bs))[k]? = some (.bool (winB (bestC n bs) k)) := by simp [bools, winL_get (show k < bs.length by omega)]
            rw [h2] at huW
            exact (Option.some.inj huW).symm
          subst hu2
          have hkw : (k : Int) < (bs.length : Int) := by omega
          clear hcw huW hxr
          have hbpr := Nat.lt_of_lt_of_le hbp HBX.out.size
          have HPK := Lib.hid hpk
          have e0 : (0 : Int) ≤ (k : Int) := by omega
          have e1 : (k : Int) < 32 := by omega
          have e2 : (k : Int) < (pay.length : Int) := by omega
          clear cp hpk
          go_wp2_with fail
          cases hwin : winB (bestC n bs) k with
          | false =>
            rw [hwin] at dq
            have HTA := Lib.hid (show tightTo n bs pay (k + 1) = true from by rw [tightTo_succ, HTT.out]; unfold tightAt; rw [hwin]; rfl)
            clear hwin
            refine wp_region_F (Below wr.heap.size wr) [] (by kernel_rfl) ((Below.refl _ _).drew) (fun hS => ?_)
            refine wpAnyF_take (i := 0) (oi := { dst := some 37, op := Go.Op.move (Go.Operand.tmp 7), type := 99, pos := "ref.go:157", after := #[], guard := none }) (v := ?_) rfl (by kernel_rfl) (by kernel_rfl) (by kernel_rfl) (by kernel_rfl) (fun _ _ _ h => h) (Or.inl ⟨by rfl, ?_⟩) hS ?_
            rotate_left
            · intro w' hSw; have q1 := (hSw.cell (p := ⟨gW, k, none⟩) hgl).trans dq; go_simp; try with_reducible rfl
            try simp only [Act.put, List.setIfInBounds_toArray, List.set_cons_zero, List.set_cons_succ]
            refine wpAnyF_take (i := 1) (oi := { dst := some 38, op := Go.Op.move (Go.Operand.tmp 12), type := 3, pos := "ref.go:157", after := #[], guard := none }) (v := ?_) rfl (by kernel_rfl) (by kernel_rfl) (by kernel_rfl) (by kernel_rfl) (fun _ _ _ h => h) (Or.inl ⟨by rfl, ?_⟩) hS ?_
            rotate_left
            · intro w' hSw; have q1 := (hSw.cell (p := ⟨gW, k, none⟩) hgl).trans dq; go_simp; try with_reducible rfl
            try simp only [Act.put, List.setIfInBounds_toArray, List.set_cons_zero, List.set_cons_succ]
            refine wpAnyF_take (i := 2) (oi := { dst := some 39, op := Go.Op.indexAddr 99 (Go.Operand.tmp 37) (Go.Operand.tmp 38), type := 0, pos := "ref.go:157", after := #[{ on := 0, ground := Go.Ground.data }, { on := 1, ground := Go.Ground.data }], guard := none }) (v := ?_) rfl (by kernel_rfl) (by kernel_rfl) (by kernel_rfl) (by kernel_rfl) (fun _ _ _ h => h) (Or.inl ⟨by rfl, ?_⟩) hS ?_
            rotate_left
            · intro w' hSw; have q1 := (hSw.cell (p := ⟨gW, k, none⟩) hgl).trans dq; go_simp; try with_reducible rfl
            try simp only [Act.put, List.setIfInBounds_toArray, List.set_cons_zero, List.set_cons_succ]
            refine wpAnyF_take (i := 3) (oi := { dst := some 40, op := Go.Op.load 4 (Go.Operand.tmp 39), type := 4, pos := "ref.go:157", after := #[{ on := 2, ground := Go.Ground.data }], guard := none }) (v := ?_) rfl (by kernel_rfl) (by kernel_rfl) (by kernel_rfl) (by kernel_rfl) (fun _ _ _ h => h) (Or.inl ⟨by rfl, ?_⟩) hS ?_
            rotate_left
            · intro w' hSw; have q1 := (hSw.cell (p := ⟨gW, k, none⟩) hgl).trans dq; go_simp; try with_reducible rfl
            try simp only [Act.put, List.setIfInBounds_toArray, List.set_cons_zero, List.set_cons_succ]
            refine wpAnyF_take (i := 4) (oi := { dst := some 41, op := Go.Op.move (Go.Operand.tmp 40), type := 4, pos := "ref.go:157", after := #[{ on := 3, ground := Go.Ground.data }], guard := none }) (v := ?_) rfl (by kernel_rfl) (by kernel_rfl) (by kernel_rfl) (by kernel_rfl) (fun _ _ _ h => h) (Or.inl ⟨by rfl, ?_⟩) hS ?_
            rotate_left
            · intro w' hSw; have q1 := (hSw.cell (p := ⟨gW, k, none⟩) hgl).trans dq; go_simp; try with_reducible rfl
            try simp only [Act.put, List.setIfInBounds_toArray, List.set_cons_zero, List.set_cons_succ]
            refine wpAnyF_take (i := 5) (oi := { dst := some 42, op := Go.Op.load 24 (Go.Operand.tmp 2), type := 24, pos := "ref.go:157", after := #[{ on := 4, ground := Go.Ground.guard }], guard := some (4, true) }) (v := undef) rfl (by kernel_rfl) (by kernel_rfl) (by kernel_rfl) (by kernel_rfl) (fun _ _ _ h => h) (Or.inr ⟨by rfl, rfl⟩) hS ?_
            try simp only [Act.put, List.setIfInBounds_toArray, List.set_cons_zero, List.set_cons_succ]
            refine wpAnyF_take (i := 6) (oi := { dst := some 43, op := Go.Op.move (Go.Operand.tmp 6), type := 34, pos := "ref.go:157", after := #[{ on := 4, ground := Go.Ground.guard }], guard := some (4, true) }) (v := undef) rfl (by kernel_rfl) (by kernel_rfl) (by kernel_rfl) (by kernel_rfl) (fun _ _ _ h => h) (Or.inr ⟨by rfl, rfl⟩) hS ?_
            try simp only [Act.put, List.setIfInBounds_toArray, List.set_cons_zero, List.set_cons_succ]
            refine wpAnyF_take (i := 7) (oi := { dst := some 44, op := Go.Op.move (Go.Operand.tmp 1), type := 34, pos := "ref.go:157", after := #[{ on := 4, ground := Go.Ground.guard }], guard := some (4, true) }) (v := undef) rfl (by kernel_rfl) (by kernel_rfl) (by kernel_rfl) (by kernel_rfl) (fun _ _ _ h => h) (Or.inr ⟨by rfl, rfl⟩) hS ?_
            try simp only [Act.put, List.setIfInBounds_toArray, List.set_cons_zero, List.set_cons_succ]
            refine wpAnyF_take (i := 8) (oi := { dst := some 45, op := Go.Op.move (Go.Operand.tmp 12), type := 3, pos := "ref.go:157", after := #[{ on := 4, ground := Go.Ground.guard }], guard := some (4, true) }) (v := undef) rfl (by kernel_rfl) (by kernel_rfl) (by kernel_rfl) (by kernel_rfl) (fun _ _ _ h => h) (Or.inr ⟨by rfl, rfl⟩) hS ?_
            try simp only [Act.put, List.setIfInBounds_toArray, List.set_cons_zero, List.set_cons_succ]
            refine wpAnyF_take (i := 9) (oi := { dst := some 46, op := Go.Op.call { callee := Go.Callee.value (Go.Operand.func 95), args := #[Go.Operand.tmp 42, Go.Operand.tmp 43, Go.Operand.tmp 44, Go.Operand.tmp 45], argTypes := #[24, 34, 34, 3] }, type := 2, pos := "ref.go:157", after := #[{ on := 5, ground := Go.Ground.data }, { on := 6, ground := Go.Ground.data }, { on := 7, ground := Go.Ground.data }, { on := 8, ground := Go.Ground.data }, { on := 4, ground := Go.Ground.chain }, { on := 4, ground := Go.Ground.guard }], guard := some (4, true) }) (v := undef) rfl (by kernel_rfl) (by kernel_rfl) (by kernel_rfl) (by kernel_rfl) (fun _ _ _ h => h) (Or.inr ⟨by rfl, rfl⟩) hS ?_
            try simp only [Act.put, List.setIfInBounds_toArray, List.set_cons_zero, List.set_cons_succ]
            refine wpAnyF_take (i := 10) (oi := { dst := some 47, op := Go.Op.move (Go.Operand.tmp 1), type := 34, pos := "ref.go:157", after := #[{ on := 4, ground := Go.Ground.guard }], guard := some (4, true) }) (v := undef) rfl (by kernel_rfl) (by kernel_rfl) (by kernel_rfl) (by kernel_rfl) (fun _ _ _ h => h) (Or.inr ⟨by rfl, rfl⟩) hS ?_
            try simp only [Act.put, List.setIfInBounds_toArray, List.set_cons_zero, List.set_cons_succ]
            refine wpAnyF_take (i := 11) (oi := { dst := some 48, op := Go.Op.move (Go.Operand.tmp 12), type := 3, pos := "ref.go:157", after := #[{ on := 4, ground := Go.Ground.guard }], guard := some (4, true) }) (v := undef) rfl (by kernel_rfl) (by kernel_rfl) (by kernel_rfl) (by kernel_rfl) (fun _ _ _ h => h) (Or.inr ⟨by rfl, rfl⟩) hS ?_
            try simp only [Act.put, List.setIfInBounds_toArray, List.set_cons_zero, List.set_cons_succ]
            refine wpAnyF_take (i := 12) (oi := { dst := some 49, op := Go.Op.indexAddr 34 (Go.Operand.tmp 47) (Go.Operand.tmp 48), type := 0, pos := "ref.go:157", after := #[{ on := 10, ground := Go.Ground.data }, { on := 11, ground := Go.Ground.data }, { on := 4, ground := Go.Ground.guard }], guard := some (4, true) }) (v := undef) rfl (by kernel_rfl) (by kernel_rfl) (by kernel_rfl) (by kernel_rfl) (fun _ _ _ h => h) (Or.inr ⟨by rfl, rfl⟩) hS ?_
            try simp only [Act.put, List.setIfInBounds_toArray, List.set_cons_zero, List.set_cons_succ]
            refine wpAnyF_take (i := 13) (oi := { dst := some 50, op := Go.Op.load 2 (Go.Operand.tmp 49), type := 2, pos := "ref.go:157", after := #[{ on := 12, ground := Go.Ground.data }, { on := 4, ground := Go.Ground.guard }], guard := some (4, true) }) (v := undef) rfl (by kernel_rfl) (by kernel_rfl) (by kernel_rfl) (by kernel_rfl) (fun _ _ _ h => h) (Or.inr ⟨by rfl, rfl⟩) hS ?_
            try simp only [Act.put, List.setIfInBounds_toArray, List.set_cons_zero, List.set_cons_succ]
            refine wpAnyF_take (i := 14) (oi := { dst := some 51, op := Go.Op.binOp Go.BinOp.neq 2 (Go.Operand.tmp 46) (Go.Operand.tmp 50) 2, type := 4, pos := "ref.go:157", after := #[{ on := 9, ground := Go.Ground.data }, { on := 13, ground := Go.Ground.data }, { on := 4, ground := Go.Ground.guard }], guard := some (4, true) }) (v := undef) rfl (by kernel_rfl) (by kernel_rfl) (by kernel_rfl) (by kernel_rfl) (fun _ _ _ h => h) (Or.inr ⟨by rfl, rfl⟩) hS ?_
            try simp only [Act.put, List.setIfInBounds_toArray, List.set_cons_zero, List.set_cons_succ]
            refine wpAnyF_take (i := 15) (oi := { dst := some 52, op := Go.Op.pick (Go.Operand.tmp 41) (Go.Operand.tmp 51) (Go.Operand.const (Go.Value.bool false)), type := 4, pos := "ref.go:157", after := #[{ on := 4, ground := Go.Ground.data }, { on := 14, ground := Go.Ground.data }], guard := none }) (v := ?_) rfl (by kernel_rfl) (by kernel_rfl) (by kernel_rfl) (by kernel_rfl) (fun _ _ _ h => h) (Or.inl ⟨by rfl, ?_⟩) hS ?_
            rotate_left
            · intro w' hSw; have q1 := (hSw.cell (p := ⟨gW, k, none⟩) hgl).trans dq; go_simp; try with_reducible rfl
            try simp only [Act.put, List.setIfInBounds_toArray, List.set_cons_zero, List.set_cons_succ]
            refine wpAnyF_done (by kernel_rfl) ?_ _
            go_wp2_with fail
            go_roundw
            case rel => exact ⟨k + 1, by omega, by go_num, HTA.out, HBR.out.drew⟩
            case measure => simp [intOf]; omega
          | true =>
            rw [hwin] at dq
            have HWN := Lib.hid hwin
            clear hwin
            refine wp_region_F (Below wr.heap.size wr) [] (by kernel_rfl) ((Below.refl _ _).drew) (fun hS => ?_)
            refine wpAnyF_take (i := 0) (oi := { dst := some 37, op := Go.Op.move (Go.Operand.tmp 7), type := 99, pos := "ref.go:157", after := #[], guard := none }) (v := ?_) rfl (by kernel_rfl) (by kernel_rfl) (by kernel_rfl) (by kernel_rfl) (fun _ _ _ h => h) (Or.inl ⟨by rfl, ?_⟩) hS ?_
            rotate_left
            · intro w' hSw; have q1 := (hSw.cell (p := ⟨gW, k, none⟩) hgl).trans dq; have q2 := (hSw.cell (p := ⟨bp, op + k, none⟩) hbpr).trans dp; have q3 := (hSw.cell (p := ⟨w.heap.size, 0, none⟩) hyl).trans y0; have q4 := (hSw.cell (p := ⟨w.heap.size, 1, none⟩) hyl).trans y1; go_simp; try with_reducible rfl
            try simp only [Act.put, List.setIfInBounds_toArray, List.set_cons_zero, List.set_cons_succ]
            refine wpAnyF_take (i := 1) (oi := { dst := some 38, op := Go.Op.move (Go.Operand.tmp 12), type := 3, pos := "ref.go:157", after := #[], guard := none }) (v := ?_) rfl (by kernel_rfl) (by kernel_rfl) (by kernel_rfl) (by kernel_rfl) (fun _ _ _ h => h) (Or.inl ⟨by rfl, ?_⟩) hS ?_
            rotate_left
            · intro w' hSw; have q1 := (hSw.cell (p := ⟨gW, k, none⟩) hgl).trans dq; have q2 := (hSw.cell (p := ⟨bp, op + k, none⟩) hbpr).trans dp; have q3 := (hSw.cell (p := ⟨w.heap.size, 0, none⟩) hyl).trans y0; have q4 := (hSw.cell (p := ⟨w.heap.size, 1, none⟩) hyl).trans y1; go_simp; try with_reducible rfl
            try simp only [Act.put, List.setIfInBounds_toArray, List.set_cons_zero, List.set_cons_succ]
            refine wpAnyF_take (i := 2) (oi := { dst := some 39, op := Go.Op.indexAddr 99 (Go.Operand.tmp 37) (Go.Operand.tmp 38), type := 0, pos := "ref.go:157", after := #[{ on := 0, ground := Go.Ground.data }, { on := 1, ground := Go.Ground.data }], guard := none }) (v := ?_) rfl (by kernel_rfl) (by kernel_rfl) (by kernel_rfl) (by kernel_rfl) (fun _ _ _ h => h) (Or.inl ⟨by rfl, ?_⟩) hS ?_
            rotate_left
            · intro w' hSw; have q1 := (hSw.cell (p := ⟨gW, k, none⟩) hgl).trans dq; have q2 := (hSw.cell (p := ⟨bp, op + k, none⟩) hbpr).trans dp; have q3 := (hSw.cell (p := ⟨w.heap.size, 0, none⟩) hyl).trans y0; have q4 := (hSw.cell (p := ⟨w.heap.size, 1, none⟩) hyl).trans y1; go_simp; try with_reducible rfl
            try simp only [Act.put, List.setIfInBounds_toArray, List.set_cons_zero, List.set_cons_succ]
            refine wpAnyF_take (i := 3) (oi := { dst := some 40, op := Go.Op.load 4 (Go.Operand.tmp 39), type := 4, pos := "ref.go:157", after := #[{ on := 2, ground := Go.Ground.data }], guard := none }) (v := ?_) rfl (by kernel_rfl) (by kernel_rfl) (by kernel_rfl) (by kernel_rfl) (fun _ _ _ h => h) (Or.inl ⟨by rfl, ?_⟩) hS ?_
            rotate_left
            · intro w' hSw; have q1 := (hSw.cell (p := ⟨gW, k, none⟩) hgl).trans dq; have q2 := (hSw.cell (p := ⟨bp, op + k, none⟩) hbpr).trans dp; have q3 := (hSw.cell (p := ⟨w.heap.size, 0, none⟩) hyl).trans y0; have q4 := (hSw.cell (p := ⟨w.heap.size, 1, none⟩) hyl).trans y1; go_simp; try with_reducible rfl
            try simp only [Act.put, List.setIfInBounds_toArray, List.set_cons_zero, List.set_cons_succ]
            refine wpAnyF_take (i := 4) (oi := { dst := some 41, op := Go.Op.move (Go.Operand.tmp 40), type := 4, pos := "ref.go:157", after := #[{ on := 3, ground := Go.Ground.data }], guard := none }) (v := ?_) rfl (by kernel_rfl) (by kernel_rfl) (by kernel_rfl) (by kernel_rfl) (fun _ _ _ h => h) (Or.inl ⟨by rfl, ?_⟩) hS ?_
            rotate_left
            · intro w' hSw; have q1 := (hSw.cell (p := ⟨gW, k, none⟩) hgl).trans dq; have q2 := (hSw.cell (p := ⟨bp, op + k, none⟩) hbpr).trans dp; have q3 := (hSw.cell (p := ⟨w.heap.size, 0, none⟩) hyl).trans y0; have q4 := (hSw.cell (p := ⟨w.heap.size, 1, none⟩) hyl).trans y1; go_simp; try with_reducible rfl
            try simp only [Act.put, List.setIfInBounds_toArray, List.set_cons_zero, List.set_cons_succ]
            refine wpAnyF_take (i := 5) (oi := { dst := some 42, op := Go.Op.load 24 (Go.Operand.tmp 2), type := 24, pos := "ref.go:157", after := #[{ on := 4, ground := Go.Ground.guard }], guard := some (4, true) }) (v := ?_) rfl (by kernel_rfl) (by kernel_rfl) (by kernel_rfl) (by kernel_rfl) (fun _ _ _ h => h) (Or.inl ⟨by rfl, ?_⟩) hS ?_
            rotate_left
            · intro w' hSw; have q1 := (hSw.cell (p := ⟨gW, k, none⟩) hgl).trans dq; have q2 := (hSw.cell (p := ⟨bp, op + k, none⟩) hbpr).trans dp; have q3 := (hSw.cell (p := ⟨w.heap.size, 0, none⟩) hyl).trans y0; have q4 := (hSw.cell (p := ⟨w.heap.size, 1, none⟩) hyl).trans y1; go_simp; try with_reducible rfl
            try simp only [Act.put, List.setIfInBounds_toArray, List.set_cons_zero, List.set_cons_succ]
            refine wpAnyF_take (i := 6) (oi := { dst := some 43, op := Go.Op.move (Go.Operand.tmp 6), type := 34, pos := "ref.go:157", after := #[{ on := 4, ground := Go.Ground.guard }], guard := some (4, true) }) (v := ?_) rfl (by kernel_rfl) (by kernel_rfl) (by kernel_rfl) (by kernel_rfl) (fun _ _ _ h => h) (Or.inl ⟨by rfl, ?_⟩) hS ?_
            rotate_left
            · intro w' hSw; have q1 := (hSw.cell (p := ⟨gW, k, none⟩) hgl).trans dq; have q2 := (hSw.cell (p := ⟨bp, op + k, none⟩) hbpr).trans dp; have q3 := (hSw.cell (p := ⟨w.heap.size, 0, none⟩) hyl).trans y0; have q4 := (hSw.cell (p := ⟨w.heap.size, 1, none⟩) hyl).trans y1; go_simp; try with_reducible rfl
            try simp only [Act.put, List.setIfInBounds_toArray, List.set_cons_zero, List.set_cons_succ]
            refine wpAnyF_take (i := 7) (oi := { dst := some 44, op := Go.Op.move (Go.Operand.tmp 1), type := 34, pos := "ref.go:157", after := #[{ on := 4, ground := Go.Ground.guard }], guard := some (4, true) }) (v := ?_) rfl (by kernel_rfl) (by kernel_rfl) (by kernel_rfl) (by kernel_rfl) (fun _ _ _ h => h) (Or.inl ⟨by rfl, ?_⟩) hS ?_
            rotate_left
            · intro w' hSw; have q1 := (hSw.cell (p := ⟨gW, k, none⟩) hgl).trans dq; have q2 := (hSw.cell (p := ⟨bp, op + k, none⟩) hbpr).trans dp; have q3 := (hSw.cell (p := ⟨w.heap.size, 0, none⟩) hyl).trans y0; have q4 := (hSw.cell (p := ⟨w.heap.size, 1, none⟩) hyl).trans y1; go_simp; try with_reducible rfl
            try simp only [Act.put, List.setIfInBounds_toArray, List.set_cons_zero, List.set_cons_succ]
            refine wpAnyF_take (i := 8) (oi := { dst := some 45, op := Go.Op.move (Go.Operand.tmp 12), type := 3, pos := "ref.go:157", after := #[{ on := 4, ground := Go.Ground.guard }], guard := some (4, true) }) (v := ?_) rfl (by kernel_rfl) (by kernel_rfl) (by kernel_rfl) (by kernel_rfl) (fun _ _ _ h => h) (Or.inl ⟨by rfl, ?_⟩) hS ?_
            rotate_left
            · intro w' hSw; have q1 := (hSw.cell (p := ⟨gW, k, none⟩) hgl).trans dq; have q2 := (hSw.cell (p := ⟨bp, op + k, none⟩) hbpr).trans dp; have q3 := (hSw.cell (p := ⟨w.heap.size, 0, none⟩) hyl).trans y0; have q4 := (hSw.cell (p := ⟨w.heap.size, 1, none⟩) hyl).trans y1; go_simp; try with_reducible rfl
            try simp only [Act.put, List.setIfInBounds_toArray, List.set_cons_zero, List.set_cons_succ]
            refine wpAnyF_take (i := 10) (oi := { dst := some 47, op := Go.Op.move (Go.Operand.tmp 1), type := 34, pos := "ref.go:157", after := #[{ on := 4, ground := Go.Ground.guard }], guard := some (4, true) }) (v := ?_) rfl (by kernel_rfl) (by kernel_rfl) (by kernel_rfl) (by kernel_rfl) (fun _ _ _ h => h) (Or.inl ⟨by rfl, ?_⟩) hS ?_
            rotate_left
            · intro w' hSw; have q1 := (hSw.cell (p := ⟨gW, k, none⟩) hgl).trans dq; have q2 := (hSw.cell (p := ⟨bp, op + k, none⟩) hbpr).trans dp; have q3 := (hSw.cell (p := ⟨w.heap.size, 0, none⟩) hyl).trans y0; have q4 := (hSw.cell (p := ⟨w.heap.size, 1, none⟩) hyl).trans y1; go_simp; try with_reducible rfl
            try simp only [Act.put, List.setIfInBounds_toArray, List.set_cons_zero, List.set_cons_succ]
            refine wpAnyF_take (i := 11) (oi := { dst := some 48, op := Go.Op.move (Go.Operand.tmp 12), type := 3, pos := "ref.go:157", after := #[{ on := 4, ground := Go.Ground.guard }], guard := some (4, true) }) (v := ?_) rfl (by kernel_rfl) (by kernel_rfl) (by kernel_rfl) (by kernel_rfl) (fun _ _ _ h => h) (Or.inl ⟨by rfl, ?_⟩) hS ?_
            rotate_left
            · intro w' hSw; have q1 := (hSw.cell (p := ⟨gW, k, none⟩) hgl).trans dq; have q2 := (hSw.cell (p := ⟨bp, op + k, none⟩) hbpr).trans dp; have q3 := (hSw.cell (p := ⟨w.heap.size, 0, none⟩) hyl).trans y0; have q4 := (hSw.cell (p := ⟨w.heap.size, 1, none⟩) hyl).trans y1; go_simp; try with_reducible rfl
            try simp only [Act.put, List.setIfInBounds_toArray, List.set_cons_zero, List.set_cons_succ]
            refine wpAnyF_take (i := 12) (oi := { dst := some 49, op := Go.Op.indexAddr 34 (Go.Operand.tmp 47) (Go.Operand.tmp 48), type := 0, pos := "ref.go:157", after := #[{ on := 10, ground := Go.Ground.data }, { on := 11, ground := Go.Ground.data }, { on := 4, ground := Go.Ground.guard }], guard := some (4, true) }) (v := ?_) rfl (by kernel_rfl) (by kernel_rfl) (by kernel_rfl) (by kernel_rfl) (fun _ _ _ h => h) (Or.inl ⟨by rfl, ?_⟩) hS ?_
            rotate_left
            · intro w' hSw; have q1 := (hSw.cell (p := ⟨gW, k, none⟩) hgl).trans dq; have q2 := (hSw.cell (p := ⟨bp, op + k, none⟩) hbpr).trans dp; have q3 := (hSw.cell (p := ⟨w.heap.size, 0, none⟩) hyl).trans y0; have q4 := (hSw.cell (p := ⟨w.heap.size, 1, none⟩) hyl).trans y1; go_simp; try with_reducible rfl
            try simp only [Act.put, List.setIfInBounds_toArray, List.set_cons_zero, List.set_cons_succ]
            refine wpAnyF_take (i := 13) (oi := { dst := some 50, op := Go.Op.load 2 (Go.Operand.tmp 49), type := 2, pos := "ref.go:157", after := #[{ on := 12, ground := Go.Ground.data }, { on := 4, ground := Go.Ground.guard }], guard := some (4, true) }) (v := ?_) rfl (by kernel_rfl) (by kernel_rfl) (by kernel_rfl) (by kernel_rfl) (fun _ _ _ h => h) (Or.inl ⟨by rfl, ?_⟩) hS ?_
            rotate_left
            · intro w' hSw; have q1 := (hSw.cell (p := ⟨gW, k, none⟩) hgl).trans dq; have q2 := (hSw.cell (p := ⟨bp, op + k, none⟩) hbpr).trans dp; have q3 := (hSw.cell (p := ⟨w.heap.size, 0, none⟩) hyl).trans y0; have q4 := (hSw.cell (p := ⟨w.heap.size, 1, none⟩) hyl).trans y1; go_simp; try with_reducible rfl
            try simp only [Act.put, List.setIfInBounds_toArray, List.set_cons_zero, List.set_cons_succ]
            refine wpAnyF_ready (rs := [9]) (by kernel_rfl) (by simp) ?_
            refine AllReadyF.cons (o := { dst := some 46, op := Go.Op.call { callee := Go.Callee.value (Go.Operand.func 95), args := #[Go.Operand.tmp 42, Go.Operand.tmp 43, Go.Operand.tmp 44, Go.Operand.tmp 45], argTypes := #[24, 34, 34, 3] }, type := 2, pos := "ref.go:157", after := #[{ on := 5, ground := Go.Ground.data }, { on := 6, ground := Go.Ground.data }, { on := 7, ground := Go.Ground.data }, { on := 8, ground := Go.Ground.data }, { on := 4, ground := Go.Ground.chain }, { on := 4, ground := Go.Ground.guard }], guard := some (4, true) }) rfl (by rfl) (fun K hK => ?_) ?_
            · go_simp
              refine (refLeast18_any n bs _ _ pay _ _ Rp R k (by omega) _ ((HB.out.grow HBX.out).grow (Below.refl _ _).drew) ((HBI3.out.grow HBR.out).grow (Below.refl _ _).drew) ((HP.out.grow HBX.out).grow (Below.refl _ _).drew) HI.out HOK.out).mono ?_
              rintro e w4 ⟨rfl, hb4⟩
              refine hK.out _ _ ?_ (fun hS => ?_)
              · exact (Below.refl wr.heap.size wr).drew.trans (hb4.mono (by simp))
              clear hK K
              try simp only [Act.put, List.setIfInBounds_toArray, List.set_cons_zero, List.set_cons_succ]
              have HB4 := Lib.hid hb4
              have hs4 := hb4.size
              clear hb4
              refine wpAnyF_take (i := 14) (oi := { dst := some 51, op := Go.Op.binOp Go.BinOp.neq 2 (Go.Operand.tmp 46) (Go.Operand.tmp 50) 2, type := 4, pos := "ref.go:157", after := #[{ on := 9, ground := Go.Ground.data }, { on := 13, ground := Go.Ground.data }, { on := 4, ground := Go.Ground.guard }], guard := some (4, true) }) (v := ?_) rfl (by kernel_rfl) (by kernel_rfl) (by kernel_rfl) (by kernel_rfl) (fun _ _ _ h => h) (Or.inl ⟨by rfl, ?_⟩) hS ?_
              rotate_left
              · intro w' hSw; have q1 := (hSw.cell (p := ⟨gW, k, none⟩) hgl).trans dq; have q2 := (hSw.cell (p := ⟨bp, op + k, none⟩) hbpr).trans dp; have q3 := (hSw.cell (p := ⟨w.heap.size, 0, none⟩) hyl).trans y0; have q4 := (hSw.cell (p := ⟨w.heap.size, 1, none⟩) hyl).trans y1; go_simp; try with_reducible rfl
              try simp only [Act.put, List.setIfInBounds_toArray, List.set_cons_zero, List.set_cons_succ]
              refine wpAnyF_take (i := 15) (oi := { dst := some 52, op := Go.Op.pick (Go.Operand.tmp 41) (Go.Operand.tmp 51) (Go.Operand.const (Go.Value.bool false)), type := 4, pos := "ref.go:157", after := #[{ on := 4, ground := Go.Ground.data }, { on := 14, ground := Go.Ground.data }], guard := none }) (v := ?_) rfl (by kernel_rfl) (by kernel_rfl) (by kernel_rfl) (by kernel_rfl) (fun _ _ _ h => h) (Or.inl ⟨by rfl, ?_⟩) hS ?_
              rotate_left
              · intro w' hSw; have q1 := (hSw.cell (p := ⟨gW, k, none⟩) hgl).trans dq; have q2 := (hSw.cell (p := ⟨bp, op + k, none⟩) hbpr).trans dp; have q3 := (hSw.cell (p := ⟨w.heap.size, 0, none⟩) hyl).trans y0; have q4 := (hSw.cell (p := ⟨w.heap.size, 1, none⟩) hyl).trans y1; go_simp; try with_reducible rfl
              try simp only [Act.put, List.setIfInBounds_toArray, List.set_cons_zero, List.set_cons_succ]
              refine wpAnyF_done (by kernel_rfl) ?_ _
              by_cases heq : leastI n bs pay k = p
              · have hne : (leastI n bs pay k != p) = false := by simp [heq]
                have HTA := Lib.hid (show tightTo n bs pay (k + 1) = true from by rw [tightTo_succ, HTT.out]; unfold tightAt; rw [HWN.out, HPK.out]; simp [heq])
                clear heq
                go_wp2_with fail
                go_roundw
                case rel => exact ⟨k + 1, by omega, by go_num, HTA.out, HBR.out.trans (((Below.refl wr.heap.size wr).drew.trans (HB4.out.mono (by simp))).mono HBR.out.size)⟩
                case measure => simp [intOf]; omega
              · have hne : (leastI n bs pay k != p) = true := by simp [heq]
                have HTA := Lib.hid (show tightB n bs pay = false from by unfold tightB; rw [tightTo_stop (m := bs.length) (k := k) (by omega) (by unfold tightAt; rw [HWN.out, HPK.out]; simp [heq])]; simp)
                clear heq
                go_wp2_with fail
                go_ret2
                exact ⟨by rw [HTA.out, HE.out]; rfl, HBX.out.trans (((Below.refl wr.heap.size wr).drew.trans (HB4.out.mono (by simp))).mono HBX.out.size)⟩
            exact AllReadyF.nil
        · obtain rfl : k = pay.length := by omega
          have HT := Lib.hid (show tightB n bs pay = true from by unfold tightB; rw [HE.out, HBK.out, show bs.length = pay.length by omega, HTT.out]; rfl)
          go_wp2_with fail
          go_ret2
          exact ⟨by rw [HT.out, HE.out]; rfl, HBX.out⟩
  · have HT := Lib.hid (show tightB n bs pay = false from by unfold tightB; simp [he])
    have hne : (askE n bs pay != 0) = true := by simp [he]
    have HE := Lib.hid he
    clear hl hp he
    go_enter Try.func53, Try.ntmps53
    go_wp2_with fail
    refine (refAsked_any n bs _ R Rp pay _ _ (HB.out.alloc _) (HP.out.alloc _)).mono ?_
    rintro e w1 ⟨(⟨h0, _⟩ | ⟨_, rfl⟩), hb1⟩
    · exact absurd h0 HE.out
    have HB1 := Lib.hid (one_blk' hb1).2.2
    clear hb1
    go_wp2_with fail
    go_ret2
    exact ⟨by rw [HT.out]; rfl, HB1.out⟩
end Go.Proofs.Ytcigobiolbojhaa.Vb

/- Plain: the core's payments: nobody blocks at any step; none could pay less. -/
namespace Go.Proofs.Ytcigobiolbojhaa.Vb
open Go.RowKit

theorem lowL_add {c d : Int} (hd : 0 ≤ d) : ∀ l : List Off, lowL (c + d) l = lowL d (lowL c l)
  | [] => rfl
  | o :: l => by
    have ih := lowL_add (c := c) hd l
    unfold lowL at *
    by_cases h1 : c + d < o.c
    · have h2 : c < o.c := by omega
      have h3 : d < o.c - c := by omega
      simp only [List.filter_cons, h1, h2, decide_true, if_true, List.map_cons, h3, ih]
      congr 2
      omega
    · by_cases h2 : c < o.c
      · have h3 : ¬ d < o.c - c := by omega
        simp only [List.filter_cons, h1, h2, decide_true, decide_false, if_true, List.map_cons, h3, ih, Bool.false_eq_true, if_false]
      · simp only [List.filter_cons, h1, h2, decide_false, Bool.false_eq_true, if_false, ih]
theorem lowL_zero : ∀ l : List Off, (∀ o ∈ l, 0 < o.c) → lowL 0 l = l
  | [], _ => rfl
  | o :: l, h => by
    have ih := lowL_zero l (fun x hx => h x (by simp [hx]))
    have h1 := h o (by simp)
    unfold lowL at *
    simp only [List.filter_cons, h1, decide_true, if_true, List.map_cons, ih]
    obtain ⟨g, c⟩ := o
    simp
theorem lowL_mem {d : Int} {l : List Off} {o : Off} (h : o ∈ l) (hd : d < o.c) : (⟨o.g, o.c - d⟩ : Off) ∈ lowL d l := by
  simp only [lowL, List.mem_map, List.mem_filter, decide_eq_true_eq]
  exact ⟨o, ⟨h, hd⟩, rfl⟩
theorem lowL_of {d : Int} {l : List Off} {x : Off} (h : x ∈ lowL d l) : ∃ o ∈ l, x.g = o.g ∧ x.c = o.c - d := by
  simp only [lowL, List.mem_map, List.mem_filter, decide_eq_true_eq] at h
  obtain ⟨o, ⟨ho, _⟩, rfl⟩ := h
  exact ⟨o, ho, rfl, rfl⟩

/-- one list lowered: either that buyer is not missed, or all loses as much -/
theorem W_low1 {d : Int} : ∀ (bs : List (List Off)) (k f : Nat) (l : List Off), bs[k]? = some l → W (bs.set k (lowL d l)) f ≤ max (W (bs.set k []) f) (W bs f - d)
  | [], k, f, l, h => by simp at h
  | l0 :: bs, 0, f, l, h => by
    simp at h
    subst h
    simp only [List.set_cons_zero, W, List.foldl_nil]
    rcases fold_att (g := W bs) (f := f) (lowL d l0) (W bs f) with h | ⟨x, hx, hxf, he⟩
    · omega
    · obtain ⟨o, ho, hg, hc⟩ := lowL_of hx
      rw [hg] at hxf
      have := fold_mem (g := W bs) (f := f) l0 (W bs f) o ho hxf
      rw [hg] at he
      omega
  | l0 :: bs, k + 1, f, l, h => by
    have ih := fun x => W_low1 (d := d) bs k x l (by simpa using h)
    simp only [List.set_cons_succ, W]
    rcases fold_att (g := W (bs.set k (lowL d l))) (f := f) l0 (W (bs.set k (lowL d l)) f) with h | ⟨o, ho, hof, he⟩
    · have h1 := ih f
      have h2 := fold_ge (W (bs.set k [])) f l0 (W (bs.set k []) f)
      have h3 := fold_ge (W bs) f l0 (W bs f)
      omega
    · have h1 := ih (andNot f o.g)
      have h2 := fold_mem (g := W (bs.set k [])) (f := f) l0 (W (bs.set k []) f) o ho hof
      have h3 := fold_mem (g := W bs) (f := f) l0 (W bs f) o ho hof
      omega
theorem SubG_andNot (f g : Nat) (hg : g < 4294967296) : SubG (andNot f g) f := andNot_sub hg
/-- .. and no more than as much -/
theorem W_low2 {d : Int} (hd : 0 ≤ d) : ∀ (bs : List (List Off)) (k f : Nat) (l : List Off), GoodL bs → f < 4294967296 → bs[k]? = some l → W bs f ≤ W (bs.set k (lowL d l)) f + d
  | [], k, f, l, _, _, h => by simp at h
  | l0 :: bs, 0, f, l, hg, hf, h => by
    simp at h
    subst h
    have hg' : GoodL bs := fun x hx => hg x (by simp [hx])
    simp only [List.set_cons_zero, W]
    have h0 := fold_ge (W bs) f (lowL d l0) (W bs f)
    rcases fold_att (g := W bs) (f := f) l0 (W bs f) with h | ⟨o, ho, hof, he⟩
    · omega
    · by_cases hlt : d < o.c
      · have := fold_mem (g := W bs) (f := f) (lowL d l0) (W bs f) _ (lowL_mem ho hlt) hof
        simp only at this
        omega
      · have hog := hg l0 (by simp) o ho
        have := W_free bs (andNot f o.g) f hg' (andNot_lt hf) hf (SubG_andNot f o.g hog)
        omega
  | l0 :: bs, k + 1, f, l, hg, hf, h => by
    have hg' : GoodL bs := fun x hx => hg x (by simp [hx])
    have ih := fun x hx => W_low2 hd bs k x l hg' hx (by simpa using h)
    simp only [List.set_cons_succ, W]
    rcases fold_att (g := W bs) (f := f) l0 (W bs f) with h | ⟨o, ho, hof, he⟩
    · have h1 := ih f hf
      have h2 := fold_ge (W (bs.set k (lowL d l))) f l0 (W (bs.set k (lowL d l)) f)
      omega
    · have h1 := ih (andNot f o.g) (andNot_lt hf)
      have h2 := fold_mem (g := W (bs.set k (lowL d l))) (f := f) l0 (W (bs.set k (lowL d l)) f) o ho hof
      omega

theorem sumI_set {l : List Int} {k : Nat} {x y : Int} (h : l[k]? = some y) : sumI (l.set k x) = sumI l - y + x := by
  induction l generalizing k with
  | nil => simp at h
  | cons a l ih =>
    cases k with
    | zero => simp at h; subst h; simp only [List.set_cons_zero, sumI]; omega
    | succ k => simp only [List.set_cons_succ, sumI]; rw [ih (by simpa using h)]; omega
/-- what winners bid is what it is worth -/
theorem bids_sum : ∀ (bs : List (List Off)) (f : Nat), sumI ((choose bs f).mapIdx fun i c => coinAt bs i c) = W bs f
  | [], f => by simp [choose, sumI, W]
  | l :: bs, f => by
    have hc : ∀ (i : Nat) (c : Int), coinAt (l :: bs) (i + 1) c = coinAt bs i c := fun i c => by simp [coinAt]
    simp only [choose, List.mapIdx_cons, sumI, hc]
    unfold pickN
    cases hp : pickAt (W bs) f (W (l :: bs) f) l with
    | none =>
      simp only []
      rw [bids_sum bs f, coinAt_neg (by omega), pick_none_W hp]
      omega
    | some p =>
      obtain ⟨j, x⟩ := p
      obtain ⟨o, ho, hx, hf, he, _⟩ := pickAt_get' hp
      simp only []
      rw [bids_sum bs (andNot f x), coinAt_some (l := l) (o := o) rfl ho, ← hx]
      exact he
theorem bidsC_sum (n : Int) (bs : List (List Off)) : sumI (bidsC n bs) = W bs (allOf n) := bids_sum bs (allOf n)
end Go.Proofs.Ytcigobiolbojhaa.Vb

/- Plain: the core's payments, step by step. -/
namespace Go.Proofs.Ytcigobiolbojhaa.Vb
open Go.RowKit

def payStep (n : Int) (bs : List (List Off)) (p : List Int) (k : Nat) : List Int := if winB (bestC n bs) k = true then p.set k (leastI n bs p k) else p
def payTo (n : Int) (bs : List (List Off)) : Nat → List Int
  | 0 => bidsC n bs
  | k + 1 => payStep n bs (payTo n bs k) k
/-- what is missed without buyer i, less what the others pay -/
def missI (n : Int) (bs : List (List Off)) (p : List Int) (i : Nat) : Int := W ((lowB n bs p).set i []) (allOf n) - (sumI p - p[i]?.getD 0)

section
variable {n : Int} {bs : List (List Off)}

theorem lowB_set {p : List Int} {k : Nat} {l : List Off} {x y b : Int} (hl : bs[k]? = some l) (hp : p[k]? = some y) (hb : (bidsC n bs)[k]? = some b) (hx : x ≤ y) :
    lowB n bs (p.set k x) = (lowB n bs p).set k (lowL (y - x) (lowL (b - y) l)) := by
  apply List.ext_getElem?
  intro i
  have hkp : k < p.length := (List.getElem?_eq_some_iff.mp hp).1
  have hkb : k < bs.length := (List.getElem?_eq_some_iff.mp hl).1
  by_cases hik : k = i
  · subst hik
    rw [List.getElem?_set_self (by rw [lowB_length]; exact hkb), ← lowL_add (by omega), show b - y + (y - x) = b - x from by omega]
    exact lowB_get hl (by rw [List.getElem?_set_self hkp]) hb
  · rw [List.getElem?_set_ne hik]
    simp only [lowB, List.getElem?_mapIdx]
    rw [List.getElem?_set_ne hik]
theorem payL_at {p : List Int} (hok : payL p (bidsC n bs) = true) {k : Nat} (hk : k < bs.length) : ∃ y b l, p[k]? = some y ∧ (bidsC n bs)[k]? = some b ∧ bs[k]? = some l ∧ 0 ≤ y ∧ y ≤ b := by
  obtain ⟨h1, h2⟩ := (payL_iff _ _).mp hok
  have hb : k < (bidsC n bs).length := by rw [bidsC_length]; exact hk
  have hp : k < p.length := by omega
  have e1 := List.getElem?_eq_getElem hb
  have e2 := List.getElem?_eq_getElem hp
  obtain ⟨h3, h4⟩ := h2 k _ _ e2 e1
  exact ⟨_, _, _, e2, e1, List.getElem?_eq_getElem hk, h3, h4⟩
theorem payL_set {p : List Int} (hok : payL p (bidsC n bs) = true) {k : Nat} {x y : Int} (hp : p[k]? = some y) (h0 : 0 ≤ x) (h1 : x ≤ y) : payL (p.set k x) (bidsC n bs) = true := by
  rw [payL_iff] at hok ⊢
  refine ⟨by rw [List.length_set]; exact hok.1, fun i q b hq hb => ?_⟩
  by_cases hik : k = i
  · subst hik
    rw [List.getElem?_set_self (List.getElem?_eq_some_iff.mp hp).1] at hq
    injection hq with hq
    have := hok.2 k y b hp hb
    omega
  · rw [List.getElem?_set_ne hik] at hq
    exact hok.2 i q b hq hb
theorem leastI_eq {p : List Int} (hi : instE n bs = 0) (hok : payL p (bidsC n bs) = true) {k : Nat} (hk : k < bs.length) : leastI n bs p k = max 0 (missI n bs p k) := by
  have hwe : withE n (lowB n bs p) (k : Int) [] = 0 := instE_withE (instE_low hi hok) (by rw [lowB_length]; exact hk)
  unfold leastI missI woW
  rw [if_pos hwe, Int.toNat_natCast]
theorem goodL_low (hwf : ∀ l ∈ bs, ∀ o ∈ l, o.wf) {p : List Int} (hok : payL p (bidsC n bs) = true) : GoodL (lowB n bs p) := fun l hl o ho => (lowB_wf hwf hok l hl o ho).1
theorem allOf_lt' (hi : instE n bs = 0) : allOf n < 4294967296 := by
  obtain ⟨h1, h2, _⟩ := instE_zero hi
  obtain ⟨m, rfl⟩ : ∃ m : Nat, n = (m : Int) := ⟨n.toNat, by omega⟩
  rw [allOf_nat (by omega)]
  have : 2 ^ m ≤ 2 ^ 10 := Nat.pow_le_pow_right (by omega) (by omega)
  omega

/-- lower one payment: what is missed without i, less what others pay, does not fall -/
theorem miss_set (hi : instE n bs = 0) (hwf : ∀ l ∈ bs, ∀ o ∈ l, o.wf) {p : List Int} (hok : payL p (bidsC n bs) = true) {j i : Nat} {x : Int} (hj : j < bs.length) (hib : i < bs.length) (h0 : 0 ≤ x) (hx : ∀ y, p[j]? = some y → x ≤ y) :
    missI n bs p i ≤ missI n bs (p.set j x) i := by
  obtain ⟨y, b, l, hy, hb, hl, hy0, hyb⟩ := payL_at hok hj
  have hxy := hx y hy
  have hs := sumI_set (x := x) hy
  have hjp := (List.getElem?_eq_some_iff.mp hy).1
  unfold missI
  rw [lowB_set hl hy hb hxy, hs]
  by_cases hji : j = i
  · subst hji
    rw [List.set_set, List.getElem?_set_self hjp, hy]
    simp only [Option.getD_some]
    omega
  · rw [List.set_comm _ _ hji, List.getElem?_set_ne hji]
    have hlow := lowB_get hl hy hb
    have hg : GoodL ((lowB n bs p).set i []) := fun l' hl' o ho => by
      rcases List.mem_or_eq_of_mem_set hl' with h | h
      · exact goodL_low hwf hok l' h o ho
      · subst h; cases ho
    have := W_low2 (d := y - x) (by omega) ((lowB n bs p).set i []) j (allOf n) (lowL (b - y) l) hg (allOf_lt' hi) (by rw [List.getElem?_set_ne (Ne.symm hji)]; exact hlow)
    omega

/-- nobody blocks -/
def FreeP (n : Int) (bs : List (List Off)) (p : List Int) : Prop := payL p (bidsC n bs) = true ∧ W (lowB n bs p) (allOf n) ≤ sumI p

theorem least_le (hi : instE n bs = 0) {p : List Int} (h : FreeP n bs p) {k : Nat} {y : Int} (hk : k < bs.length) (hy : p[k]? = some y) : 0 ≤ leastI n bs p k ∧ leastI n bs p k ≤ y := by
  obtain ⟨y', b, l, hy', _, _, h0, _⟩ := payL_at h.1 hk
  obtain rfl : y = y' := by rw [hy] at hy'; injection hy'
  rw [leastI_eq hi h.1 hk]
  have h1 := W_set_le (lowB n bs p) k (allOf n)
  have h2 := h.2
  unfold missI
  rw [hy]
  simp only [Option.getD_some]
  omega
theorem free_step (hi : instE n bs = 0) {p : List Int} (h : FreeP n bs p) {k : Nat} (hk : k < bs.length) : FreeP n bs (p.set k (leastI n bs p k)) := by
  obtain ⟨y, b, l, hy, hb, hl, h0, hyb⟩ := payL_at h.1 hk
  obtain ⟨h1, h2⟩ := least_le hi h hk hy
  refine ⟨payL_set h.1 hy h1 h2, ?_⟩
  rw [lowB_set hl hy hb h2, sumI_set hy]
  have hlow := lowB_get hl hy hb
  have h3 := W_low1 (d := y - leastI n bs p k) (lowB n bs p) k (allOf n) _ hlow
  have h4 := h.2
  have h5 : missI n bs p k ≤ leastI n bs p k := by rw [leastI_eq hi h.1 hk]; omega
  unfold missI at h5
  rw [hy] at h5
  simp only [Option.getD_some] at h5
  omega
theorem bids_ok (hi : instE n bs = 0) (hwf : ∀ l ∈ bs, ∀ o ∈ l, o.wf) : payL (bidsC n bs) (bidsC n bs) = true := by
  rw [payL_iff]
  refine ⟨rfl, fun i p b hp hb => ?_⟩
  rw [hp] at hb
  injection hb with hb
  have := coin_bd hi hwf hp
  omega
theorem low_bids (hi : instE n bs = 0) (hwf : ∀ l ∈ bs, ∀ o ∈ l, o.wf) : lowB n bs (bidsC n bs) = bs := by
  apply List.ext_getElem?
  intro i
  simp only [lowB, List.getElem?_mapIdx, Int.sub_self]
  cases h : bs[i]? with
  | none => rfl
  | some l =>
    simp only [Option.map_some]
    rw [lowL_zero l (fun o ho => by have := ((okb_of hwf hi).1.2 l (List.mem_of_getElem? h)).2 o ho; have := this.2.2.1; omega)]
theorem free_bids (hi : instE n bs = 0) (hwf : ∀ l ∈ bs, ∀ o ∈ l, o.wf) : FreeP n bs (bidsC n bs) :=
  ⟨bids_ok hi hwf, by rw [low_bids hi hwf, bidsC_sum]; exact Int.le_refl _⟩
theorem free_to (hi : instE n bs = 0) (hwf : ∀ l ∈ bs, ∀ o ∈ l, o.wf) : ∀ k, k ≤ bs.length → FreeP n bs (payTo n bs k)
  | 0, _ => free_bids hi hwf
  | k + 1, hk => by
    have ih := free_to hi hwf k (by omega)
    unfold payTo payStep
    split
    · exact free_step hi ih (by omega)
    · exact ih
theorem payTo_len (hi : instE n bs = 0) (hwf : ∀ l ∈ bs, ∀ o ∈ l, o.wf) {k : Nat} (hk : k ≤ bs.length) : (payTo n bs k).length = bs.length := pay_len (free_to hi hwf k hk).1

/-- q is nowhere more than p -/
def LeP (q p : List Int) : Prop := ∀ (i : Nat) (a b : Int), q[i]? = some a → p[i]? = some b → a ≤ b
theorem step_le (hi : instE n bs = 0) (hwf : ∀ l ∈ bs, ∀ o ∈ l, o.wf) {k : Nat} (hk : k < bs.length) : LeP (payTo n bs (k + 1)) (payTo n bs k) := by
  intro i a b ha hb
  have hf := free_to hi hwf k (by omega)
  unfold payTo payStep at ha
  split at ha
  · by_cases hik : k = i
    · subst hik
      rw [List.getElem?_set_self (List.getElem?_eq_some_iff.mp hb).1] at ha
      injection ha with ha
      have := (least_le hi hf hk hb).2
      omega
    · rw [List.getElem?_set_ne hik, hb] at ha
      injection ha with ha
      omega
  · rw [hb] at ha
    injection ha with ha
    omega
theorem miss_to (hi : instE n bs = 0) (hwf : ∀ l ∈ bs, ∀ o ∈ l, o.wf) {i : Nat} (hib : i < bs.length) : ∀ (d k : Nat), k + d ≤ bs.length → missI n bs (payTo n bs k) i ≤ missI n bs (payTo n bs (k + d)) i
  | 0, k, _ => Int.le_refl _
  | d + 1, k, h => by
    refine Int.le_trans (miss_to hi hwf hib d k (by omega)) ?_
    have hf := free_to hi hwf (k + d) (by omega)
    show _ ≤ missI n bs (payStep n bs (payTo n bs (k + d)) (k + d)) i
    unfold payStep
    split
    · obtain ⟨y, _, _, hy, _⟩ := payL_at hf.1 (show k + d < bs.length by omega)
      exact miss_set hi hwf hf.1 (by omega) hib (least_le hi hf (by omega) hy).1 (fun y hy => (least_le hi hf (by omega) hy).2)
    · exact Int.le_refl _
theorem later_same (hi : instE n bs = 0) (hwf : ∀ l ∈ bs, ∀ o ∈ l, o.wf) {i : Nat} : ∀ (d k : Nat), i < k → k + d ≤ bs.length → (payTo n bs (k + d))[i]? = (payTo n bs k)[i]?
  | 0, k, _, _ => rfl
  | d + 1, k, h1, h2 => by
    rw [← later_same hi hwf d k h1 (by omega)]
    show (payStep n bs (payTo n bs (k + d)) (k + d))[i]? = _
    unfold payStep
    split
    · rw [List.getElem?_set_ne (by omega)]
    · rfl
/-- in the end each winner pays the least -/
theorem tight_to (hi : instE n bs = 0) (hwf : ∀ l ∈ bs, ∀ o ∈ l, o.wf) {i : Nat} (hib : i < bs.length) (hw : winB (bestC n bs) i = true) : (payTo n bs bs.length)[i]? = some (leastI n bs (payTo n bs bs.length) i) := by
  have hf := free_to hi hwf bs.length (Nat.le_refl _)
  have hfi := free_to hi hwf i (by omega)
  obtain ⟨y, b, l, hy, hb, hl, h0, h1⟩ := payL_at hf.1 hib
  have h2 := (least_le hi hf hib hy).2
  have h3 := later_same hi hwf (i := i) (bs.length - (i + 1)) (i + 1) (by omega) (by omega)
  rw [show i + 1 + (bs.length - (i + 1)) = bs.length from by omega, hy] at h3
  have hli : i < (payTo n bs i).length := by rw [payTo_len hi hwf (by omega)]; exact hib
  have h4 : (payTo n bs (i + 1))[i]? = some (leastI n bs (payTo n bs i) i) := by
    show (payStep n bs (payTo n bs i) i)[i]? = _
    unfold payStep
    rw [if_pos hw, List.getElem?_set_self hli]
  rw [h4] at h3
  injection h3 with h3
  have h5 := miss_to hi hwf hib (bs.length - i) i (by omega)
  rw [show i + (bs.length - i) = bs.length from by omega] at h5
  rw [leastI_eq hi hfi.1 hib] at h3
  rw [leastI_eq hi hf.1 hib] at h2 ⊢
  rw [hy]
  congr 1
  omega
end
end Go.Proofs.Ytcigobiolbojhaa.Vb

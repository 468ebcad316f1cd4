/- Joined by program: StandsW. -/
import Derived.Test.YtcigobiolbojhaaZi
/- Law 18: CoreStands, walked. -/
namespace Go.Proofs.Ytcigobiolbojhaa.Vb
open Go.RowKit

set_option maxRecDepth 100000 in
set_option maxHeartbeats 6400000 in
theorem stands_walk (n : Int) (bs : List (List Off)) (v : Value) (R : Nat → Prop) (w : World) (hl : Buys w R v bs) :
    Calls Try.prog 9 #[.agg #[.int .i64 n, v]] w fun e w' => e = .returned (.bool true) ∧ Below w.heap.size w w' := by
  obtain ⟨_, ⟨_, A, cap, rfl, _⟩, _⟩ := id hl
  have HB := Lib.hid hl
  clear hl
  cases hg : largeB bs with
  | true =>
    have HG := Lib.hid hg
    clear hg
    go_enter Try.func9, Try.ntmps9
    go_wp2_with fail
    refine (large_any n bs _ R _ (HB.out.alloc _)).mono ?_
    rintro e w1 ⟨rfl, hb1⟩
    rw [HG.out]
    have HB1 := Lib.hid (((Below.refl _ _).alloc (Nat.le_refl _) _).trans (hb1.mono (B' := w.heap.size) (by simp)))
    clear hb1
    go_wp2_with fail
    refine (known_any _).mono ?_
    rintro e w2 ⟨rfl, hb2⟩
    have HB2 := Lib.hid (HB1.out.trans (hb2.mono HB1.out.size))
    clear hb2
    go_wp2_with fail
    go_ret
    exact ⟨rfl, HB2.out⟩
  | false =>
    have HG := Lib.hid hg
    clear hg
    by_cases hi : instE n bs = 0
    · have hl32 := (instE_zero hi).2.2.1
      have HI := Lib.hid hi
      have HWF := Lib.hid HB.out.wf
      obtain ⟨p, hpe⟩ : ∃ p, p = payTo n bs bs.length := ⟨_, rfl⟩
      have hpl : p.length = bs.length := by rw [hpe]; exact payTo_len hi HWF.out (Nat.le_refl _)
      have hpok : payL p (bidsC n bs) = true := by rw [hpe]; exact (free_to hi HWF.out _ (Nat.le_refl _)).1
      have hask : askE n bs p = 0 := by unfold askE; rw [if_pos hi, if_pos hpok]
      have hbk : blockB n bs p = false := by rw [hpe]; exact free_blocked hi (free_to hi HWF.out _ (Nat.le_refl _))
      have hbm : blockM n bs p = 0 := by unfold blockM; rw [hbk]; rfl
      have hti : tightB n bs p = true := by rw [hpe]; exact tight_pay hi HWF.out
      have hcl : (costsL n bs).length = bs.length := by simp [costsL]
      have hcok := costs_ok' hi HWF.out
      have hcask : askE n bs (costsL n bs) = 0 := by unfold askE; rw [if_pos hi, if_pos hcok]
      have hcf : blockB n bs (costsL n bs) = false → p = costsL n bs := fun h => by rw [hpe]; exact costs_free hi HWF.out h
      have hcp : LeP (costsL n bs) p := by rw [hpe]; exact cost_le_pay hi HWF.out
      have hwd := W_bd HWF.out hi
      have HPE := Lib.hid hpe
      have HPL := Lib.hid hpl
      have HPO := Lib.hid hpok
      have HASK := Lib.hid hask
      have HBK := Lib.hid hbk
      have HBM := Lib.hid hbm
      have HTI := Lib.hid hti
      have HCL := Lib.hid hcl
      have HCASK := Lib.hid hcask
      have HCF := Lib.hid hcf
      have HCP := Lib.hid hcp
      obtain ⟨W0, hW0⟩ : ∃ z, z = W bs (allOf n) := ⟨_, rfl⟩
      rw [← hW0] at hwd
      have HW0 := Lib.hid hW0
      clear hi hpe hpl hpok hask hbk hbm hti hcl hcok hcask hcf hcp hW0
      go_enter Try.func9, Try.ntmps9
      go_wp2_with fail
      refine (large_any n bs _ R _ (HB.out.alloc _)).mono ?_
      rintro e w1 ⟨rfl, hb1⟩
      rw [HG.out]
      have hX := (Blk.new w 24 #[.int .i64 n, .slice A bs.length cap]).grow hb1
      have x0 : w1.cell? ⟨w.heap.size, 0, none⟩ = some (.int .i64 n) := hX.cell 0
      have x1 : w1.cell? ⟨w.heap.size, 1, none⟩ = some (.slice A bs.length cap) := hX.cell 1
      have HX := Lib.hid hX
      have HB1 := Lib.hid (((Below.refl _ _).alloc (Nat.le_refl _) _).trans (hb1.mono (B' := w.heap.size) (by simp)))
      have hsw1 : w.heap.size + 1 ≤ w1.heap.size := by have := hb1.size; simp at this; omega
      clear hb1 hX
      go_wp2_with fail
      refine (corePay_ok n bs _ R w1 (HB.out.grow HB1.out) HI.out).mono ?_
      rintro e w2 ⟨A2, k2, rfl, hown, hb2⟩
      rw [← HPE.out] at hown
      have hX := HX.out.grow hb2
      have x0' : w2.cell? ⟨w.heap.size, 0, none⟩ = some (.int .i64 n) := hX.cell 0
      have x1' : w2.cell? ⟨w.heap.size, 1, none⟩ = some (.slice A bs.length cap) := hX.cell 1
      have HX2 := Lib.hid hX
      have HOW2 := Lib.hid hown
      have HB2 := Lib.hid (HB1.out.trans (hb2.mono HB1.out.size))
      have hs12 := hb2.size
      clear hb2 hown x0 x1 hX
      go_wp2_with fail
      refine (best_ok n bs _ R w2 (HB.out.grow HB2.out) HI.out).mono ?_
      rintro e w3 ⟨A3, k3, rfl, hown3, hb3⟩
      rw [← HW0.out]
      obtain ⟨w4, hw4⟩ : ∃ V, V = w3.alloc (.cells #[.slice A3 bs.length k3, .int .i64 W0] 66) := ⟨_, rfl⟩
      have hal := (Below.refl w3.heap.size w3).alloc (Nat.le_refl _) (.cells #[.slice A3 bs.length k3, .int .i64 W0] 66)
      have hC4 := Blk.new w3 66 #[.slice A3 bs.length k3, .int .i64 W0]
      have hs4 : w4.heap.size = w3.heap.size + 1 := by rw [hw4]; simp
      rw [← hw4] at hal hC4
      have hs23 := hb3.size
      have HX4 := Lib.hid ((HX2.out.grow hb3).grow hal)
      have HC4 := Lib.hid hC4
      have HOC4 := Lib.hid (own_grow hown3 hal)
      have HOP4 := Lib.hid (own_grow (own_grow HOW2.out hb3) hal)
      have HB4 := Lib.hid ((HB2.out.trans (hb3.mono HB2.out.size)).trans (hal.mono (by omega)))
      have x1 : (w3.alloc (.cells #[.slice A3 bs.length k3, .int .i64 W0] 66)).cell? ⟨w.heap.size, 1, none⟩ = some (.slice A bs.length cap) := by rw [← hw4]; exact HX4.out.cell 1
      clear hb3 hal hC4 hown3 x0' x1'
      go_wp2_with fail
      rw [← hw4]
      clear x1 hw4
      go_loopw [7, 8] (fun cs i wr => ∃ (k : Nat) (A' : Option Addr) (c' : Nat), k ≤ bs.length ∧ i = .int .i64 k ∧ cs = .slice A' k c' ∧ wr.ownsRow w4.heap.size 2 1 (.slice A' k c') k (ints ((costsL n bs).take k)) ∧ Below w4.heap.size w4 wr) (fun _ i _ => bs.length - (intOf i).toNat)
      case atStart => exact ⟨0, none, 0, Nat.zero_le _, rfl, rfl, World.ownsRow_nil _ _ _ _, Below.refl _ _⟩
      case round =>
        obtain ⟨k, A', c', hk, rfl, rfl, hown, hb⟩ := hrel
        have hbw : Below w.heap.size w wr := HB4.out.trans (hb.mono (by omega))
        have hX := HX4.out.grow hb
        have hC := HC4.out.grow hb
        have x0 : wr.cell? ⟨w.heap.size, 0, none⟩ = some (.int .i64 n) := hX.cell 0
        have x1 : wr.cell? ⟨w.heap.size, 1, none⟩ = some (.slice A bs.length cap) := hX.cell 1
        have d0 : wr.cell? ⟨w3.heap.size, 0, none⟩ = some (.slice A3 bs.length k3) := hC.cell 0
        have HOW := Lib.hid hown
        have HBB := Lib.hid hb
        have HBW := Lib.hid hbw
        have hsz := hb.size
        by_cases hlt : k < bs.length
        · obtain ⟨cn, hcn⟩ : ∃ c, (bestC n bs)[k]? = some c := ⟨_, List.getElem?_eq_getElem (by rw [bestC, choose_length]; exact hlt)⟩
          have hbg := bidsC_get hcn
          obtain ⟨gC, offC, c2, hAC, hgC, hc2, cc⟩ := (Sl.of_own (own_grow HOC4.out hb)).int_at hlt
          obtain rfl : cn = c2 := by rw [hcn] at hc2; injection hc2
          subst hAC
          obtain ⟨gP, offP, x1p, hAP, hgP, hx1p, cp⟩ := (Sl.of_own (own_grow HOP4.out hb)).int_at hlt
          subst hAP
          obtain ⟨bid, hbid⟩ : ∃ b, b = coinAt bs k cn := ⟨_, rfl⟩
          rw [← hbid] at hbg
          have hbd := coin_bd HI.out HWF.out hbg
          have hcost := cost_eq HI.out HWF.out hbg
          have hcg := costs_get (n := n) hlt
          have hcb := cost_bd HI.out HWF.out hbg
          obtain ⟨cost, hco⟩ : ∃ z, z = missI n bs (bidsC n bs) k := ⟨_, rfl⟩
          rw [← hco] at hcost hcg hcb
          rw [← HW0.out] at hcost
          have hle := HCP.out k cost x1p hcg hx1p
          have hpb : x1p ≤ bid := (((payL_iff _ _).1 HPO.out).2 k x1p bid hx1p hbg).2
          have hpb0 : 0 ≤ x1p := (((payL_iff _ _).1 HPO.out).2 k x1p bid hx1p hbg).1
          have hwe := instE_withE HI.out hlt
          have hWk := W_set_le bs k (allOf n)
          have hWk0 := W_nonneg (bs.set k []) (allOf n)
          rw [← HW0.out] at hWk
          obtain ⟨Wk, hWk'⟩ : ∃ z, z = W (bs.set k []) (allOf n) := ⟨_, rfl⟩
          rw [← hWk'] at hcost hWk hWk0
          have HCOST := Lib.hid hcost
          have HWK := Lib.hid hWk'
          have HWE := Lib.hid hwe
          have HCG := Lib.hid hcg
          have e1 : (0 : Int) ≤ (k : Int) := by omega
          have e2 : (k : Int) < (bs.length : Int) := by omega
          have hsub1 : IntKind.i64.wrap (W0 - bid) = W0 - bid := IntWalk.i64_in _ (by omega)
          have hsub2 : IntKind.i64.wrap (Wk - (W0 - bid)) = cost := by rw [← hcost]; exact IntWalk.i64_in _ (by omega)
          have hl1 : ¬ x1p < cost := by omega
          have hl2 : ¬ bid < x1p := by omega
          have HCP1 := Lib.hid cp
          have HBID := Lib.hid hbid
          have htk : (costsL n bs).take (k + 1) = (costsL n bs).take k ++ [cost] := by rw [List.take_add_one, HCG.out]; rfl
          have HTK := Lib.hid htk
          clear hc2 hx1p hbg hcost hcg hwe hWk' hco hown hb hbw hX hC htk hbid
          have hcase := choose_get bs (allOf n) k cn hcn
          clear hcn
          rcases hcase with rfl | ⟨j, l, o, rfl, hl, ho⟩
          · obtain rfl : bid = 0 := by rw [HBID.out]; rfl
            obtain rfl : cost = Wk - W0 := by have := HCOST.out; omega
            clear hsub1 hsub2
            go_wp2_with fail
            refine (clearWithout_ok n bs (k : Int) _ R _ (HB.out.grow HBW.out) HWE.out).mono ?_
            rintro e w5 ⟨A5, k5, rfl, _, hb5⟩
            rw [Int.toNat_natCast, ← HWK.out]
            have hal5 := hb5.alloc hb5.size (.cells #[.slice A5 bs.length k5, .int .i64 Wk] 66)
            have g1 : (w5.alloc (.cells #[.slice A5 bs.length k5, .int .i64 Wk] 66)).cell? ⟨w3.heap.size, 1, none⟩ = some (.int .i64 W0) := ((HC4.out.grow HBB.out).grow hal5).cell 1
            have g2 : (w5.alloc (.cells #[.slice A5 bs.length k5, .int .i64 Wk] 66)).cell? ⟨gP, offP + k, none⟩ = some (.int .i64 x1p) := (hal5.cell (p := ⟨gP, offP + k, none⟩) hgP).trans HCP1.out
            have HAL5 := Lib.hid hal5
            have HOT := Lib.hid (own_grow HOW.out hal5)
            have hs5 := hb5.size
            clear hb5 hal5 x0 x1 d0 cc
            go_wp2_with (at_builtin; refine wpList_app _ rfl (.tmp 125) (.tmp 127) et_i64 rfl w4.heap.size (.slice A' k c') k (ints ((costsL n bs).take k)) rfl (HOT.out.alloc _) (fun _ => True) (.slice (some ⟨w5.heap.size + 1, 0, none⟩) 1 1) 1 [.int .i64 (Wk - W0)] rfl (Sl.blk (sz := 1) (cs := #[.int .i64 (Wk - W0)]) (t := 2) (Blk.new' _ _ (by simp)) (by omega) (by unfold maxLen; omega) rfl) (by simp [Value.oneCell']) (by omega) (by unfold maxLen; omega) (by simp; omega) ?_; intro A6 c6 w6 hown6 hg6 _; have HG6 := Lib.hid hg6; have HO6 := Lib.hid hown6; clear hg6 hown6)
            go_roundw
            case rel =>
              refine ⟨k + 1, A6, c6, by omega, by go_num, rfl, ?_, ?_⟩
              · rw [HTK.out]
                simpa [ints] using HO6.out
              · exact ((HBB.out.trans (HAL5.out.mono hsz)).alloc (by simp; omega) _).grown HG6.out (by simp; omega) (fun g e => (HOT.out.lt g e).1)
            case measure => simp [intOf]; omega
          · have hbj : bid = o.c := by rw [HBID.out]; unfold coinAt; rw [if_neg (by omega)]; simp [hl, ho]
            obtain ⟨vs', ⟨_, A', cap', hv, _, _, hcs⟩, hvs⟩ := HB.out
            injection hv with hv1 _ hv2
            subst hv1 hv2
            obtain ⟨bq, off, rfl, _, hbq, hcell⟩ := hcs (by omega)
            obtain ⟨u, hu, hoff⟩ := hvs k l hl
            have hjl := (List.getElem?_eq_some_iff.mp ho).1
            obtain ⟨⟨_, A1, cap1, rfl, _⟩, _⟩ := id hoff
            obtain ⟨b2, off2, rfl, hb2, _, o1⟩ := hoff.at_ ho
            have q0 := (HBW.out.cell (p := ⟨bq, off + k, none⟩) hbq).trans (hcell _ _ hu)
            have q1 := (HBW.out.cell (p := ⟨b2, off2 + j * 2 + 1, none⟩) hb2).trans o1
            rw [← hbj] at q1
            have e4 : (0 : Int) ≤ (j : Int) := by omega
            have e5 : (j : Int) < (l.length : Int) := by omega
            clear hl ho hu hoff o1 hcell hvs hcs hbj
            go_wp2_with fail
            refine (clearWithout_ok n bs (k : Int) _ R _ (HB.out.grow HBW.out) HWE.out).mono ?_
            rintro e w5 ⟨A5, k5, rfl, _, hb5⟩
            rw [Int.toNat_natCast, ← HWK.out]
            have hal5 := hb5.alloc hb5.size (.cells #[.slice A5 bs.length k5, .int .i64 Wk] 66)
            have g1 : (w5.alloc (.cells #[.slice A5 bs.length k5, .int .i64 Wk] 66)).cell? ⟨w3.heap.size, 1, none⟩ = some (.int .i64 W0) := ((HC4.out.grow HBB.out).grow hal5).cell 1
            have g2 : (w5.alloc (.cells #[.slice A5 bs.length k5, .int .i64 Wk] 66)).cell? ⟨gP, offP + k, none⟩ = some (.int .i64 x1p) := (hal5.cell (p := ⟨gP, offP + k, none⟩) hgP).trans HCP1.out
            have HAL5 := Lib.hid hal5
            have HOT := Lib.hid (own_grow HOW.out hal5)
            have hs5 := hb5.size
            clear hb5 hal5 x0 x1 d0 cc q0 q1
            go_wp2_with (at_builtin; refine wpList_app _ rfl (.tmp 125) (.tmp 127) et_i64 rfl w4.heap.size (.slice A' k c') k (ints ((costsL n bs).take k)) rfl (HOT.out.alloc _) (fun _ => True) (.slice (some ⟨w5.heap.size + 1, 0, none⟩) 1 1) 1 [.int .i64 cost] rfl (Sl.blk (sz := 1) (cs := #[.int .i64 cost]) (t := 2) (Blk.new' _ _ (by simp)) (by omega) (by unfold maxLen; omega) rfl) (by simp [Value.oneCell']) (by omega) (by unfold maxLen; omega) (by simp; omega) ?_; intro A6 c6 w6 hown6 hg6 _; have HG6 := Lib.hid hg6; have HO6 := Lib.hid hown6; clear hg6 hown6)
            go_roundw
            case rel =>
              refine ⟨k + 1, A6, c6, by omega, by go_num, rfl, ?_, ?_⟩
              · rw [HTK.out]
                simpa [ints] using HO6.out
              · exact ((HBB.out.trans (HAL5.out.mono hsz)).alloc (by simp; omega) _).grown HG6.out (by simp; omega) (fun g e => (HOT.out.lt g e).1)
            case measure => simp [intOf]; omega
        · obtain rfl : k = bs.length := by omega
          have htk : (costsL n bs).take bs.length = costsL n bs := by rw [← HCL.out, List.take_length]
          rw [htk] at hown
          have HCS := Lib.hid hown
          have HPS := Lib.hid (own_grow HOP4.out hb)
          have HXQ := Lib.hid hX
          clear HOW hown hb hbw hX hC d0 htk HBB
          obtain ⟨wq, rfl⟩ : ∃ V, V = wr := ⟨_, rfl⟩
          have hslp : Sl wq (fun _ => True) (.slice A2 bs.length k2) p.length 1 (ints p) := by rw [HPL.out]; exact (Sl.of_own HPS.out).any
          have hslc : Sl wq (fun _ => True) (.slice A' bs.length c') (costsL n bs).length 1 (ints (costsL n bs)) := by rw [HCL.out]; exact (Sl.of_own HCS.out).any
          have HSLP := Lib.hid hslp
          have HSLC := Lib.hid hslc
          clear hslp hslc
          go_wp2_with fail
          refine (coreBlocks_ok n bs _ R _ p (.slice A2 bs.length k2) _ (HB.out.grow HBW.out) HSLP.out HASK.out).mono ?_
          rintro e w5 ⟨A5, k5, rfl, _, hb5⟩
          rw [HASK.out, HBK.out, HBM.out]
          have hal5 := hb5.alloc hb5.size (.cells #[.slice A5 (blockL n bs p).length k5, .int .i64 0] 85)
          have hQ5 := Blk.new w5 85 #[.slice A5 (blockL n bs p).length k5, .int .i64 0]
          have hX5 := HXQ.out.grow hal5
          have y0 : (w5.alloc (.cells #[.slice A5 (blockL n bs p).length k5, .int .i64 0] 85)).cell? ⟨w.heap.size, 0, none⟩ = some (.int .i64 n) := hX5.cell 0
          have y1 : (w5.alloc (.cells #[.slice A5 (blockL n bs p).length k5, .int .i64 0] 85)).cell? ⟨w.heap.size, 1, none⟩ = some (.slice A bs.length cap) := hX5.cell 1
          have HX5 := Lib.hid hX5
          have HQ5 := Lib.hid hQ5
          have HAL5 := Lib.hid hal5
          have HB5 := Lib.hid (HBW.out.trans (hal5.mono HBW.out.size))
          clear hb5 hal5 hQ5 hX5 x0 x1
          go_wp2_with fail
          refine (coreTight_any n bs _ R _ p (.slice A2 bs.length k2) _ (HB.out.grow HB5.out) (HSLP.out.grow HAL5.out)).mono ?_
          rintro e w6 ⟨rfl, hb6⟩
          rw [HASK.out, HTI.out]
          have hX6 := HX5.out.grow hb6
          have z0 : w6.cell? ⟨w.heap.size, 0, none⟩ = some (.int .i64 n) := hX6.cell 0
          have z1 : w6.cell? ⟨w.heap.size, 1, none⟩ = some (.slice A bs.length cap) := hX6.cell 1
          have q1 : w6.cell? ⟨w5.heap.size, 1, none⟩ = some (.int .i64 0) := (HQ5.out.grow hb6).cell 1
          have HX6 := Lib.hid hX6
          have HG6 := Lib.hid (HAL5.out.trans (hb6.mono HAL5.out.size))
          have HB6 := Lib.hid (HB5.out.trans (hb6.mono HB5.out.size))
          clear hb6 hX6 y0 y1
          go_wp2_with fail
          refine (coreBlocks_ok n bs _ R _ (costsL n bs) (.slice A' bs.length c') _ (HB.out.grow HB6.out) (HSLC.out.grow HG6.out) HCASK.out).mono ?_
          rintro e w7 ⟨A7, k7, rfl, _, hb7⟩
          rw [HCASK.out]
          obtain ⟨w8, hw8⟩ : ∃ V, V = w7.alloc (.cells #[.slice A7 (blockL n bs (costsL n bs)).length k7, .int .i64 (blockM n bs (costsL n bs))] 85) := ⟨_, rfl⟩
          have hal7 : Below w6.heap.size w6 w8 := by rw [hw8]; exact hb7.alloc hb7.size _
          have HX8 := Lib.hid (HX6.out.grow hal7)
          have HG8 := Lib.hid (HG6.out.trans (hal7.mono HG6.out.size))
          have HB8 := Lib.hid (HB6.out.trans (hal7.mono HB6.out.size))
          clear hb7 hal7 z0 z1 q1
          go_wp2_with fail
          rw [← hw8]
          clear hw8
          obtain ⟨bb, hbb⟩ : ∃ b, b = blockB n bs (costsL n bs) := ⟨_, rfl⟩
          have HBBC := Lib.hid hbb
          rw [← hbb]
          clear hbb
          go_loopw [22] (fun i wr => ∃ k : Nat, k ≤ bs.length ∧ i = .int .i64 k ∧ Below w8.heap.size w8 wr) (fun i _ => bs.length - (intOf i).toNat)
          case atStart => exact ⟨0, Nat.zero_le _, rfl, Below.refl _ _⟩
          case round =>
            obtain ⟨k, hk2, rfl, hb9⟩ := hrel
            have hX9 := HX8.out.grow hb9
            have x0 : wr.cell? ⟨w.heap.size, 0, none⟩ = some (.int .i64 n) := hX9.cell 0
            have x1 : wr.cell? ⟨w.heap.size, 1, none⟩ = some (.slice A bs.length cap) := hX9.cell 1
            have HB9 := Lib.hid (HB8.out.trans (hb9.mono HB8.out.size))
            have HG9 := Lib.hid (HG8.out.trans (hb9.mono HG8.out.size))
            have HBK9 := Lib.hid hb9
            clear hb9 hX9
            by_cases hgo : k < bs.length ∧ bb = false
            · obtain ⟨hlt, rfl⟩ := hgo
              have hpc := HCF.out HBBC.out.symm
              obtain ⟨gP, oP, x1p, hAP, hgP, hx1p, cp⟩ := (Sl.of_own (own_grow HPS.out HG9.out)).int_at hlt
              subst hAP
              obtain ⟨gC, oC, x2p, hAC, hgC, hx2p, cc⟩ := (Sl.of_own (own_grow HCS.out HG9.out)).int_at hlt
              subst hAC
              obtain rfl : x1p = x2p := by rw [hpc, hx2p] at hx1p; injection hx1p with h; exact h.symm
              have e1 : (0 : Int) ≤ (k : Int) := by omega
              have e2 : (k : Int) < (bs.length : Int) := by omega
              clear hpc hx1p hx2p
              go_wp2_with fail
              go_quiet (fail)
              go_wp2_with fail
              go_roundw
              case rel => exact ⟨k + 1, by omega, by go_num, below_drewN HBK9.out _⟩
              case measure => simp [intOf]; omega
            · have hexit : ¬ k < bs.length ∨ (k < bs.length ∧ bb = true) := by
                by_cases h1 : k < bs.length
                · right; refine ⟨h1, ?_⟩
                  cases bb
                  · exact absurd ⟨h1, rfl⟩ hgo
                  · rfl
                · exact .inl h1
              clear hgo
              rcases hexit with h1 | ⟨h1, rfl⟩
              all_goals
                go_wp2_with fail
                refine (steps_walk n bs _ (.slice A2 bs.length k2) R (fun _ => True) _ (HB.out.grow HB9.out) HI.out (by rw [← HPE.out]; exact HSLP.out.grow HG9.out)).mono ?_
                rintro e w10 ⟨rfl, hb10⟩
                have HB10 := Lib.hid (HB9.out.trans (hb10.mono HB9.out.size))
                clear hb10 x0 x1
                go_wp2_with fail
                refine (known_any _).mono ?_
                rintro e w11 ⟨rfl, hb11⟩
                have HB11 := Lib.hid (HB10.out.trans (hb11.mono HB10.out.size))
                clear hb11
                go_wp2_with fail
                go_ret
                exact ⟨rfl, HB11.out⟩
    · have HI := Lib.hid hi
      have hne : (instE n bs != 0) = true := by simpa using hi
      clear hi
      go_enter Try.func9, Try.ntmps9
      go_wp2_with fail
      refine (large_any n bs _ R _ (HB.out.alloc _)).mono ?_
      rintro e w1 ⟨rfl, hb1⟩
      rw [HG.out]
      have hX := (Blk.new w 24 #[.int .i64 n, .slice A bs.length cap]).grow hb1
      have x0 : w1.cell? ⟨w.heap.size, 0, none⟩ = some (.int .i64 n) := hX.cell 0
      have x1 : w1.cell? ⟨w.heap.size, 1, none⟩ = some (.slice A bs.length cap) := hX.cell 1
      have HB1 := Lib.hid (((Below.refl _ _).alloc (Nat.le_refl _) _).trans (hb1.mono (B' := w.heap.size) (by simp)))
      clear hb1 hX
      go_wp2_with fail
      refine (corePay_err n bs _ R w1 (HB.out.grow HB1.out) HI.out).mono ?_
      rintro e w2 ⟨rfl, hb2⟩
      have HB2 := Lib.hid (HB1.out.trans (hb2.mono HB1.out.size))
      clear hb2 x0 x1
      go_wp2_with fail
      refine (known_any _).mono ?_
      rintro e w5 ⟨rfl, hb5⟩
      have HB5 := Lib.hid (HB2.out.trans (hb5.mono HB2.out.size))
      clear hb5
      go_wp2_with fail
      go_ret
      exact ⟨rfl, HB5.out⟩
end Go.Proofs.Ytcigobiolbojhaa.Vb

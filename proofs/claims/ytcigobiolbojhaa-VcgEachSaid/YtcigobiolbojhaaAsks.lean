/- Law 17: VcgAsks, walked. -/
import Derived.Test.YtcigobiolbojhaaAll17
import Derived.Test.YtcigobiolbojhaaWorks2
namespace Go.Proofs.Ytcigobiolbojhaa.Vb
open Go.RowKit

theorem Sl.any {w : World} {R : Nat → Prop} {v : Value} {n sz : Nat} {xs : List Value} (h : Sl w R v n sz xs) : Sl w (fun _ => True) v n sz xs := h.mono fun _ _ _ => trivial
theorem Sl.int_at {w : World} {R : Nat → Prop} {A : Option Addr} {n c k : Nat} {l : List Int} (h : Sl w R (.slice A n c) n 1 (ints l)) (hk : k < n) :
    ∃ b off x, A = some ⟨b, off, none⟩ ∧ b < w.heap.size ∧ l[k]? = some x ∧ w.cell? ⟨b, off + k, none⟩ = some (.int .i64 x) := by
  obtain ⟨hl, A', c', hv, _, _, hc⟩ := h
  injection hv with hA _ _
  subst hA
  obtain ⟨b, off, hA, _, hlt, hcs⟩ := hc (by omega)
  have hl' : k < l.length := by simp [ints] at hl; omega
  exact ⟨b, off, l[k], hA, hlt, List.getElem?_eq_getElem hl', hcs k _ (by simp [ints, hl'])⟩
theorem ints_at {l : List Int} {k : Nat} {c : Int} (h : l[k]? = some c) : (ints l)[k]? = some (.int .i64 c) := by simp [ints, h]

set_option maxRecDepth 100000 in
set_option maxHeartbeats 3200000 in
theorem asks_walk (n : Int) (bs : List (List Off)) (v : Value) (R : Nat → Prop) (buyer : Int) (w : World) (hl : Buys w R v bs) :
    Calls Try.prog 5 #[.agg #[.int .i64 n, v], .int .i64 buyer] w fun e w' => e = .returned (.bool true) ∧ Below w.heap.size w w' := by
  obtain ⟨_, ⟨_, A, cap, rfl, _⟩, _⟩ := id hl
  have HB := Lib.hid hl
  clear hl
  cases hg : greatB bs with
  | true =>
    have HG := Lib.hid hg
    clear hg
    go_enter Try.func5, Try.ntmps5
    go_wp2_with fail
    refine (great_any n bs _ R _ (HB.out.alloc _)).mono ?_
    rintro e w1 ⟨rfl, hb1⟩
    rw [HG.out]
    have HB1 := Lib.hid (((Below.refl _ _).alloc (Nat.le_refl _) _).trans (hb1.mono (B' := w.heap.size) (by simp)))
    clear hb1
    go_wp2_with fail
    refine (works_any _).mono ?_
    rintro e w2 ⟨rfl, hb2⟩
    have HB2 := Lib.hid (HB1.out.trans (hb2.mono HB1.out.size))
    clear hb2
    go_wp2_with fail
    go_ret
    exact ⟨rfl, HB2.out⟩
  | false =>
    obtain ⟨hs1, hs2⟩ := greatB_small hg
    have HSM := Lib.hid (show Small bs from ⟨by omega, fun l hl => by have := hs2 l hl; omega⟩)
    have HG := Lib.hid hg
    obtain ⟨hi0, hi1⟩ := instE_bd n bs
    obtain ⟨hw0, hw1⟩ := withE_bd n bs buyer []
    obtain ⟨ie, hie⟩ : ∃ ie, ie = instE n bs := ⟨_, rfl⟩
    obtain ⟨we, hwe⟩ : ∃ we, we = withE n bs buyer [] := ⟨_, rfl⟩
    rw [← hie] at hi0 hi1
    rw [← hwe] at hw0 hw1
    have HIE := Lib.hid hie
    have HWE := Lib.hid hwe
    have hgl : (gainsL n bs).length ≤ 40 := by
      unfold gainsL
      split
      · rw [gainsC_len]; omega
      · simp
    have hpl : (pivotL n bs).length ≤ 40 := by
      unfold pivotL pivotC pivotTo
      split
      · refine Nat.le_trans (m := bs.length) ?_ hs1
        rw [List.length_map]
        refine Nat.le_trans (List.length_filter_le _ _) (by simp)
      · simp
    obtain ⟨gl, hgle⟩ : ∃ gl, gl = gainsL n bs := ⟨_, rfl⟩
    obtain ⟨pl, hple⟩ : ∃ pl, pl = pivotL n bs := ⟨_, rfl⟩
    rw [← hgle] at hgl
    rw [← hple] at hpl
    have HGL := Lib.hid hgle
    have HPL := Lib.hid hple
    clear hg hie hwe hgle hple hs2
    go_enter Try.func5, Try.ntmps5
    go_wp2_with fail
    refine (great_any n bs _ R _ (HB.out.alloc _)).mono ?_
    rintro e w1 ⟨rfl, hb1⟩
    rw [HG.out]
    have hX := (Blk.new w 24 #[.int .i64 n, .slice A bs.length cap]).grow hb1
    have x0 : w1.cell? ⟨w.heap.size, 0, none⟩ = some (.int .i64 n) := hX.cell 0
    have x1 : w1.cell? ⟨w.heap.size, 1, none⟩ = some (.slice A bs.length cap) := hX.cell 1
    have HX := Lib.hid hX
    have HB1 := Lib.hid (((Below.refl _ _).alloc (Nat.le_refl _) _).trans (hb1.mono (B' := w.heap.size) (by simp)))
    clear hb1 hX
    go_wp2_with fail
    refine (given_any n bs _ R w1 (HB.out.grow HB1.out) HSM.out).mono ?_
    rintro e w2 ⟨A2, k2, rfl, hgv, hb2⟩
    have HX2 := Lib.hid (HX.out.grow hb2)
    have HV2 := Lib.hid hgv
    have HB2 := Lib.hid (HB1.out.trans (hb2.mono HB1.out.size))
    clear hb2 hgv x0 x1
    go_wp2_with fail
    refine (vcgWithout_any n bs buyer _ (fun _ => True) _ (HV2.out.buys.alloc _)).mono ?_
    rintro e w3 ⟨rfl, hb3⟩
    rw [← HWE.out]
    have hX := (HX2.out.alloc _).grow hb3
    have hY := (Blk.new w2 24 #[.int .i64 n, .slice A2 bs.length k2]).grow hb3
    have x0 : w3.cell? ⟨w.heap.size, 0, none⟩ = some (.int .i64 n) := hX.cell 0
    have x1 : w3.cell? ⟨w.heap.size, 1, none⟩ = some (.slice A bs.length cap) := hX.cell 1
    have HX3 := Lib.hid hX
    have HY3 := Lib.hid hY
    have HV3 := Lib.hid ((HV2.out.grow ((Below.refl _ _).alloc (Nat.le_refl _) _)).grow hb3)
    have HB3 := Lib.hid ((HB2.out.alloc HB2.out.size _).trans (hb3.mono (B' := w.heap.size) (by have := HB2.out.size; simp; omega)))
    clear hX hY hb3
    go_wp2_with fail
    refine (refWithout_any n bs buyer _ R _ (HB.out.grow HB3.out)).mono ?_
    rintro e w4 ⟨rfl, hb4⟩
    rw [← HWE.out]
    have hX := HX3.out.grow hb4
    have hY := HY3.out.grow hb4
    have y0 : w4.cell? ⟨w2.heap.size, 0, none⟩ = some (.int .i64 n) := hY.cell 0
    have y1 : w4.cell? ⟨w2.heap.size, 1, none⟩ = some (.slice A2 bs.length k2) := hY.cell 1
    have HX4 := Lib.hid hX
    have HY4 := Lib.hid hY
    have HV4 := Lib.hid (HV3.out.grow hb4)
    have HB4 := Lib.hid (HB3.out.trans (hb4.mono HB3.out.size))
    clear hX hY hb4 x0 x1
    go_wp2_with fail
    refine (gains_all n bs _ (fun _ => True) _ HV4.out.buys).mono ?_
    rintro e w5 ⟨AG, kG, rfl, hownG, hb5⟩
    rw [← HIE.out]
    rw [← HGL.out] at hownG ⊢
    have hX := HX4.out.grow hb5
    have x0 : w5.cell? ⟨w.heap.size, 0, none⟩ = some (.int .i64 n) := hX.cell 0
    have x1 : w5.cell? ⟨w.heap.size, 1, none⟩ = some (.slice A bs.length cap) := hX.cell 1
    have HX5 := Lib.hid hX
    have HY5 := Lib.hid (HY4.out.grow hb5)
    have HV5 := Lib.hid (HV4.out.grow hb5)
    have HC5 := Lib.hid (Sl.of_own hownG).any
    have HB5 := Lib.hid (HB4.out.trans (hb5.mono HB4.out.size))
    clear hX hb5 y0 y1 hownG
    go_wp2_with fail
    refine (refGains_all n bs _ R _ (HB.out.grow HB5.out)).mono ?_
    rintro e w6 ⟨AH, kH, rfl, hownH, hb6⟩
    rw [← HIE.out]
    rw [← HGL.out] at hownH ⊢
    have hY := HY5.out.grow hb6
    have y0 : w6.cell? ⟨w2.heap.size, 0, none⟩ = some (.int .i64 n) := hY.cell 0
    have y1 : w6.cell? ⟨w2.heap.size, 1, none⟩ = some (.slice A2 bs.length k2) := hY.cell 1
    have HX6 := Lib.hid (HX5.out.grow hb6)
    have HY6 := Lib.hid hY
    have HV6 := Lib.hid (HV5.out.grow hb6)
    have HC6 := Lib.hid (HC5.out.grow hb6)
    have HD6 := Lib.hid (Sl.of_own hownH).any
    have HB6 := Lib.hid (HB5.out.trans (hb6.mono HB5.out.size))
    clear hY hb6 x0 x1 hownH
    go_wp2_with fail
    refine (pivotal_all n bs _ (fun _ => True) _ HV6.out.buys).mono ?_
    rintro e w7 ⟨AL, kL, rfl, hownL, hb7⟩
    rw [← HIE.out]
    rw [← HPL.out] at hownL ⊢
    have hX := HX6.out.grow hb7
    have x0 : w7.cell? ⟨w.heap.size, 0, none⟩ = some (.int .i64 n) := hX.cell 0
    have x1 : w7.cell? ⟨w.heap.size, 1, none⟩ = some (.slice A bs.length cap) := hX.cell 1
    have HX7 := Lib.hid hX
    have HY7 := Lib.hid (HY6.out.grow hb7)
    have HV7 := Lib.hid (HV6.out.grow hb7)
    have HC7 := Lib.hid (HC6.out.grow hb7)
    have HD7 := Lib.hid (HD6.out.grow hb7)
    have HL7 := Lib.hid (Sl.of_own hownL).any
    have HB7 := Lib.hid (HB6.out.trans (hb7.mono HB6.out.size))
    clear hX hb7 y0 y1 hownL
    go_wp2_with fail
    refine (refPivotal_all n bs _ R _ (HB.out.grow HB7.out)).mono ?_
    rintro e w8 ⟨AM, kM, rfl, hownM, hb8⟩
    rw [← HIE.out]
    rw [← HPL.out] at hownM ⊢
    have hX := HX7.out.grow hb8
    have hY := HY7.out.grow hb8
    have x0 : w8.cell? ⟨w.heap.size, 0, none⟩ = some (.int .i64 n) := hX.cell 0
    have x1 : w8.cell? ⟨w.heap.size, 1, none⟩ = some (.slice A bs.length cap) := hX.cell 1
    have y0 : w8.cell? ⟨w2.heap.size, 0, none⟩ = some (.int .i64 n) := hY.cell 0
    have y1 : w8.cell? ⟨w2.heap.size, 1, none⟩ = some (.slice A2 bs.length k2) := hY.cell 1
    have HV8 := Lib.hid (HV7.out.grow hb8)
    have HC8 := Lib.hid (HC7.out.grow hb8)
    have HD8 := Lib.hid (HD7.out.grow hb8)
    have HL8 := Lib.hid (HL7.out.grow hb8)
    have HM8 := Lib.hid (Sl.of_own hownM).any
    have HB8 := Lib.hid (HB7.out.trans (hb8.mono HB7.out.size))
    clear hX hY hb8 hownM
    go_wp2_with (first
      | (go_at_call 18; refine (num_any _ (by omega) (by omega) _).mono ?_; rintro e w9 ⟨rfl, rfl⟩)
      | (go_at_call 19; refine (stays_any n bs _ _ _ R _ HV8.out (HB.out.grow HB8.out) HSM.out).mono ?_; rintro e w9 ⟨rfl, hb9⟩; have HC9 := Lib.hid (HC8.out.grow hb9); have HD9 := Lib.hid (HD8.out.grow hb9); have HL9 := Lib.hid (HL8.out.grow hb9); have HM9 := Lib.hid (HM8.out.grow hb9); have HB9 := Lib.hid (HB8.out.trans (hb9.mono HB8.out.size)); clear hb9 x0 x1 y0 y1))
    clear hw0 hw1
    go_loopw [18] (fun i wr => ∃ k : Nat, k ≤ gl.length ∧ i = .int .i64 k ∧ Below w9.heap.size w9 wr) (fun i _ => gl.length - (intOf i).toNat)
    case atStart => exact ⟨0, Nat.zero_le _, rfl, Below.refl _ _⟩
    case round =>
      obtain ⟨k, hk, rfl, hb⟩ := hrel
      by_cases hlt : k < gl.length
      · obtain ⟨b1, o1, x1, rfl, hb1, hx1, hc1⟩ := (HC9.out.grow hb).int_at hlt
        obtain ⟨b2, o2, x2, rfl, hb2, hx2, hc2⟩ := (HD9.out.grow hb).int_at hlt
        rw [hx1] at hx2
        injection hx2 with hx2
        subst hx2
        have e1 : (0 : Int) ≤ (k : Int) := by omega
        have e2 : (k : Int) < (gl.length : Int) := by omega
        clear hx1
        have HBB := Lib.hid hb
        clear hb
        go_wp2_with fail
        go_quiet (fail)
        go_wp2_with fail
        go_roundw
        case rel => exact ⟨k + 1, by omega, by go_num, below_drewN HBB.out _⟩
        case measure => simp [intOf]; omega
      · have HBB := Lib.hid hb
        clear hb
        go_wp2_with fail
        go_loopw [19] (fun i wr2 => ∃ k : Nat, k ≤ pl.length ∧ i = .int .i64 k ∧ Below w9.heap.size w9 wr2) (fun i _ => pl.length - (intOf i).toNat)
        case atStart => exact ⟨0, Nat.zero_le _, rfl, HBB.out⟩
        case round =>
          obtain ⟨k2, hk2, rfl, hb⟩ := hrel
          by_cases hlt2 : k2 < pl.length
          · obtain ⟨b1, o1, x1, rfl, hb1, hx1, hc1⟩ := (HL9.out.grow hb).int_at hlt2
            obtain ⟨b2, o2, x2, rfl, hb2, hx2, hc2⟩ := (HM9.out.grow hb).int_at hlt2
            rw [hx1] at hx2
            injection hx2 with hx2
            subst hx2
            have e1 : (0 : Int) ≤ (k2 : Int) := by omega
            have e2 : (k2 : Int) < (pl.length : Int) := by omega
            clear hx1
            have HBC := Lib.hid hb
            clear hb
            go_wp2_with fail
            go_quiet (fail)
            go_wp2_with fail
            go_roundw
            case rel => exact ⟨k2 + 1, by omega, by go_num, below_drewN HBC.out _⟩
            case measure => simp [intOf]; omega
          · have HBC := Lib.hid hb
            clear hb
            go_wp2_with (go_at_call 14; refine (works_any _).mono ?_; rintro e w10 ⟨rfl, hb10⟩; have HB10 := Lib.hid hb10; clear hb10)
            go_ret
            exact ⟨rfl, (HB9.out.trans (HBC.out.mono HB9.out.size)).trans (HB10.out.mono (Nat.le_trans HB9.out.size HBC.out.size))⟩
end Go.Proofs.Ytcigobiolbojhaa.Vb

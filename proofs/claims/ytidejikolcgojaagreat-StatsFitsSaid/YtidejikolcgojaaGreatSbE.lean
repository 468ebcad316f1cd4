/- Stats: the walk of StatsFits. -/
import Derived.Test.YtidejikolcgojaaGreatSbB
import Derived.Test.YtidejikolcgojaaGreatSbD
import Derived.Test.YtidejikolcgojaaGreatStK
namespace Go.Proofs.YtidejikolcgojaaGreat.St
open Go.RowKit Go.Shelf
open Go.Proofs.YtidejikolcgojaaGreat.Vb Go.Proofs.YtidejikolcgojaaGreat.Ac
attribute [local go_sem] run_fadd run_fsub run_fmul run_fdiv run_store_float

set_option maxRecDepth 100000 in
set_option maxHeartbeats 4000000 in
theorem statsFits_walk {t x : List Nat} {vt vx : Value} {R R' : Nat → Prop} {w : World} (ht : Bts w R vt t) (hx : Bts w R' vx x) :
    Calls Tryz.prog 3 #[vt, vx] w fun e w' => e = .returned (.bool true) ∧ Below w.heap.size w w' := by
  obtain ⟨A, cap, rfl, hnc, hcap⟩ := ht.form
  obtain ⟨A2, cap2, rfl, hnc2, hcap2⟩ := hx.form
  have HT := Lib.hid ht
  have HX := Lib.hid hx
  clear ht hx
  by_cases h1 : 500 < t.length
  · have d1 : decide ((500 : Int) < (t.length : Int)) = true := by simp; omega
    clear h1
    go_enter Tryz.func3, Tryz.ntmps3
    go_wp2_with fail
    refine (known_any _).mono ?_
    rintro e w1 ⟨rfl, hb⟩
    go_wp2_with fail
    go_ret
    exact ⟨rfl, hb⟩
  · have d1 : decide ((500 : Int) < (t.length : Int)) = false := by simp; omega
    by_cases h2 : 500 < x.length
    · have d2 : decide ((500 : Int) < (x.length : Int)) = true := by simp; omega
      clear h1 h2
      go_enter Tryz.func3, Tryz.ntmps3
      go_wp2_with fail
      refine (known_any _).mono ?_
      rintro e w1 ⟨rfl, hb⟩
      go_wp2_with fail
      go_ret
      exact ⟨rfl, hb⟩
    · have d2 : decide ((500 : Int) < (x.length : Int)) = false := by simp; omega
      have HLT := Lib.hid (show t.length ≤ 1000 by omega)
      have HLX := Lib.hid (show x.length ≤ 1000 by omega)
      clear h1 h2
      go_enter Tryz.func3, Tryz.ntmps3
      go_wp2_with fail
      refine (row_any HT.out HLT.out).mono ?_
      rintro e w1 ⟨va, rfl, ha, hb1⟩
      have HA := Lib.hid ha
      have HB1 := Lib.hid hb1
      clear ha hb1
      go_wp2_with fail
      refine (row_any (HX.out.grow HB1.out) HLX.out).mono ?_
      rintro e w2 ⟨vb, rfl, ha, hb⟩
      have HAb := Lib.hid ha
      replace HA := Lib.hid (HA.out.grow hb)
      have HB2 := Lib.hid (HB1.out.trans (hb.mono HB1.out.size))
      clear ha hb
      go_wp2_with fail
      refine (lent_any HA.out.fls HLT.out).mono ?_
      rintro e w3 ⟨vm, rfl, hm, hb⟩
      have HM := Lib.hid hm
      replace HA := Lib.hid (HA.out.grow hb)
      replace HAb := Lib.hid (HAb.out.grow hb)
      have HB3 := Lib.hid (HB2.out.trans (hb.mono HB2.out.size))
      clear hm hb
      go_wp2_with fail
      refine (lent_any HAb.out.fls HLX.out).mono ?_
      rintro e w4 ⟨vn, rfl, hm, hb⟩
      have HN := Lib.hid hm
      replace HA := Lib.hid (HA.out.grow hb)
      replace HAb := Lib.hid (HAb.out.grow hb)
      replace HM := Lib.hid (HM.out.grow hb)
      have HB4 := Lib.hid (HB3.out.trans (hb.mono HB3.out.size))
      clear hm hb
      go_wp2_with fail
      refine (Fit_any HM.out.fls HN.out.fls).mono ?_
      rintro e w5 ⟨⟨fa, fs, rfl, hfa, hfs⟩, hb⟩
      obtain ⟨z, hz⟩ : ∃ z, z = !fitNo t x := ⟨_, rfl⟩
      obtain ⟨A0, hA0⟩ : ∃ z, z = (if fitNo t x then some 0 else fzero (fitAt t x)) := ⟨_, rfl⟩
      obtain ⟨S0, hS0⟩ : ∃ z, z = (if fitNo t x then some 0 else fzero (fitSlope t x)) := ⟨_, rfl⟩
      rw [← hz]
      rw [← hA0] at hfa
      rw [← hS0] at hfs
      have HZ := Lib.hid hz
      have HA0 := Lib.hid hA0
      have HS0 := Lib.hid hS0
      have HFA := Lib.hid hfa
      have HFS := Lib.hid hfs
      replace HA := Lib.hid (HA.out.grow hb)
      replace HAb := Lib.hid (HAb.out.grow hb)
      replace HM := Lib.hid (HM.out.grow hb)
      replace HN := Lib.hid (HN.out.grow hb)
      have HB5 := Lib.hid (HB4.out.trans (hb.mono HB4.out.size))
      clear hb hz hA0 hS0 hfa hfs
      obtain ⟨U5, hU⟩ : ∃ U, U = w5.alloc (.cells #[.float .f64 fa, .float .f64 fs] 29) := ⟨_, rfl⟩
      have hg : Below w5.heap.size w5 U5 := by rw [hU]; exact (Below.refl _ _).alloc (Nat.le_refl _) _
      have HY := Lib.hid (show Blk U5 w5.heap.size 29 #[.float .f64 fa, .float .f64 fs] by rw [hU]; exact Blk.new _ _ _)
      replace HA := Lib.hid (HA.out.grow hg)
      replace HAb := Lib.hid (HAb.out.grow hg)
      replace HM := Lib.hid (HM.out.grow hg)
      replace HN := Lib.hid (HN.out.grow hg)
      have HBU := Lib.hid (HB5.out.trans (hg.mono HB5.out.size))
      clear hg
      go_wp2_with fail
      rw [← hU]
      clear hU
      refine (refFit_any HA.out.fls HAb.out.fls HLT.out HLX.out).mono ?_
      rintro e w6 ⟨⟨ga, gs, rfl, hga, hgs⟩, hb⟩
      rw [← HZ.out]
      rw [← HA0.out] at hga
      rw [← HS0.out] at hgs
      have HGA := Lib.hid hga
      have HGS := Lib.hid hgs
      replace HA := Lib.hid (HA.out.grow hb)
      replace HAb := Lib.hid (HAb.out.grow hb)
      replace HM := Lib.hid (HM.out.grow hb)
      replace HN := Lib.hid (HN.out.grow hb)
      replace HY := Lib.hid (HY.out.grow hb)
      have HB6 := Lib.hid (HBU.out.trans (hb.mono HBU.out.size))
      clear hb hga hgs
      obtain ⟨U6, hU⟩ : ∃ U, U = w6.alloc (.cells #[.float .f64 ga, .float .f64 gs] 29) := ⟨_, rfl⟩
      have hg : Below w6.heap.size w6 U6 := by rw [hU]; exact (Below.refl _ _).alloc (Nat.le_refl _) _
      have HK := Lib.hid (show Blk U6 w6.heap.size 29 #[.float .f64 ga, .float .f64 gs] by rw [hU]; exact Blk.new _ _ _)
      replace HA := Lib.hid (HA.out.grow hg)
      replace HAb := Lib.hid (HAb.out.grow hg)
      replace HM := Lib.hid (HM.out.grow hg)
      replace HN := Lib.hid (HN.out.grow hg)
      replace HY := Lib.hid (HY.out.grow hg)
      have HBV := Lib.hid (HB6.out.trans (hg.mono HB6.out.size))
      have y0 : (w6.alloc (.cells #[.float .f64 ga, .float .f64 gs] 29)).cell? ⟨w5.heap.size, 0, none⟩ = some (.float .f64 fa) := by rw [← hU]; exact HY.out.cell 0
      have y1 : (w6.alloc (.cells #[.float .f64 ga, .float .f64 gs] 29)).cell? ⟨w5.heap.size, 1, none⟩ = some (.float .f64 fs) := by rw [← hU]; exact HY.out.cell 1
      have zz : (z == z) = true := by simp
      clear hg
      go_wp2_with fail
      rw [← hU] at y0 y1 ⊢
      have z0 : U6.cell? ⟨w6.heap.size, 0, none⟩ = some (.float .f64 ga) := HK.out.cell 0
      have z1 : U6.cell? ⟨w6.heap.size, 1, none⟩ = some (.float .f64 gs) := HK.out.cell 1
      clear hU
      refine (same_any HFA.out HGA.out _).mono ?_
      rintro e w9 ⟨rfl, hw⟩
      rw [hw, fsame_self]
      clear hw w9
      go_wp2_with fail
      refine (same_any HFS.out HGS.out _).mono ?_
      rintro e w9 ⟨rfl, hw⟩
      rw [hw, fsame_self]
      clear hw w9
      go_wp2_with fail
      clear y0 y1 z0 z1
      refine (left_any HM.out HA.out.fls HLT.out).mono ?_
      rintro e w7 ⟨rfl, hb⟩
      replace HAb := Lib.hid (HAb.out.grow hb)
      replace HN := Lib.hid (HN.out.grow hb)
      have HB7 := Lib.hid (HBV.out.trans (hb.mono HBV.out.size))
      clear hb
      go_wp2_with fail
      refine (left_any HN.out HAb.out.fls HLX.out).mono ?_
      rintro e w8 ⟨rfl, hb⟩
      have HB8 := Lib.hid (HB7.out.trans (hb.mono HB7.out.size))
      clear hb
      go_wp2_with fail
      refine (known_any _).mono ?_
      rintro e w9 ⟨rfl, hb⟩
      have HB9 := Lib.hid (HB8.out.trans (hb.mono HB8.out.size))
      clear hb
      go_wp2_with fail
      go_ret
      exact ⟨rfl, HB9.out⟩
end Go.Proofs.YtidejikolcgojaaGreat.St

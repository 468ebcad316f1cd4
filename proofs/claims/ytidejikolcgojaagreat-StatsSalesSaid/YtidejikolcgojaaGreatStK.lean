/- Stats: the document's line; turns. (Printed by tools/gen_stk.py.) -/
import Derived.Test.YtidejikolcgojaaGreatStJ
namespace Go.Proofs.YtidejikolcgojaaGreat.St
open Go.RowKit Go.Shelf
open Go.Proofs.YtidejikolcgojaaGreat.Vb Go.Proofs.YtidejikolcgojaaGreat.Ac
attribute [local go_sem] run_fadd run_fsub run_fmul run_fdiv run_store_float

set_option maxRecDepth 100000 in
set_option maxHeartbeats 8000000 in
theorem refFit_any {t x : List Nat} {vt vx : Value} {R R' : Nat → Prop} {w : World} (ht : Fls w R vt t) (hx : Fls w R' vx x) (hle : t.length ≤ 1000) (hle2 : x.length ≤ 1000) : Calls Tryz.prog 10 #[vt, vx] w (FitP t x w) := by
  obtain ⟨A, cap, rfl, hnc, hcap⟩ := ht.form
  obtain ⟨A2, cap2, rfl, hnc2, hcap2⟩ := hx.form
  obtain ⟨U, hU⟩ : ∃ U, U = w.alloc (.cells #[.float .f64 0, .float .f64 0] 29) := ⟨_, rfl⟩
  have hB : Below w.heap.size w U := by rw [hU]; exact (Below.refl _ _).alloc (Nat.le_refl _) _
  have hY : Blk U w.heap.size 29 #[.float .f64 0, .float .f64 0] := by rw [hU]; exact Blk.new _ _ _
  have HTL := Lib.hid (ht.grow hB)
  have HXL := Lib.hid (hx.grow hB)
  have HB := Lib.hid hB
  have HYB := Lib.hid hY
  have y0 : U.cell? ⟨w.heap.size, 0, none⟩ = some (.float .f64 0) := hY.cell 0
  have y1 : U.cell? ⟨w.heap.size, 1, none⟩ = some (.float .f64 0) := hY.cell 1
  have y2 : U.frozen? ⟨w.heap.size, 0, none⟩ = false := hY.frozen 0
  have y3 : U.frozen? ⟨w.heap.size, 1, none⟩ = false := hY.frozen 1
  have HNO := Lib.hid (show fitNo t x = (decide (t.length ≠ x.length) || decide (t.length < 2) || (ford (fitB t) (some 0) == some .eq) || (fitB t).isNone) from rfl)
  clear ht hx hB hY
  by_cases hne : t.length = x.length
  · have d1 : ((t.length : Int) != (x.length : Int)) = false := by rw [hne]; simp
    by_cases hlt : t.length < 2
    · have hno : fitNo t x = true := by rw [HNO.out, decide_eq_true hlt]; simp
      have HFN := Lib.hid hno
      have d2 : decide ((t.length : Int) < 2) = true := by simp; omega
      clear hne hno
      go_enter Tryz.func10, Tryz.ntmps10
      go_wp2_with fail
      rw [← hU]
      clear hU
      go_wp2_with fail
      exact bodyPost_ret (v := .tuple #[.agg #[.float .f64 0, .float .f64 0], .bool false]) (by simp [results, Tryz.results10, go_sem, y0, y1]) rfl (fitP_no HFN.out HB.out)
    · have d2 : decide ((t.length : Int) < 2) = false := by simp; omega
      have HTE := Lib.hid (show t ≠ [] by intro h; rw [h] at hlt; exact hlt (by decide))
      have HXE := Lib.hid (show x ≠ [] by intro h; rw [h] at hne; rw [hne] at hlt; exact hlt (by decide))
      have HNE := Lib.hid hne
      have HLT := Lib.hid hlt
      clear hne hlt
      go_enter Tryz.func10, Tryz.ntmps10
      go_wp2_with fail
      rw [← hU]
      clear hU
      go_wp2_with fail
      refine (refmean_any HTL.out HTE.out).mono ?_
      rintro e w1 ⟨mt, rfl, hm, hb⟩
      have HM := Lib.hid hm
      have HT1 := Lib.hid (HTL.out.grow hb)
      have HX1 := Lib.hid (HXL.out.grow hb)
      have HY1 := Lib.hid (HYB.out.grow hb)
      have HB1 := Lib.hid (HB.out.trans (hb.mono HB.out.size))
      clear hm hb y0 y1 y2 y3
      go_wp2_with fail
      refine (refmean_any HX1.out HXE.out).mono ?_
      rintro e w2 ⟨mx, rfl, hm, hb⟩
      have HN := Lib.hid hm
      have HT2 := Lib.hid (HT1.out.grow hb)
      have HX2 := Lib.hid (HX1.out.grow hb)
      have HY2 := Lib.hid (HY1.out.grow hb)
      have HB2 := Lib.hid (HB1.out.trans (hb.mono HB1.out.size))
      clear hm hb
      go_wp2_with fail
      refine (products_any HT2.out HX2.out HNE.out hle HM.out HN.out).mono ?_
      rintro e w3 ⟨v3, rfl, ho, hb⟩
      have HO := Lib.hid ho
      have HT3 := Lib.hid (HT2.out.grow hb)
      have HY3 := Lib.hid (HY2.out.grow hb)
      have HB3 := Lib.hid (HB2.out.trans (hb.mono HB2.out.size))
      obtain ⟨B2, d3, rfl⟩ := ownF_form ho
      clear ho hb
      go_wp2_with fail
      refine (sum_own HO.out).mono ?_
      rintro e w4 ⟨sa, rfl, hs, hb⟩
      have HA := Lib.hid (show IsF sa (fitA t x) from hs)
      have HT4 := Lib.hid (HT3.out.grow hb)
      have HY4 := Lib.hid (HY3.out.grow hb)
      have HB4 := Lib.hid (HB3.out.trans (hb.mono HB3.out.size))
      clear hs hb
      go_wp2_with fail
      refine (products_any HT4.out HT4.out rfl hle HM.out HM.out).mono ?_
      rintro e w5 ⟨v5, rfl, ho, hb⟩
      have HO5 := Lib.hid ho
      have HY5 := Lib.hid (HY4.out.grow hb)
      have HB5 := Lib.hid (HB4.out.trans (hb.mono HB4.out.size))
      obtain ⟨B5, d5, rfl⟩ := ownF_form ho
      clear ho hb
      go_wp2_with fail
      refine (sum_own HO5.out).mono ?_
      rintro e w6 ⟨sb, rfl, hs, hb⟩
      have hsb : IsF sb (fitB t) := hs
      have ho := order_isF hsb zero_isF
      have hnn : (FloatKind.f64.format.order sb sb != some .eq) = (fitB t).isNone := (neq_self sb).trans (by rw [← hsb.2, cn_isNone])
      have HBB := Lib.hid hsb
      have hY6 := HY5.out.grow hb
      have HY6 := Lib.hid hY6
      have HB6 := Lib.hid (HB5.out.trans (hb.mono HB5.out.size))
      have HNO2 := Lib.hid (show fitNo t x = ((ford (fitB t) (some 0) == some .eq) || (fitB t).isNone) by
        rw [HNO.out, decide_eq_false (fun h => h HNE.out), decide_eq_false HLT.out]; rfl)
      have y0 : w6.cell? ⟨w.heap.size, 0, none⟩ = some (.float .f64 0) := hY6.cell 0
      have y1 : w6.cell? ⟨w.heap.size, 1, none⟩ = some (.float .f64 0) := hY6.cell 1
      have y2 : w6.frozen? ⟨w.heap.size, 0, none⟩ = false := hY6.frozen 0
      have y3 : w6.frozen? ⟨w.heap.size, 1, none⟩ = false := hY6.frozen 1
      clear hs hsb hb HNO hY6
      by_cases h1 : (ford (fitB t) (some 0) == some .eq) = true
      · have d3 : (FloatKind.f64.format.order sb 0 == some .eq) = true := by rw [ho]; exact h1
        have HFN := Lib.hid (show fitNo t x = true by rw [HNO2.out, h1]; rfl)
        clear ho hnn h1
        go_wp2_with fail
        exact bodyPost_ret (v := .tuple #[.agg #[.float .f64 0, .float .f64 0], .bool false]) (by simp [results, Tryz.results10, go_sem, y0, y1]) rfl (fitP_no HFN.out ((HB6.out.setCell (p := ⟨w.heap.size, 0, none⟩) (Nat.le_refl _) _).setCell (p := ⟨w.heap.size, 1, none⟩) (Nat.le_refl _) _))
      · have h1' : (ford (fitB t) (some 0) == some .eq) = false := by simpa using h1
        have d3 : (FloatKind.f64.format.order sb 0 == some .eq) = false := by rw [ho]; exact h1'
        cases h2 : (fitB t).isNone with
        | true =>
          have d4 : (FloatKind.f64.format.order sb sb != some .eq) = true := hnn.trans h2
          have HFN := Lib.hid (show fitNo t x = true by rw [HNO2.out, h1', h2]; rfl)
          clear ho hnn h1 h1' h2
          go_wp2_with fail
          exact bodyPost_ret (v := .tuple #[.agg #[.float .f64 0, .float .f64 0], .bool false]) (by simp [results, Tryz.results10, go_sem, y0, y1]) rfl (fitP_no HFN.out ((HB6.out.setCell (p := ⟨w.heap.size, 0, none⟩) (Nat.le_refl _) _).setCell (p := ⟨w.heap.size, 1, none⟩) (Nat.le_refl _) _))
        | false =>
          have d4 : (FloatKind.f64.format.order sb sb != some .eq) = false := hnn.trans h2
          have HFN := Lib.hid (show fitNo t x = false by rw [HNO2.out, h1', h2]; rfl)
          clear ho hnn h1 h1' h2
          go_wp2_with fail
          generalize hv : aV Ieee.double.div sa sb _ = sl
          have Hsl := Lib.hid (isF_eq hv (isF_div HA.out HBB.out _))
          clear hv
          generalize hv : aV Ieee.double.mul sl mt _ = x1
          have Hx1 := Lib.hid (isF_eq hv (isF_mul Hsl.out HM.out _))
          clear hv
          generalize hv : aV Ieee.double.sub mx x1 _ = x2
          have Hx2 := Lib.hid (isF_eq hv (isF_sub HN.out Hx1.out _))
          clear hv
          generalize hW : w6.drewN _ = w7
          have y0' : w7.cell? ⟨w.heap.size, 0, none⟩ = some (.float .f64 0) := by rw [← hW]; exact y0
          have y1' : w7.cell? ⟨w.heap.size, 1, none⟩ = some (.float .f64 0) := by rw [← hW]; exact y1
          have y2' : w7.frozen? ⟨w.heap.size, 0, none⟩ = false := by rw [← hW]; exact y2
          have y3' : w7.frozen? ⟨w.heap.size, 1, none⟩ = false := by rw [← hW]; exact y3
          have HY7 := Lib.hid (show Blk w7 w.heap.size 29 #[.float .f64 0, .float .f64 0] by rw [← hW]; exact HY6.out)
          have HB7 := Lib.hid (show Below w.heap.size w w7 by rw [← hW]; exact below_drewN HB6.out _)
          clear hW y0 y1 y2 y3
          refine (zero_any Hx2.out _).mono ?_
          rintro e w9 ⟨r1, rfl, hr, hw9⟩
          rw [hw9]
          have HR1 := Lib.hid hr
          clear hr hw9
          go_wp2_with fail
          refine (zero_any Hsl.out _).mono ?_
          rintro e w9 ⟨r2, rfl, hr, hw9⟩
          rw [hw9]
          have HR2 := Lib.hid hr
          clear hr hw9
          go_wp2_with fail
          have HY8 := (HY7.out.set_ 0 (.float .f64 r1)).set_ 1 (.float .f64 r2)
          have HB8 := Lib.hid ((HB7.out.setCell (p := ⟨w.heap.size, 0, none⟩) (Nat.le_refl _) (.float .f64 r1)).setCell (p := ⟨w.heap.size, 1, none⟩) (Nat.le_refl _) (.float .f64 r2))
          have c0 := HY8.cell 0
          have c1 := HY8.cell 1
          generalize (w7.setCell ⟨w.heap.size, 0, none⟩ (.float .f64 r1)).setCell ⟨w.heap.size, 1, none⟩ (.float .f64 r2) = w8 at c0 c1 HB8 ⊢
          have c0' : w8.cell? ⟨w.heap.size, 0, none⟩ = some (.float .f64 r1) := c0
          have c1' : w8.cell? ⟨w.heap.size, 1, none⟩ = some (.float .f64 r2) := c1
          clear c0 c1 HY8
          exact bodyPost_ret (v := .tuple #[.agg #[.float .f64 r1, .float .f64 r2], .bool true]) (by simp [results, Tryz.results10, go_sem, c0', c1']) rfl (fitP_yes HFN.out HR1.out HR2.out HB8.out)
  · have d1 : ((t.length : Int) != (x.length : Int)) = true := by simp; omega
    have hno : fitNo t x = true := by rw [HNO.out, decide_eq_true hne]; simp
    have HFN := Lib.hid hno
    clear hne hno
    go_enter Tryz.func10, Tryz.ntmps10
    go_wp2_with fail
    rw [← hU]
    clear hU
    go_wp2_with fail
    exact bodyPost_ret (v := .tuple #[.agg #[.float .f64 0, .float .f64 0], .bool false]) (by simp [results, Tryz.results10, go_sem, y0, y1]) rfl (fitP_no HFN.out HB.out)
end Go.Proofs.YtidejikolcgojaaGreat.St

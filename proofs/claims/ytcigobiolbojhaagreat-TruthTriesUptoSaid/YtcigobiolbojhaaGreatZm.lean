/- Joined by program: TruO. -/
import Derived.Test.YtcigobiolbojhaaGreatZl
import Derived.Test.YtcigobiolbojhaaGreatZh
/- Law 29: TruthTries, walked. -/
namespace Go.Proofs.YtcigobiolbojhaaGreat.Vb
open Go.RowKit

theorem askedE_sm (n : Int) (bs : List (List Off)) (buyer r : Int) (ls : List (List Off)) : 0 ≤ askedE n bs buyer r ls ∧ askedE n bs buyer r ls ≤ 1000 := by
  have h0 := instE_bd n bs
  have h1 : ∀ ls : List (List Off), 0 ≤ firstE n ls ∧ firstE n ls ≤ 1000 := by
    intro ls
    induction ls with
    | nil => simp [firstE]
    | cons l ls ih =>
      have := checkE_bd n l
      simp only [firstE]
      split
      · exact this
      · exact ih
  have h2 := h1 ls
  unfold askedE
  split
  · omega
  · split <;> omega
theorem regretV_form (n : Int) (bs : List (List Off)) (buyer r : Int) (tr : List Off) (ts : List (List Off)) : ∃ ra rb : Int, regretV n bs buyer r tr ts = .tuple #[.int .i64 ra, .int .i64 rb, .int .i64 (askedE n bs buyer r (tr :: ts))] := by
  unfold regretV
  split
  · rename_i h
    exact ⟨_, _, by rw [h]⟩
  · exact ⟨_, _, rfl⟩
theorem packV_form (n : Int) (bs : List (List Off)) (buyer r : Int) (tr ot : List Off) : ∃ pa pb : Int, packV n bs buyer r tr ot = .tuple #[.int .i64 pa, .int .i64 pb, .int .i64 (askedE n bs buyer r [tr, ot])] := by
  unfold packV
  split
  · rename_i h
    exact ⟨_, _, by rw [h]⟩
  · exact ⟨_, _, rfl⟩
theorem eql_it_nil (W : World) : (binOp .eql 33 .nilFunc .nilFunc).run Tryz.prog W = .ok (.bool true) W := by kernel_rfl
theorem TrC.grow4 {W W' : World} {R0 : Nat → Prop} {g14 g12 : Nat} {n : Int} {bs : List (List Off)} {k : Nat} {r : Int} {tr : List Off} {ts : List (List Off)} (h : TrC W R0 g14 g12 n bs k r tr ts) (hb : Below W.heap.size W W') : TrC W' R0 g14 g12 n bs k r tr ts := h.keep hb.size fun b hlt _ => hb.block b hlt

set_option maxRecDepth 100000 in
set_option maxHeartbeats 12800000 in
theorem truthTries_walk (n : Int) (bs : List (List Off)) (buyer r : Int) (tr : List Off) (ts : List (List Off)) (leave : Int) (v vt vs : Value) (R Rt Rs : Nat → Prop) (w : World) (hl : Buys w R v bs) (ht : Offs w Rt vt tr) (hs : Buys w Rs vs ts)
    (hbl : bs.length ≤ 1048576) (htl : ts.length ≤ 1048576) (hb : -9223372036854775808 ≤ buyer ∧ buyer ≤ 9223372036854775807) (hr : -9223372036854775808 ≤ r ∧ r ≤ 9223372036854775807) :
    Calls Tryz.prog 3 #[.agg #[.int .i64 n, v, .int .i64 buyer, .int .i64 r, vt, vs], .int .i64 leave] w fun e w' => e = .returned (.bool true) ∧ Below w.heap.size w w' := by
  obtain ⟨_, ⟨_, Axb, cxb, rfl, _⟩, _⟩ := id hl
  obtain ⟨_, ⟨_, Axs, cxs, rfl, _⟩, _⟩ := id hs
  obtain ⟨⟨_, Axt, cxt, rfl, _⟩, _⟩ := id ht
  have HBX := Lib.hid hl
  have HSX := Lib.hid hs
  have HTX := Lib.hid ht
  clear hl ht hs
  obtain ⟨gB, hgB⟩ : ∃ b, b = great29 tr bs ts := ⟨_, rfl⟩
  have HGB := Lib.hid hgB
  clear hgB
  go_enter Tryz.func3, Tryz.ntmps3
  go_wp2_with fail
  obtain ⟨W0, hW0⟩ : ∃ V, V = w.alloc (.cells #[.int .i64 n, .slice Axb bs.length cxb, .int .i64 buyer, .int .i64 r, .slice Axt tr.length cxt, .slice Axs ts.length cxs] 28) := ⟨_, rfl⟩
  have HX0 := Lib.hid (show Blk W0 w.heap.size 28 #[.int .i64 n, .slice Axb bs.length cxb, .int .i64 buyer, .int .i64 r, .slice Axt tr.length cxt, .slice Axs ts.length cxs] from by rw [hW0]; exact Blk.new w _ _)
  have HBW0 := Lib.hid (show Below w.heap.size w W0 from by rw [hW0]; exact (Below.refl _ _).alloc (Nat.le_refl _) _)
  have hs0 : W0.heap.size = w.heap.size + 1 := by rw [hW0]; simp
  rw [← hW0]
  have HS0 := Lib.hid hs0
  clear hW0 hs0
  refine (great29_any n bs buyer r tr ts _ _ _ R Rt Rs W0 (HBX.out.grow HBW0.out) (HTX.out.grow HBW0.out) (HSX.out.grow HBW0.out) hbl htl).mono ?_
  rintro e w1 ⟨rfl, hb1⟩
  rw [← HGB.out]
  have HB01 := Lib.hid hb1
  have HBW1 := Lib.hid (HBW0.out.trans (hb1.mono HBW0.out.size))
  clear hb1
  cases gB with
  | true =>
    clear HX0
    go_wp2_with fail
    refine (works29_any w1).mono ?_
    rintro e wf ⟨rfl, hbf⟩
    have HBF := Lib.hid (HBW1.out.trans (hbf.mono HBW1.out.size))
    clear hbf
    go_wp2_with fail
    go_ret
    exact ⟨rfl, HBF.out⟩
  | false =>
    obtain ⟨htr, hb40, ht40, hbl40, htl40⟩ := great29_no HGB.out.symm
    have HB40 := Lib.hid hb40
    have HT40 := Lib.hid ht40
    clear hb40 ht40
    have hx := HX0.out.grow HB01.out
    have x0 : w1.cell? ⟨w.heap.size, 0, none⟩ = some (.int .i64 n) := hx.cell 0
    have x1 : w1.cell? ⟨w.heap.size, 1, none⟩ = some (.slice Axb bs.length cxb) := hx.cell 1
    have x2 : w1.cell? ⟨w.heap.size, 2, none⟩ = some (.int .i64 buyer) := hx.cell 2
    have x3 : w1.cell? ⟨w.heap.size, 3, none⟩ = some (.int .i64 r) := hx.cell 3
    have x4 : w1.cell? ⟨w.heap.size, 4, none⟩ = some (.slice Axt tr.length cxt) := hx.cell 4
    have x5 : w1.cell? ⟨w.heap.size, 5, none⟩ = some (.slice Axs ts.length cxs) := hx.cell 5
    clear hx
    go_wp2_with fail
    refine (given29_any n bs buyer r tr ts _ _ _ R Rt Rs w1 (HBX.out.grow HBW1.out) (HTX.out.grow HBW1.out) (HSX.out.grow HBW1.out) hbl40 htl40 HB40.out HT40.out htr).mono ?_
    rintro e w2 ⟨g, c, Ab, cb, At, ct, rfl, hyt, hyb0, hys, hb2⟩
    have HYT2 := Lib.hid hyt
    have HYB2 := Lib.hid hyb0
    have HYS2 := Lib.hid hys
    have HB02 := Lib.hid (HB01.out.trans (hb2.mono HB01.out.size))
    have HB12 := Lib.hid hb2
    clear hyt hyb0 hys hb2 x0 x1 x2 x3 x4 x5
    have HB23 := Lib.hid ((Below.refl w2.heap.size w2).alloc (Nat.le_refl _) (.cells #[.int .i64 n, .slice Ab bs.length cb, .int .i64 buyer, .int .i64 r, .slice (some ⟨g, 0, none⟩) tr.length c, .slice At ts.length ct] 28))
    have HY3 := Lib.hid (Blk.new w2 28 #[.int .i64 n, .slice Ab bs.length cb, .int .i64 buyer, .int .i64 r, .slice (some ⟨g, 0, none⟩) tr.length c, .slice At ts.length ct])
    have hy := HY3.out
    have y0 : (w2.alloc (.cells #[.int .i64 n, .slice Ab bs.length cb, .int .i64 buyer, .int .i64 r, .slice (some ⟨g, 0, none⟩) tr.length c, .slice At ts.length ct] 28)).cell? ⟨w2.heap.size, 0, none⟩ = some (.int .i64 n) := hy.cell 0
    have y1 : (w2.alloc (.cells #[.int .i64 n, .slice Ab bs.length cb, .int .i64 buyer, .int .i64 r, .slice (some ⟨g, 0, none⟩) tr.length c, .slice At ts.length ct] 28)).cell? ⟨w2.heap.size, 1, none⟩ = some (.slice Ab bs.length cb) := hy.cell 1
    have y2 : (w2.alloc (.cells #[.int .i64 n, .slice Ab bs.length cb, .int .i64 buyer, .int .i64 r, .slice (some ⟨g, 0, none⟩) tr.length c, .slice At ts.length ct] 28)).cell? ⟨w2.heap.size, 2, none⟩ = some (.int .i64 buyer) := hy.cell 2
    have y3 : (w2.alloc (.cells #[.int .i64 n, .slice Ab bs.length cb, .int .i64 buyer, .int .i64 r, .slice (some ⟨g, 0, none⟩) tr.length c, .slice At ts.length ct] 28)).cell? ⟨w2.heap.size, 3, none⟩ = some (.int .i64 r) := hy.cell 3
    have y4 : (w2.alloc (.cells #[.int .i64 n, .slice Ab bs.length cb, .int .i64 buyer, .int .i64 r, .slice (some ⟨g, 0, none⟩) tr.length c, .slice At ts.length ct] 28)).cell? ⟨w2.heap.size, 4, none⟩ = some (.slice (some ⟨g, 0, none⟩) tr.length c) := hy.cell 4
    have y5 : (w2.alloc (.cells #[.int .i64 n, .slice Ab bs.length cb, .int .i64 buyer, .int .i64 r, .slice (some ⟨g, 0, none⟩) tr.length c, .slice At ts.length ct] 28)).cell? ⟨w2.heap.size, 5, none⟩ = some (.slice At ts.length ct) := hy.cell 5
    clear hy
    go_wp2_with fail
    obtain ⟨W3, hW3⟩ : ∃ V, V = w2.alloc (.cells #[.int .i64 n, .slice Ab bs.length cb, .int .i64 buyer, .int .i64 r, .slice (some ⟨g, 0, none⟩) tr.length c, .slice At ts.length ct] 28) := ⟨_, rfl⟩
    obtain ⟨yb, hyb3⟩ : ∃ z, z = w2.heap.size := ⟨_, rfl⟩
    rw [← hW3] at HB23 HY3 ⊢
    rw [← hyb3] at HY3 ⊢
    have hyb : w2.heap.size ≤ yb := by omega
    have HX3 := Lib.hid ((HX0.out.grow (HB02.out)).grow HB23.out)
    have HYT := Lib.hid (HYT2.out.grow HB23.out)
    have HYB := Lib.hid (HYB2.out.grow HB23.out)
    have HYS := Lib.hid (HYS2.out.grow HB23.out)
    have HBW3 := Lib.hid ((HBW0.out.trans (HB02.out.mono HBW0.out.size)).trans (HB23.out.mono (HBW0.out.trans (HB02.out.mono HBW0.out.size)).size))
    have hwla : w.heap.size ≤ w1.heap.size := HBW1.out.size
    have HW23 := Lib.hid HB23.out.size
    have hsm := askedE_sm n bs buyer r (tr :: ts)
    obtain ⟨z, hze⟩ : ∃ z, z = askedE n bs buyer r (tr :: ts) := ⟨_, rfl⟩
    rw [← hze] at hsm
    have HZE := Lib.hid hze
    clear hW3 hyb3 y0 y1 y2 y3 y4 y5 hze HX0
    refine (tries_any n bs buyer r tr ts _ _ _ _ _ _ W3 HYB.out.buys HYT.out.offs HYS.out.buys (by omega) hb hr).mono ?_
    rintro e w4 ⟨hb4, hcase⟩
    obtain ⟨wv, rfl, hca⟩ : ∃ wv, e = .returned (.tuple #[wv, .int .i64 z]) ∧ ((z ≠ 0 ∧ wv = .nilFunc) ∨ (z = 0 ∧ ∃ k g14 g12 : Nat, buyer = (k : Int) ∧ TrC w4 (W3.heap.size ≤ ·) g14 g12 n bs k r tr ts ∧ wv = itV g14 g12)) := by
      rcases hcase with ⟨h1, rfl⟩ | ⟨h1, k, g14, g12, h2, h3, rfl⟩
      · exact ⟨.nilFunc, by rw [HZE.out], .inl ⟨by rw [HZE.out]; exact h1, rfl⟩⟩
      · exact ⟨itV g14 g12, by rw [HZE.out, h1], .inr ⟨by rw [HZE.out, h1], k, g14, g12, h2, h3, rfl⟩⟩
    have HCA := Lib.hid hca
    have HK4 := Lib.hid hb4
    clear hcase hca hb4
    have hx := HX3.out.grow HK4.out
    have x0 : w4.cell? ⟨w.heap.size, 0, none⟩ = some (.int .i64 n) := hx.cell 0
    have x1 : w4.cell? ⟨w.heap.size, 1, none⟩ = some (.slice Axb bs.length cxb) := hx.cell 1
    have x2 : w4.cell? ⟨w.heap.size, 2, none⟩ = some (.int .i64 buyer) := hx.cell 2
    have x3 : w4.cell? ⟨w.heap.size, 3, none⟩ = some (.int .i64 r) := hx.cell 3
    have x4 : w4.cell? ⟨w.heap.size, 4, none⟩ = some (.slice Axt tr.length cxt) := hx.cell 4
    have x5 : w4.cell? ⟨w.heap.size, 5, none⟩ = some (.slice Axs ts.length cxs) := hx.cell 5
    clear hx
    go_wp2_with fail
    refine (refTries_any n bs buyer r tr ts _ _ _ R Rt Rs w4 (HBX.out.grow (HBW3.out.trans (HK4.out.mono HBW3.out.size))) (HTX.out.grow (HBW3.out.trans (HK4.out.mono HBW3.out.size))) (HSX.out.grow (HBW3.out.trans (HK4.out.mono HBW3.out.size))) (by omega) hb hr).mono ?_
    rintro e w5 ⟨hb5, hcase⟩
    obtain ⟨lv, rfl, hcl⟩ : ∃ lv, e = .returned (.tuple #[lv, .int .i64 z]) ∧ ((z ≠ 0 ∧ lv = .slice none 0 0) ∨ (z = 0 ∧ ∃ (A : Option Addr) (c : Nat), lv = .slice A ts.length c ∧ w5.ownsRow w4.heap.size 2 1 (.slice A ts.length c) ts.length (ints (byL n bs buyer.toNat r tr ts)))) := by
      rcases hcase with ⟨h1, rfl⟩ | ⟨h1, A, c, rfl, h2⟩
      · exact ⟨.slice none 0 0, by rw [HZE.out], .inl ⟨by rw [HZE.out]; exact h1, rfl⟩⟩
      · exact ⟨.slice A ts.length c, by rw [HZE.out, h1], .inr ⟨by rw [HZE.out, h1], A, c, rfl, h2⟩⟩
    have HCL := Lib.hid hcl
    have HK45 := Lib.hid hb5
    have HK5 := Lib.hid (HK4.out.trans (hb5.mono HK4.out.size))
    clear hb5
    clear hcase hcl x0 x1 x2 x3 x4 x5
    have HW24 := Lib.hid (show w2.heap.size ≤ w4.heap.size by have := HK4.out.size; have := HW23.out; omega)
    have hy := HY3.out.grow HK5.out
    have y0 : w5.cell? ⟨yb, 0, none⟩ = some (.int .i64 n) := hy.cell 0
    have y1 : w5.cell? ⟨yb, 1, none⟩ = some (.slice Ab bs.length cb) := hy.cell 1
    have y2 : w5.cell? ⟨yb, 2, none⟩ = some (.int .i64 buyer) := hy.cell 2
    have y3 : w5.cell? ⟨yb, 3, none⟩ = some (.int .i64 r) := hy.cell 3
    have y4 : w5.cell? ⟨yb, 4, none⟩ = some (.slice (some ⟨g, 0, none⟩) tr.length c) := hy.cell 4
    have y5 : w5.cell? ⟨yb, 5, none⟩ = some (.slice At ts.length ct) := hy.cell 5
    clear hy
    go_wp2_with fail
    obtain ⟨ra, rb, hrv⟩ := regretV_form n bs buyer r tr ts
    rw [← HZE.out] at hrv
    have HRV := Lib.hid hrv
    clear hrv
    refine (regret_any n bs buyer r tr ts _ _ _ _ _ _ w5 (HYB.out.grow HK5.out).buys (HYT.out.grow HK5.out).offs (HYS.out.grow HK5.out).buys (by omega) hb hr).mono ?_
    rintro e w6 ⟨rfl, hb6⟩
    rw [HRV.out]
    have HK56 := Lib.hid hb6
    have HK6 := Lib.hid (HK5.out.trans (hb6.mono HK5.out.size))
    clear hb6
    clear y0 y1 y2 y3 y4 y5
    have hx := HX3.out.grow HK6.out
    have x0 : w6.cell? ⟨w.heap.size, 0, none⟩ = some (.int .i64 n) := hx.cell 0
    have x1 : w6.cell? ⟨w.heap.size, 1, none⟩ = some (.slice Axb bs.length cxb) := hx.cell 1
    have x2 : w6.cell? ⟨w.heap.size, 2, none⟩ = some (.int .i64 buyer) := hx.cell 2
    have x3 : w6.cell? ⟨w.heap.size, 3, none⟩ = some (.int .i64 r) := hx.cell 3
    have x4 : w6.cell? ⟨w.heap.size, 4, none⟩ = some (.slice Axt tr.length cxt) := hx.cell 4
    have x5 : w6.cell? ⟨w.heap.size, 5, none⟩ = some (.slice Axs ts.length cxs) := hx.cell 5
    clear hx
    go_wp2_with fail
    refine (refRegret_any n bs buyer r tr ts _ _ _ R Rt Rs w6 (HBX.out.grow (HBW3.out.trans (HK6.out.mono HBW3.out.size))) (HTX.out.grow (HBW3.out.trans (HK6.out.mono HBW3.out.size))) (HSX.out.grow (HBW3.out.trans (HK6.out.mono HBW3.out.size))) (by omega) hb hr).mono ?_
    rintro e w7 ⟨rfl, hb7⟩
    rw [HRV.out]
    have HK67 := Lib.hid (HK56.out.trans (hb7.mono HK56.out.size))
    have HK7 := Lib.hid (HK6.out.trans (hb7.mono HK6.out.size))
    clear hb7
    clear x0 x1 x2 x3 x4 x5
    have hx := HX3.out.grow HK7.out
    have x0 : w7.cell? ⟨w.heap.size, 0, none⟩ = some (.int .i64 n) := hx.cell 0
    have x1 : w7.cell? ⟨w.heap.size, 1, none⟩ = some (.slice Axb bs.length cxb) := hx.cell 1
    have x2 : w7.cell? ⟨w.heap.size, 2, none⟩ = some (.int .i64 buyer) := hx.cell 2
    have x3 : w7.cell? ⟨w.heap.size, 3, none⟩ = some (.int .i64 r) := hx.cell 3
    have x4 : w7.cell? ⟨w.heap.size, 4, none⟩ = some (.slice Axt tr.length cxt) := hx.cell 4
    have x5 : w7.cell? ⟨w.heap.size, 5, none⟩ = some (.slice Axs ts.length cxs) := hx.cell 5
    clear hx
    have hy := HY3.out.grow HK7.out
    have y0 : w7.cell? ⟨yb, 0, none⟩ = some (.int .i64 n) := hy.cell 0
    have y1 : w7.cell? ⟨yb, 1, none⟩ = some (.slice Ab bs.length cb) := hy.cell 1
    have y2 : w7.cell? ⟨yb, 2, none⟩ = some (.int .i64 buyer) := hy.cell 2
    have y3 : w7.cell? ⟨yb, 3, none⟩ = some (.int .i64 r) := hy.cell 3
    have y4 : w7.cell? ⟨yb, 4, none⟩ = some (.slice (some ⟨g, 0, none⟩) tr.length c) := hy.cell 4
    have y5 : w7.cell? ⟨yb, 5, none⟩ = some (.slice At ts.length ct) := hy.cell 5
    clear hy
    go_wp2_with fail
    refine (num29_any z hsm.1 hsm.2 w7).mono ?_
    rintro e _ ⟨rfl, rfl⟩
    go_wp2_with fail
    refine (num29_any z hsm.1 hsm.2 w7).mono ?_
    rintro e _ ⟨rfl, rfl⟩
    go_wp2_with fail
    refine (remains29_any n bs buyer r tr ts _ _ _ _ g c cb ct Ab At R Rt Rs w7 (HBX.out.grow (HBW3.out.trans (HK7.out.mono HBW3.out.size))) (HTX.out.grow (HBW3.out.trans (HK7.out.mono HBW3.out.size))) (HSX.out.grow (HBW3.out.trans (HK7.out.mono HBW3.out.size))) (HYT.out.grow HK7.out) (HYB.out.grow HK7.out) (HYS.out.grow HK7.out) hbl40 htl40 HB40.out HT40.out htr).mono ?_
    rintro e w8 ⟨rfl, hb8⟩
    have HK8E := Lib.hid (HK67.out.trans (hb8.mono HK67.out.size))
    have HK8 := Lib.hid (HK7.out.trans (hb8.mono HK7.out.size))
    clear hb8
    have HK8F := Lib.hid (HK45.out.trans (HK8E.out.mono HK45.out.size))
    clear x0 x1 x2 x3 x4 x5 y0 y1 y2 y3 y4 y5
    have hx := HX3.out.grow HK8.out
    have x0 : w8.cell? ⟨w.heap.size, 0, none⟩ = some (.int .i64 n) := hx.cell 0
    have x1 : w8.cell? ⟨w.heap.size, 1, none⟩ = some (.slice Axb bs.length cxb) := hx.cell 1
    have x2 : w8.cell? ⟨w.heap.size, 2, none⟩ = some (.int .i64 buyer) := hx.cell 2
    have x3 : w8.cell? ⟨w.heap.size, 3, none⟩ = some (.int .i64 r) := hx.cell 3
    have x4 : w8.cell? ⟨w.heap.size, 4, none⟩ = some (.slice Axt tr.length cxt) := hx.cell 4
    have x5 : w8.cell? ⟨w.heap.size, 5, none⟩ = some (.slice Axs ts.length cxs) := hx.cell 5
    clear hx
    by_cases h0 : 0 < ts.length
    · obtain ⟨t0, hts0⟩ : ∃ t0, ts[0]? = some t0 := ⟨_, List.getElem?_eq_getElem h0⟩
      have h0i : (0 : Int) < (ts.length : Int) := by omega
      have hy := HY3.out.grow HK8.out
      have y0 : w8.cell? ⟨yb, 0, none⟩ = some (.int .i64 n) := hy.cell 0
      have y1 : w8.cell? ⟨yb, 1, none⟩ = some (.slice Ab bs.length cb) := hy.cell 1
      have y2 : w8.cell? ⟨yb, 2, none⟩ = some (.int .i64 buyer) := hy.cell 2
      have y3 : w8.cell? ⟨yb, 3, none⟩ = some (.int .i64 r) := hy.cell 3
      have y4 : w8.cell? ⟨yb, 4, none⟩ = some (.slice (some ⟨g, 0, none⟩) tr.length c) := hy.cell 4
      have y5 : w8.cell? ⟨yb, 5, none⟩ = some (.slice At ts.length ct) := hy.cell 5
      clear hy
      obtain ⟨bx0, ox0, ux0, hAx0, hbx0, hcx0, hox0⟩ := (HSX.out.grow (HBW3.out.trans (HK8.out.mono HBW3.out.size))).at_ hts0
      obtain ⟨by0, oy0, gy0, cy0, hAy0, hby0, hcy0, hoy0⟩ := (HYS.out.grow HK8.out).at_ hts0 rfl
      obtain ⟨⟨_, A10, cap10, rfl, _⟩, _⟩ := id hox0
      subst hAx0 hAy0
      obtain ⟨pa, pb, hpv⟩ := packV_form n bs buyer r tr t0
      have hsm2 := askedE_sm n bs buyer r [tr, t0]
      obtain ⟨z2, hz2⟩ : ∃ z, z = askedE n bs buyer r [tr, t0] := ⟨_, rfl⟩
      rw [← hz2] at hsm2 hpv
      have HPV := Lib.hid hpv
      have HOX0 := Lib.hid hox0
      have HOY0 := Lib.hid hoy0
      have hyl8 : yb < w8.heap.size := (HY3.out.grow HK8.out).lt
      have hxl8 : w.heap.size < w8.heap.size := (HX3.out.grow HK8.out).lt
      clear hpv hz2 hts0 hox0 hoy0
      go_wp2_with fail
      refine wp_region_F (Below w8.heap.size w8) [] (by kernel_rfl) ((Below.refl _ _).drew) (fun hS => ?_)
      refine wpAnyF_take (i := 0) (oi := { dst := some 121, op := Go.Op.fieldAddr 28 (Go.Operand.tmp 5) 0, type := 0, pos := "law.go:155", after := #[], guard := none }) (v := ?_) rfl (by kernel_rfl) (by kernel_rfl) (by kernel_rfl) (by kernel_rfl) (fun _ _ _ h => h) (Or.inl ⟨by rfl, ?_⟩) hS ?_
      rotate_left
      · intro w' hSw; have q0 := (hSw.cell (p := ⟨yb, 0, none⟩) hyl8).trans y0; have q1 := (hSw.cell (p := ⟨yb, 1, none⟩) hyl8).trans y1; have q2 := (hSw.cell (p := ⟨yb, 2, none⟩) hyl8).trans y2; have q3 := (hSw.cell (p := ⟨yb, 3, none⟩) hyl8).trans y3; have q4 := (hSw.cell (p := ⟨yb, 4, none⟩) hyl8).trans y4; have q5 := (hSw.cell (p := ⟨yb, 5, none⟩) hyl8).trans y5; have q6 := (hSw.cell (p := ⟨by0, oy0, none⟩) hby0).trans hcy0; go_simp; try with_reducible rfl
      try simp only [Act.put, List.setIfInBounds_toArray, List.set_cons_zero, List.set_cons_succ]
      refine wpAnyF_take (i := 1) (oi := { dst := some 122, op := Go.Op.load 24 (Go.Operand.tmp 121), type := 24, pos := "law.go:155", after := #[{ on := 0, ground := Go.Ground.data }], guard := none }) (v := ?_) rfl (by kernel_rfl) (by kernel_rfl) (by kernel_rfl) (by kernel_rfl) (fun _ _ _ h => h) (Or.inl ⟨by rfl, ?_⟩) hS ?_
      rotate_left
      · intro w' hSw; have q0 := (hSw.cell (p := ⟨yb, 0, none⟩) hyl8).trans y0; have q1 := (hSw.cell (p := ⟨yb, 1, none⟩) hyl8).trans y1; have q2 := (hSw.cell (p := ⟨yb, 2, none⟩) hyl8).trans y2; have q3 := (hSw.cell (p := ⟨yb, 3, none⟩) hyl8).trans y3; have q4 := (hSw.cell (p := ⟨yb, 4, none⟩) hyl8).trans y4; have q5 := (hSw.cell (p := ⟨yb, 5, none⟩) hyl8).trans y5; have q6 := (hSw.cell (p := ⟨by0, oy0, none⟩) hby0).trans hcy0; go_simp; try with_reducible rfl
      try simp only [Act.put, List.setIfInBounds_toArray, List.set_cons_zero, List.set_cons_succ]
      refine wpAnyF_take (i := 2) (oi := { dst := some 123, op := Go.Op.fieldAddr 28 (Go.Operand.tmp 5) 1, type := 0, pos := "law.go:155", after := #[], guard := none }) (v := ?_) rfl (by kernel_rfl) (by kernel_rfl) (by kernel_rfl) (by kernel_rfl) (fun _ _ _ h => h) (Or.inl ⟨by rfl, ?_⟩) hS ?_
      rotate_left
      · intro w' hSw; have q0 := (hSw.cell (p := ⟨yb, 0, none⟩) hyl8).trans y0; have q1 := (hSw.cell (p := ⟨yb, 1, none⟩) hyl8).trans y1; have q2 := (hSw.cell (p := ⟨yb, 2, none⟩) hyl8).trans y2; have q3 := (hSw.cell (p := ⟨yb, 3, none⟩) hyl8).trans y3; have q4 := (hSw.cell (p := ⟨yb, 4, none⟩) hyl8).trans y4; have q5 := (hSw.cell (p := ⟨yb, 5, none⟩) hyl8).trans y5; have q6 := (hSw.cell (p := ⟨by0, oy0, none⟩) hby0).trans hcy0; go_simp; try with_reducible rfl
      try simp only [Act.put, List.setIfInBounds_toArray, List.set_cons_zero, List.set_cons_succ]
      refine wpAnyF_take (i := 3) (oi := { dst := some 124, op := Go.Op.load 3 (Go.Operand.tmp 123), type := 3, pos := "law.go:155", after := #[{ on := 2, ground := Go.Ground.data }], guard := none }) (v := ?_) rfl (by kernel_rfl) (by kernel_rfl) (by kernel_rfl) (by kernel_rfl) (fun _ _ _ h => h) (Or.inl ⟨by rfl, ?_⟩) hS ?_
      rotate_left
      · intro w' hSw; have q0 := (hSw.cell (p := ⟨yb, 0, none⟩) hyl8).trans y0; have q1 := (hSw.cell (p := ⟨yb, 1, none⟩) hyl8).trans y1; have q2 := (hSw.cell (p := ⟨yb, 2, none⟩) hyl8).trans y2; have q3 := (hSw.cell (p := ⟨yb, 3, none⟩) hyl8).trans y3; have q4 := (hSw.cell (p := ⟨yb, 4, none⟩) hyl8).trans y4; have q5 := (hSw.cell (p := ⟨yb, 5, none⟩) hyl8).trans y5; have q6 := (hSw.cell (p := ⟨by0, oy0, none⟩) hby0).trans hcy0; go_simp; try with_reducible rfl
      try simp only [Act.put, List.setIfInBounds_toArray, List.set_cons_zero, List.set_cons_succ]
      refine wpAnyF_take (i := 4) (oi := { dst := some 125, op := Go.Op.fieldAddr 28 (Go.Operand.tmp 5) 2, type := 0, pos := "law.go:155", after := #[], guard := none }) (v := ?_) rfl (by kernel_rfl) (by kernel_rfl) (by kernel_rfl) (by kernel_rfl) (fun _ _ _ h => h) (Or.inl ⟨by rfl, ?_⟩) hS ?_
      rotate_left
      · intro w' hSw; have q0 := (hSw.cell (p := ⟨yb, 0, none⟩) hyl8).trans y0; have q1 := (hSw.cell (p := ⟨yb, 1, none⟩) hyl8).trans y1; have q2 := (hSw.cell (p := ⟨yb, 2, none⟩) hyl8).trans y2; have q3 := (hSw.cell (p := ⟨yb, 3, none⟩) hyl8).trans y3; have q4 := (hSw.cell (p := ⟨yb, 4, none⟩) hyl8).trans y4; have q5 := (hSw.cell (p := ⟨yb, 5, none⟩) hyl8).trans y5; have q6 := (hSw.cell (p := ⟨by0, oy0, none⟩) hby0).trans hcy0; go_simp; try with_reducible rfl
      try simp only [Act.put, List.setIfInBounds_toArray, List.set_cons_zero, List.set_cons_succ]
      refine wpAnyF_take (i := 5) (oi := { dst := some 126, op := Go.Op.load 25 (Go.Operand.tmp 125), type := 25, pos := "law.go:155", after := #[{ on := 4, ground := Go.Ground.data }], guard := none }) (v := ?_) rfl (by kernel_rfl) (by kernel_rfl) (by kernel_rfl) (by kernel_rfl) (fun _ _ _ h => h) (Or.inl ⟨by rfl, ?_⟩) hS ?_
      rotate_left
      · intro w' hSw; have q0 := (hSw.cell (p := ⟨yb, 0, none⟩) hyl8).trans y0; have q1 := (hSw.cell (p := ⟨yb, 1, none⟩) hyl8).trans y1; have q2 := (hSw.cell (p := ⟨yb, 2, none⟩) hyl8).trans y2; have q3 := (hSw.cell (p := ⟨yb, 3, none⟩) hyl8).trans y3; have q4 := (hSw.cell (p := ⟨yb, 4, none⟩) hyl8).trans y4; have q5 := (hSw.cell (p := ⟨yb, 5, none⟩) hyl8).trans y5; have q6 := (hSw.cell (p := ⟨by0, oy0, none⟩) hby0).trans hcy0; go_simp; try with_reducible rfl
      try simp only [Act.put, List.setIfInBounds_toArray, List.set_cons_zero, List.set_cons_succ]
      refine wpAnyF_take (i := 6) (oi := { dst := some 127, op := Go.Op.fieldAddr 28 (Go.Operand.tmp 5) 3, type := 0, pos := "law.go:155", after := #[], guard := none }) (v := ?_) rfl (by kernel_rfl) (by kernel_rfl) (by kernel_rfl) (by kernel_rfl) (fun _ _ _ h => h) (Or.inl ⟨by rfl, ?_⟩) hS ?_
      rotate_left
      · intro w' hSw; have q0 := (hSw.cell (p := ⟨yb, 0, none⟩) hyl8).trans y0; have q1 := (hSw.cell (p := ⟨yb, 1, none⟩) hyl8).trans y1; have q2 := (hSw.cell (p := ⟨yb, 2, none⟩) hyl8).trans y2; have q3 := (hSw.cell (p := ⟨yb, 3, none⟩) hyl8).trans y3; have q4 := (hSw.cell (p := ⟨yb, 4, none⟩) hyl8).trans y4; have q5 := (hSw.cell (p := ⟨yb, 5, none⟩) hyl8).trans y5; have q6 := (hSw.cell (p := ⟨by0, oy0, none⟩) hby0).trans hcy0; go_simp; try with_reducible rfl
      try simp only [Act.put, List.setIfInBounds_toArray, List.set_cons_zero, List.set_cons_succ]
      refine wpAnyF_take (i := 7) (oi := { dst := some 128, op := Go.Op.load 26 (Go.Operand.tmp 127), type := 26, pos := "law.go:155", after := #[{ on := 6, ground := Go.Ground.data }], guard := none }) (v := ?_) rfl (by kernel_rfl) (by kernel_rfl) (by kernel_rfl) (by kernel_rfl) (fun _ _ _ h => h) (Or.inl ⟨by rfl, ?_⟩) hS ?_
      rotate_left
      · intro w' hSw; have q0 := (hSw.cell (p := ⟨yb, 0, none⟩) hyl8).trans y0; have q1 := (hSw.cell (p := ⟨yb, 1, none⟩) hyl8).trans y1; have q2 := (hSw.cell (p := ⟨yb, 2, none⟩) hyl8).trans y2; have q3 := (hSw.cell (p := ⟨yb, 3, none⟩) hyl8).trans y3; have q4 := (hSw.cell (p := ⟨yb, 4, none⟩) hyl8).trans y4; have q5 := (hSw.cell (p := ⟨yb, 5, none⟩) hyl8).trans y5; have q6 := (hSw.cell (p := ⟨by0, oy0, none⟩) hby0).trans hcy0; go_simp; try with_reducible rfl
      try simp only [Act.put, List.setIfInBounds_toArray, List.set_cons_zero, List.set_cons_succ]
      refine wpAnyF_take (i := 8) (oi := { dst := some 129, op := Go.Op.fieldAddr 28 (Go.Operand.tmp 5) 4, type := 0, pos := "law.go:155", after := #[], guard := none }) (v := ?_) rfl (by kernel_rfl) (by kernel_rfl) (by kernel_rfl) (by kernel_rfl) (fun _ _ _ h => h) (Or.inl ⟨by rfl, ?_⟩) hS ?_
      rotate_left
      · intro w' hSw; have q0 := (hSw.cell (p := ⟨yb, 0, none⟩) hyl8).trans y0; have q1 := (hSw.cell (p := ⟨yb, 1, none⟩) hyl8).trans y1; have q2 := (hSw.cell (p := ⟨yb, 2, none⟩) hyl8).trans y2; have q3 := (hSw.cell (p := ⟨yb, 3, none⟩) hyl8).trans y3; have q4 := (hSw.cell (p := ⟨yb, 4, none⟩) hyl8).trans y4; have q5 := (hSw.cell (p := ⟨yb, 5, none⟩) hyl8).trans y5; have q6 := (hSw.cell (p := ⟨by0, oy0, none⟩) hby0).trans hcy0; go_simp; try with_reducible rfl
      try simp only [Act.put, List.setIfInBounds_toArray, List.set_cons_zero, List.set_cons_succ]
      refine wpAnyF_take (i := 9) (oi := { dst := some 130, op := Go.Op.load 22 (Go.Operand.tmp 129), type := 22, pos := "law.go:155", after := #[{ on := 8, ground := Go.Ground.data }], guard := none }) (v := ?_) rfl (by kernel_rfl) (by kernel_rfl) (by kernel_rfl) (by kernel_rfl) (fun _ _ _ h => h) (Or.inl ⟨by rfl, ?_⟩) hS ?_
      rotate_left
      · intro w' hSw; have q0 := (hSw.cell (p := ⟨yb, 0, none⟩) hyl8).trans y0; have q1 := (hSw.cell (p := ⟨yb, 1, none⟩) hyl8).trans y1; have q2 := (hSw.cell (p := ⟨yb, 2, none⟩) hyl8).trans y2; have q3 := (hSw.cell (p := ⟨yb, 3, none⟩) hyl8).trans y3; have q4 := (hSw.cell (p := ⟨yb, 4, none⟩) hyl8).trans y4; have q5 := (hSw.cell (p := ⟨yb, 5, none⟩) hyl8).trans y5; have q6 := (hSw.cell (p := ⟨by0, oy0, none⟩) hby0).trans hcy0; go_simp; try with_reducible rfl
      try simp only [Act.put, List.setIfInBounds_toArray, List.set_cons_zero, List.set_cons_succ]
      refine wpAnyF_take (i := 10) (oi := { dst := some 131, op := Go.Op.indexAddr 22 (Go.Operand.tmp 130) (Go.Operand.const (Go.Value.int Go.IntKind.i64 0)), type := 0, pos := "law.go:155", after := #[{ on := 9, ground := Go.Ground.data }], guard := none }) (v := ?_) rfl (by kernel_rfl) (by kernel_rfl) (by kernel_rfl) (by kernel_rfl) (fun _ _ _ h => h) (Or.inl ⟨by rfl, ?_⟩) hS ?_
      rotate_left
      · intro w' hSw; have q0 := (hSw.cell (p := ⟨yb, 0, none⟩) hyl8).trans y0; have q1 := (hSw.cell (p := ⟨yb, 1, none⟩) hyl8).trans y1; have q2 := (hSw.cell (p := ⟨yb, 2, none⟩) hyl8).trans y2; have q3 := (hSw.cell (p := ⟨yb, 3, none⟩) hyl8).trans y3; have q4 := (hSw.cell (p := ⟨yb, 4, none⟩) hyl8).trans y4; have q5 := (hSw.cell (p := ⟨yb, 5, none⟩) hyl8).trans y5; have q6 := (hSw.cell (p := ⟨by0, oy0, none⟩) hby0).trans hcy0; go_simp; try with_reducible rfl
      try simp only [Act.put, List.setIfInBounds_toArray, List.set_cons_zero, List.set_cons_succ]
      refine wpAnyF_take (i := 11) (oi := { dst := some 132, op := Go.Op.load 26 (Go.Operand.tmp 131), type := 26, pos := "law.go:155", after := #[{ on := 10, ground := Go.Ground.data }], guard := none }) (v := ?_) rfl (by kernel_rfl) (by kernel_rfl) (by kernel_rfl) (by kernel_rfl) (fun _ _ _ h => h) (Or.inl ⟨by rfl, ?_⟩) hS ?_
      rotate_left
      · intro w' hSw; have q0 := (hSw.cell (p := ⟨yb, 0, none⟩) hyl8).trans y0; have q1 := (hSw.cell (p := ⟨yb, 1, none⟩) hyl8).trans y1; have q2 := (hSw.cell (p := ⟨yb, 2, none⟩) hyl8).trans y2; have q3 := (hSw.cell (p := ⟨yb, 3, none⟩) hyl8).trans y3; have q4 := (hSw.cell (p := ⟨yb, 4, none⟩) hyl8).trans y4; have q5 := (hSw.cell (p := ⟨yb, 5, none⟩) hyl8).trans y5; have q6 := (hSw.cell (p := ⟨by0, oy0, none⟩) hby0).trans hcy0; go_simp; try with_reducible rfl
      try simp only [Act.put, List.setIfInBounds_toArray, List.set_cons_zero, List.set_cons_succ]
      refine wpAnyF_ready (rs := [12]) (by kernel_rfl) (by simp) ?_
      refine AllReadyF.cons (o := { dst := some 133, op := Go.Op.call { callee := Go.Callee.value (Go.Operand.func 13), args := #[Go.Operand.tmp 122, Go.Operand.tmp 124, Go.Operand.tmp 126, Go.Operand.tmp 128, Go.Operand.tmp 132], argTypes := #[24, 3, 25, 26, 26] }, type := 46, pos := "law.go:155", after := #[{ on := 1, ground := Go.Ground.data }, { on := 3, ground := Go.Ground.data }, { on := 5, ground := Go.Ground.data }, { on := 7, ground := Go.Ground.data }, { on := 11, ground := Go.Ground.data }], guard := none }) rfl (by rfl) (fun K hK => ?_) ?_
      · go_simp
        refine (package_any n bs buyer r tr t0 _ _ _ _ _ _ w8.drew ((HYB.out.grow HK8.out).grow (Below.refl _ _).drew).buys ((HYT.out.grow HK8.out).grow (Below.refl _ _).drew).offs (HOY0.out.grow (Below.refl _ _).drew).offs hb hr).mono ?_
        rintro e w9 ⟨rfl, hb9⟩
        rw [HPV.out]
        refine hK.out _ _ ?_ (fun hS => ?_)
        · exact (Below.refl w8.heap.size w8).drew.trans (hb9.mono (by simp))
        clear hK K
        try simp only [Act.put, List.setIfInBounds_toArray, List.set_cons_zero, List.set_cons_succ]
        have hb9' := (Below.refl w8.heap.size w8).drew.trans (hb9.mono (by simp))
        have HK89 := Lib.hid hb9'
        clear hb9 hb9'
        refine wpAnyF_take (i := 13) (oi := { dst := some 120, op := Go.Op.move (Go.Operand.tmp 133), type := 46, pos := "law.go:155", after := #[{ on := 12, ground := Go.Ground.data }], guard := none }) (v := ?_) rfl (by kernel_rfl) (by kernel_rfl) (by kernel_rfl) (by kernel_rfl) (fun _ _ _ h => h) (Or.inl ⟨by rfl, ?_⟩) hS ?_
        rotate_left
        · intro w' hSw; have q0 := (hSw.cell (p := ⟨yb, 0, none⟩) hyl8).trans y0; have q1 := (hSw.cell (p := ⟨yb, 1, none⟩) hyl8).trans y1; have q2 := (hSw.cell (p := ⟨yb, 2, none⟩) hyl8).trans y2; have q3 := (hSw.cell (p := ⟨yb, 3, none⟩) hyl8).trans y3; have q4 := (hSw.cell (p := ⟨yb, 4, none⟩) hyl8).trans y4; have q5 := (hSw.cell (p := ⟨yb, 5, none⟩) hyl8).trans y5; have q6 := (hSw.cell (p := ⟨by0, oy0, none⟩) hby0).trans hcy0; go_simp; try with_reducible rfl
        try simp only [Act.put, List.setIfInBounds_toArray, List.set_cons_zero, List.set_cons_succ]
        refine wpAnyF_take (i := 14) (oi := { dst := some 134, op := Go.Op.extract (Go.Operand.tmp 120) 0, type := 2, pos := "law.go:155", after := #[{ on := 13, ground := Go.Ground.data }], guard := none }) (v := ?_) rfl (by kernel_rfl) (by kernel_rfl) (by kernel_rfl) (by kernel_rfl) (fun _ _ _ h => h) (Or.inl ⟨by rfl, ?_⟩) hS ?_
        rotate_left
        · intro w' hSw; have q0 := (hSw.cell (p := ⟨yb, 0, none⟩) hyl8).trans y0; have q1 := (hSw.cell (p := ⟨yb, 1, none⟩) hyl8).trans y1; have q2 := (hSw.cell (p := ⟨yb, 2, none⟩) hyl8).trans y2; have q3 := (hSw.cell (p := ⟨yb, 3, none⟩) hyl8).trans y3; have q4 := (hSw.cell (p := ⟨yb, 4, none⟩) hyl8).trans y4; have q5 := (hSw.cell (p := ⟨yb, 5, none⟩) hyl8).trans y5; have q6 := (hSw.cell (p := ⟨by0, oy0, none⟩) hby0).trans hcy0; go_simp; try with_reducible rfl
        try simp only [Act.put, List.setIfInBounds_toArray, List.set_cons_zero, List.set_cons_succ]
        refine wpAnyF_take (i := 15) (oi := { dst := some 135, op := Go.Op.extract (Go.Operand.tmp 120) 1, type := 2, pos := "law.go:155", after := #[{ on := 13, ground := Go.Ground.data }, { on := 17, ground := Go.Ground.gcOnly Go.Departure.lateStores }], guard := none }) (v := ?_) rfl (by kernel_rfl) (by kernel_rfl) (by kernel_rfl) (by kernel_rfl) (fun _ _ _ h => h) (Or.inl ⟨by rfl, ?_⟩) hS ?_
        rotate_left
        · intro w' hSw; have q0 := (hSw.cell (p := ⟨yb, 0, none⟩) hyl8).trans y0; have q1 := (hSw.cell (p := ⟨yb, 1, none⟩) hyl8).trans y1; have q2 := (hSw.cell (p := ⟨yb, 2, none⟩) hyl8).trans y2; have q3 := (hSw.cell (p := ⟨yb, 3, none⟩) hyl8).trans y3; have q4 := (hSw.cell (p := ⟨yb, 4, none⟩) hyl8).trans y4; have q5 := (hSw.cell (p := ⟨yb, 5, none⟩) hyl8).trans y5; have q6 := (hSw.cell (p := ⟨by0, oy0, none⟩) hby0).trans hcy0; go_simp; try with_reducible rfl
        try simp only [Act.put, List.setIfInBounds_toArray, List.set_cons_zero, List.set_cons_succ]
        refine wpAnyF_take (i := 16) (oi := { dst := some 136, op := Go.Op.extract (Go.Operand.tmp 120) 2, type := 34, pos := "law.go:155", after := #[{ on := 13, ground := Go.Ground.data }, { on := 18, ground := Go.Ground.gcOnly Go.Departure.lateStores }], guard := none }) (v := ?_) rfl (by kernel_rfl) (by kernel_rfl) (by kernel_rfl) (by kernel_rfl) (fun _ _ _ h => h) (Or.inl ⟨by rfl, ?_⟩) hS ?_
        rotate_left
        · intro w' hSw; have q0 := (hSw.cell (p := ⟨yb, 0, none⟩) hyl8).trans y0; have q1 := (hSw.cell (p := ⟨yb, 1, none⟩) hyl8).trans y1; have q2 := (hSw.cell (p := ⟨yb, 2, none⟩) hyl8).trans y2; have q3 := (hSw.cell (p := ⟨yb, 3, none⟩) hyl8).trans y3; have q4 := (hSw.cell (p := ⟨yb, 4, none⟩) hyl8).trans y4; have q5 := (hSw.cell (p := ⟨yb, 5, none⟩) hyl8).trans y5; have q6 := (hSw.cell (p := ⟨by0, oy0, none⟩) hby0).trans hcy0; go_simp; try with_reducible rfl
        try simp only [Act.put, List.setIfInBounds_toArray, List.set_cons_zero, List.set_cons_succ]
        refine wpAnyF_take (i := 17) (oi := { dst := some 16, op := Go.Op.assign (Go.Operand.tmp 134), type := 2, pos := "law.go:155", after := #[{ on := 14, ground := Go.Ground.data }, { on := 12, ground := Go.Ground.chain }, { on := 0, ground := Go.Ground.phase }, { on := 1, ground := Go.Ground.phase }, { on := 2, ground := Go.Ground.phase }, { on := 3, ground := Go.Ground.phase }, { on := 4, ground := Go.Ground.phase }, { on := 5, ground := Go.Ground.phase }, { on := 6, ground := Go.Ground.phase }, { on := 7, ground := Go.Ground.phase }, { on := 8, ground := Go.Ground.phase }, { on := 9, ground := Go.Ground.phase }, { on := 10, ground := Go.Ground.phase }, { on := 11, ground := Go.Ground.phase }, { on := 12, ground := Go.Ground.phase }, { on := 13, ground := Go.Ground.phase }, { on := 14, ground := Go.Ground.phase }, { on := 15, ground := Go.Ground.textOnly Go.Departure.lateStores }, { on := 16, ground := Go.Ground.textOnly Go.Departure.lateStores }], guard := none }) (v := ?_) rfl (by kernel_rfl) (by kernel_rfl) (by kernel_rfl) (by kernel_rfl) (fun _ _ _ h => h) (Or.inl ⟨by rfl, ?_⟩) hS ?_
        rotate_left
        · intro w' hSw; have q0 := (hSw.cell (p := ⟨yb, 0, none⟩) hyl8).trans y0; have q1 := (hSw.cell (p := ⟨yb, 1, none⟩) hyl8).trans y1; have q2 := (hSw.cell (p := ⟨yb, 2, none⟩) hyl8).trans y2; have q3 := (hSw.cell (p := ⟨yb, 3, none⟩) hyl8).trans y3; have q4 := (hSw.cell (p := ⟨yb, 4, none⟩) hyl8).trans y4; have q5 := (hSw.cell (p := ⟨yb, 5, none⟩) hyl8).trans y5; have q6 := (hSw.cell (p := ⟨by0, oy0, none⟩) hby0).trans hcy0; go_simp; try with_reducible rfl
        try simp only [Act.put, List.setIfInBounds_toArray, List.set_cons_zero, List.set_cons_succ]
        refine wpAnyF_take (i := 18) (oi := { dst := some 17, op := Go.Op.assign (Go.Operand.tmp 135), type := 2, pos := "law.go:155", after := #[{ on := 15, ground := Go.Ground.data }, { on := 17, ground := Go.Ground.chain }, { on := 0, ground := Go.Ground.phase }, { on := 1, ground := Go.Ground.phase }, { on := 2, ground := Go.Ground.phase }, { on := 3, ground := Go.Ground.phase }, { on := 4, ground := Go.Ground.phase }, { on := 5, ground := Go.Ground.phase }, { on := 6, ground := Go.Ground.phase }, { on := 7, ground := Go.Ground.phase }, { on := 8, ground := Go.Ground.phase }, { on := 9, ground := Go.Ground.phase }, { on := 10, ground := Go.Ground.phase }, { on := 11, ground := Go.Ground.phase }, { on := 12, ground := Go.Ground.phase }, { on := 13, ground := Go.Ground.phase }, { on := 14, ground := Go.Ground.phase }, { on := 15, ground := Go.Ground.phase }, { on := 16, ground := Go.Ground.textOnly Go.Departure.lateStores }, { on := 17, ground := Go.Ground.phase }], guard := none }) (v := ?_) rfl (by kernel_rfl) (by kernel_rfl) (by kernel_rfl) (by kernel_rfl) (fun _ _ _ h => h) (Or.inl ⟨by rfl, ?_⟩) hS ?_
        rotate_left
        · intro w' hSw; have q0 := (hSw.cell (p := ⟨yb, 0, none⟩) hyl8).trans y0; have q1 := (hSw.cell (p := ⟨yb, 1, none⟩) hyl8).trans y1; have q2 := (hSw.cell (p := ⟨yb, 2, none⟩) hyl8).trans y2; have q3 := (hSw.cell (p := ⟨yb, 3, none⟩) hyl8).trans y3; have q4 := (hSw.cell (p := ⟨yb, 4, none⟩) hyl8).trans y4; have q5 := (hSw.cell (p := ⟨yb, 5, none⟩) hyl8).trans y5; have q6 := (hSw.cell (p := ⟨by0, oy0, none⟩) hby0).trans hcy0; go_simp; try with_reducible rfl
        try simp only [Act.put, List.setIfInBounds_toArray, List.set_cons_zero, List.set_cons_succ]
        refine wpAnyF_take (i := 19) (oi := { dst := some 18, op := Go.Op.assign (Go.Operand.tmp 136), type := 34, pos := "law.go:155", after := #[{ on := 16, ground := Go.Ground.data }, { on := 18, ground := Go.Ground.chain }, { on := 0, ground := Go.Ground.phase }, { on := 1, ground := Go.Ground.phase }, { on := 2, ground := Go.Ground.phase }, { on := 3, ground := Go.Ground.phase }, { on := 4, ground := Go.Ground.phase }, { on := 5, ground := Go.Ground.phase }, { on := 6, ground := Go.Ground.phase }, { on := 7, ground := Go.Ground.phase }, { on := 8, ground := Go.Ground.phase }, { on := 9, ground := Go.Ground.phase }, { on := 10, ground := Go.Ground.phase }, { on := 11, ground := Go.Ground.phase }, { on := 12, ground := Go.Ground.phase }, { on := 13, ground := Go.Ground.phase }, { on := 14, ground := Go.Ground.phase }, { on := 15, ground := Go.Ground.phase }, { on := 16, ground := Go.Ground.phase }, { on := 17, ground := Go.Ground.phase }, { on := 18, ground := Go.Ground.phase }], guard := none }) (v := ?_) rfl (by kernel_rfl) (by kernel_rfl) (by kernel_rfl) (by kernel_rfl) (fun _ _ _ h => h) (Or.inl ⟨by rfl, ?_⟩) hS ?_
        rotate_left
        · intro w' hSw; have q0 := (hSw.cell (p := ⟨yb, 0, none⟩) hyl8).trans y0; have q1 := (hSw.cell (p := ⟨yb, 1, none⟩) hyl8).trans y1; have q2 := (hSw.cell (p := ⟨yb, 2, none⟩) hyl8).trans y2; have q3 := (hSw.cell (p := ⟨yb, 3, none⟩) hyl8).trans y3; have q4 := (hSw.cell (p := ⟨yb, 4, none⟩) hyl8).trans y4; have q5 := (hSw.cell (p := ⟨yb, 5, none⟩) hyl8).trans y5; have q6 := (hSw.cell (p := ⟨by0, oy0, none⟩) hby0).trans hcy0; go_simp; try with_reducible rfl
        try simp only [Act.put, List.setIfInBounds_toArray, List.set_cons_zero, List.set_cons_succ]
        refine wpAnyF_done (by kernel_rfl) ?_ _
        clear hS x0 x1 x2 x3 x4 x5 y0 y1 y2 y3 y4 y5
        have HK9 := Lib.hid (HK8.out.trans (HK89.out.mono HK8.out.size))
        have HK9E := Lib.hid (HK8E.out.trans (HK89.out.mono HK8E.out.size))
        have hx := HX3.out.grow HK9.out
        have x0 : w9.cell? ⟨w.heap.size, 0, none⟩ = some (.int .i64 n) := hx.cell 0
        have x1 : w9.cell? ⟨w.heap.size, 1, none⟩ = some (.slice Axb bs.length cxb) := hx.cell 1
        have x2 : w9.cell? ⟨w.heap.size, 2, none⟩ = some (.int .i64 buyer) := hx.cell 2
        have x3 : w9.cell? ⟨w.heap.size, 3, none⟩ = some (.int .i64 r) := hx.cell 3
        have x4 : w9.cell? ⟨w.heap.size, 4, none⟩ = some (.slice Axt tr.length cxt) := hx.cell 4
        have x5 : w9.cell? ⟨w.heap.size, 5, none⟩ = some (.slice (some ⟨bx0, ox0, none⟩) ts.length cxs) := hx.cell 5
        clear hx
        have hxl9 : w.heap.size < w9.heap.size := (HX3.out.grow HK9.out).lt
        have hcx9 : w9.cell? ⟨bx0, ox0, none⟩ = _ := (HK89.out.cell (p := ⟨bx0, ox0, none⟩) hbx0).trans hcx0
        have hbx9 : bx0 < w9.heap.size := Nat.lt_of_lt_of_le hbx0 HK89.out.size
        clear hcx0 hcy0 hby0
        go_wp2_with fail
        refine wp_region_F (Below w9.heap.size w9) [] (by kernel_rfl) ((Below.refl _ _).drew) (fun hS => ?_)
        refine wpAnyF_take (i := 0) (oi := { dst := some 138, op := Go.Op.fieldAddr 28 (Go.Operand.tmp 2) 0, type := 0, pos := "law.go:156", after := #[], guard := none }) (v := ?_) rfl (by kernel_rfl) (by kernel_rfl) (by kernel_rfl) (by kernel_rfl) (fun _ _ _ h => h) (Or.inl ⟨by rfl, ?_⟩) hS ?_
        rotate_left
        · intro w' hSw; have q0 := (hSw.cell (p := ⟨w.heap.size, 0, none⟩) hxl9).trans x0; have q1 := (hSw.cell (p := ⟨w.heap.size, 1, none⟩) hxl9).trans x1; have q2 := (hSw.cell (p := ⟨w.heap.size, 2, none⟩) hxl9).trans x2; have q3 := (hSw.cell (p := ⟨w.heap.size, 3, none⟩) hxl9).trans x3; have q4 := (hSw.cell (p := ⟨w.heap.size, 4, none⟩) hxl9).trans x4; have q5 := (hSw.cell (p := ⟨w.heap.size, 5, none⟩) hxl9).trans x5; have q6 := (hSw.cell (p := ⟨bx0, ox0, none⟩) hbx9).trans hcx9; go_simp; try with_reducible rfl
        try simp only [Act.put, List.setIfInBounds_toArray, List.set_cons_zero, List.set_cons_succ]
        refine wpAnyF_take (i := 1) (oi := { dst := some 139, op := Go.Op.load 24 (Go.Operand.tmp 138), type := 24, pos := "law.go:156", after := #[{ on := 0, ground := Go.Ground.data }], guard := none }) (v := ?_) rfl (by kernel_rfl) (by kernel_rfl) (by kernel_rfl) (by kernel_rfl) (fun _ _ _ h => h) (Or.inl ⟨by rfl, ?_⟩) hS ?_
        rotate_left
        · intro w' hSw; have q0 := (hSw.cell (p := ⟨w.heap.size, 0, none⟩) hxl9).trans x0; have q1 := (hSw.cell (p := ⟨w.heap.size, 1, none⟩) hxl9).trans x1; have q2 := (hSw.cell (p := ⟨w.heap.size, 2, none⟩) hxl9).trans x2; have q3 := (hSw.cell (p := ⟨w.heap.size, 3, none⟩) hxl9).trans x3; have q4 := (hSw.cell (p := ⟨w.heap.size, 4, none⟩) hxl9).trans x4; have q5 := (hSw.cell (p := ⟨w.heap.size, 5, none⟩) hxl9).trans x5; have q6 := (hSw.cell (p := ⟨bx0, ox0, none⟩) hbx9).trans hcx9; go_simp; try with_reducible rfl
        try simp only [Act.put, List.setIfInBounds_toArray, List.set_cons_zero, List.set_cons_succ]
        refine wpAnyF_take (i := 2) (oi := { dst := some 140, op := Go.Op.fieldAddr 28 (Go.Operand.tmp 2) 1, type := 0, pos := "law.go:156", after := #[], guard := none }) (v := ?_) rfl (by kernel_rfl) (by kernel_rfl) (by kernel_rfl) (by kernel_rfl) (fun _ _ _ h => h) (Or.inl ⟨by rfl, ?_⟩) hS ?_
        rotate_left
        · intro w' hSw; have q0 := (hSw.cell (p := ⟨w.heap.size, 0, none⟩) hxl9).trans x0; have q1 := (hSw.cell (p := ⟨w.heap.size, 1, none⟩) hxl9).trans x1; have q2 := (hSw.cell (p := ⟨w.heap.size, 2, none⟩) hxl9).trans x2; have q3 := (hSw.cell (p := ⟨w.heap.size, 3, none⟩) hxl9).trans x3; have q4 := (hSw.cell (p := ⟨w.heap.size, 4, none⟩) hxl9).trans x4; have q5 := (hSw.cell (p := ⟨w.heap.size, 5, none⟩) hxl9).trans x5; have q6 := (hSw.cell (p := ⟨bx0, ox0, none⟩) hbx9).trans hcx9; go_simp; try with_reducible rfl
        try simp only [Act.put, List.setIfInBounds_toArray, List.set_cons_zero, List.set_cons_succ]
        refine wpAnyF_take (i := 3) (oi := { dst := some 141, op := Go.Op.load 3 (Go.Operand.tmp 140), type := 3, pos := "law.go:156", after := #[{ on := 2, ground := Go.Ground.data }], guard := none }) (v := ?_) rfl (by kernel_rfl) (by kernel_rfl) (by kernel_rfl) (by kernel_rfl) (fun _ _ _ h => h) (Or.inl ⟨by rfl, ?_⟩) hS ?_
        rotate_left
        · intro w' hSw; have q0 := (hSw.cell (p := ⟨w.heap.size, 0, none⟩) hxl9).trans x0; have q1 := (hSw.cell (p := ⟨w.heap.size, 1, none⟩) hxl9).trans x1; have q2 := (hSw.cell (p := ⟨w.heap.size, 2, none⟩) hxl9).trans x2; have q3 := (hSw.cell (p := ⟨w.heap.size, 3, none⟩) hxl9).trans x3; have q4 := (hSw.cell (p := ⟨w.heap.size, 4, none⟩) hxl9).trans x4; have q5 := (hSw.cell (p := ⟨w.heap.size, 5, none⟩) hxl9).trans x5; have q6 := (hSw.cell (p := ⟨bx0, ox0, none⟩) hbx9).trans hcx9; go_simp; try with_reducible rfl
        try simp only [Act.put, List.setIfInBounds_toArray, List.set_cons_zero, List.set_cons_succ]
        refine wpAnyF_take (i := 4) (oi := { dst := some 142, op := Go.Op.fieldAddr 28 (Go.Operand.tmp 2) 2, type := 0, pos := "law.go:156", after := #[], guard := none }) (v := ?_) rfl (by kernel_rfl) (by kernel_rfl) (by kernel_rfl) (by kernel_rfl) (fun _ _ _ h => h) (Or.inl ⟨by rfl, ?_⟩) hS ?_
        rotate_left
        · intro w' hSw; have q0 := (hSw.cell (p := ⟨w.heap.size, 0, none⟩) hxl9).trans x0; have q1 := (hSw.cell (p := ⟨w.heap.size, 1, none⟩) hxl9).trans x1; have q2 := (hSw.cell (p := ⟨w.heap.size, 2, none⟩) hxl9).trans x2; have q3 := (hSw.cell (p := ⟨w.heap.size, 3, none⟩) hxl9).trans x3; have q4 := (hSw.cell (p := ⟨w.heap.size, 4, none⟩) hxl9).trans x4; have q5 := (hSw.cell (p := ⟨w.heap.size, 5, none⟩) hxl9).trans x5; have q6 := (hSw.cell (p := ⟨bx0, ox0, none⟩) hbx9).trans hcx9; go_simp; try with_reducible rfl
        try simp only [Act.put, List.setIfInBounds_toArray, List.set_cons_zero, List.set_cons_succ]
        refine wpAnyF_take (i := 5) (oi := { dst := some 143, op := Go.Op.load 25 (Go.Operand.tmp 142), type := 25, pos := "law.go:156", after := #[{ on := 4, ground := Go.Ground.data }], guard := none }) (v := ?_) rfl (by kernel_rfl) (by kernel_rfl) (by kernel_rfl) (by kernel_rfl) (fun _ _ _ h => h) (Or.inl ⟨by rfl, ?_⟩) hS ?_
        rotate_left
        · intro w' hSw; have q0 := (hSw.cell (p := ⟨w.heap.size, 0, none⟩) hxl9).trans x0; have q1 := (hSw.cell (p := ⟨w.heap.size, 1, none⟩) hxl9).trans x1; have q2 := (hSw.cell (p := ⟨w.heap.size, 2, none⟩) hxl9).trans x2; have q3 := (hSw.cell (p := ⟨w.heap.size, 3, none⟩) hxl9).trans x3; have q4 := (hSw.cell (p := ⟨w.heap.size, 4, none⟩) hxl9).trans x4; have q5 := (hSw.cell (p := ⟨w.heap.size, 5, none⟩) hxl9).trans x5; have q6 := (hSw.cell (p := ⟨bx0, ox0, none⟩) hbx9).trans hcx9; go_simp; try with_reducible rfl
        try simp only [Act.put, List.setIfInBounds_toArray, List.set_cons_zero, List.set_cons_succ]
        refine wpAnyF_take (i := 6) (oi := { dst := some 144, op := Go.Op.fieldAddr 28 (Go.Operand.tmp 2) 3, type := 0, pos := "law.go:156", after := #[], guard := none }) (v := ?_) rfl (by kernel_rfl) (by kernel_rfl) (by kernel_rfl) (by kernel_rfl) (fun _ _ _ h => h) (Or.inl ⟨by rfl, ?_⟩) hS ?_
        rotate_left
        · intro w' hSw; have q0 := (hSw.cell (p := ⟨w.heap.size, 0, none⟩) hxl9).trans x0; have q1 := (hSw.cell (p := ⟨w.heap.size, 1, none⟩) hxl9).trans x1; have q2 := (hSw.cell (p := ⟨w.heap.size, 2, none⟩) hxl9).trans x2; have q3 := (hSw.cell (p := ⟨w.heap.size, 3, none⟩) hxl9).trans x3; have q4 := (hSw.cell (p := ⟨w.heap.size, 4, none⟩) hxl9).trans x4; have q5 := (hSw.cell (p := ⟨w.heap.size, 5, none⟩) hxl9).trans x5; have q6 := (hSw.cell (p := ⟨bx0, ox0, none⟩) hbx9).trans hcx9; go_simp; try with_reducible rfl
        try simp only [Act.put, List.setIfInBounds_toArray, List.set_cons_zero, List.set_cons_succ]
        refine wpAnyF_take (i := 7) (oi := { dst := some 145, op := Go.Op.load 26 (Go.Operand.tmp 144), type := 26, pos := "law.go:156", after := #[{ on := 6, ground := Go.Ground.data }], guard := none }) (v := ?_) rfl (by kernel_rfl) (by kernel_rfl) (by kernel_rfl) (by kernel_rfl) (fun _ _ _ h => h) (Or.inl ⟨by rfl, ?_⟩) hS ?_
        rotate_left
        · intro w' hSw; have q0 := (hSw.cell (p := ⟨w.heap.size, 0, none⟩) hxl9).trans x0; have q1 := (hSw.cell (p := ⟨w.heap.size, 1, none⟩) hxl9).trans x1; have q2 := (hSw.cell (p := ⟨w.heap.size, 2, none⟩) hxl9).trans x2; have q3 := (hSw.cell (p := ⟨w.heap.size, 3, none⟩) hxl9).trans x3; have q4 := (hSw.cell (p := ⟨w.heap.size, 4, none⟩) hxl9).trans x4; have q5 := (hSw.cell (p := ⟨w.heap.size, 5, none⟩) hxl9).trans x5; have q6 := (hSw.cell (p := ⟨bx0, ox0, none⟩) hbx9).trans hcx9; go_simp; try with_reducible rfl
        try simp only [Act.put, List.setIfInBounds_toArray, List.set_cons_zero, List.set_cons_succ]
        refine wpAnyF_take (i := 8) (oi := { dst := some 146, op := Go.Op.fieldAddr 28 (Go.Operand.tmp 2) 4, type := 0, pos := "law.go:156", after := #[], guard := none }) (v := ?_) rfl (by kernel_rfl) (by kernel_rfl) (by kernel_rfl) (by kernel_rfl) (fun _ _ _ h => h) (Or.inl ⟨by rfl, ?_⟩) hS ?_
        rotate_left
        · intro w' hSw; have q0 := (hSw.cell (p := ⟨w.heap.size, 0, none⟩) hxl9).trans x0; have q1 := (hSw.cell (p := ⟨w.heap.size, 1, none⟩) hxl9).trans x1; have q2 := (hSw.cell (p := ⟨w.heap.size, 2, none⟩) hxl9).trans x2; have q3 := (hSw.cell (p := ⟨w.heap.size, 3, none⟩) hxl9).trans x3; have q4 := (hSw.cell (p := ⟨w.heap.size, 4, none⟩) hxl9).trans x4; have q5 := (hSw.cell (p := ⟨w.heap.size, 5, none⟩) hxl9).trans x5; have q6 := (hSw.cell (p := ⟨bx0, ox0, none⟩) hbx9).trans hcx9; go_simp; try with_reducible rfl
        try simp only [Act.put, List.setIfInBounds_toArray, List.set_cons_zero, List.set_cons_succ]
        refine wpAnyF_take (i := 9) (oi := { dst := some 147, op := Go.Op.load 22 (Go.Operand.tmp 146), type := 22, pos := "law.go:156", after := #[{ on := 8, ground := Go.Ground.data }], guard := none }) (v := ?_) rfl (by kernel_rfl) (by kernel_rfl) (by kernel_rfl) (by kernel_rfl) (fun _ _ _ h => h) (Or.inl ⟨by rfl, ?_⟩) hS ?_
        rotate_left
        · intro w' hSw; have q0 := (hSw.cell (p := ⟨w.heap.size, 0, none⟩) hxl9).trans x0; have q1 := (hSw.cell (p := ⟨w.heap.size, 1, none⟩) hxl9).trans x1; have q2 := (hSw.cell (p := ⟨w.heap.size, 2, none⟩) hxl9).trans x2; have q3 := (hSw.cell (p := ⟨w.heap.size, 3, none⟩) hxl9).trans x3; have q4 := (hSw.cell (p := ⟨w.heap.size, 4, none⟩) hxl9).trans x4; have q5 := (hSw.cell (p := ⟨w.heap.size, 5, none⟩) hxl9).trans x5; have q6 := (hSw.cell (p := ⟨bx0, ox0, none⟩) hbx9).trans hcx9; go_simp; try with_reducible rfl
        try simp only [Act.put, List.setIfInBounds_toArray, List.set_cons_zero, List.set_cons_succ]
        refine wpAnyF_take (i := 10) (oi := { dst := some 148, op := Go.Op.indexAddr 22 (Go.Operand.tmp 147) (Go.Operand.const (Go.Value.int Go.IntKind.i64 0)), type := 0, pos := "law.go:156", after := #[{ on := 9, ground := Go.Ground.data }], guard := none }) (v := ?_) rfl (by kernel_rfl) (by kernel_rfl) (by kernel_rfl) (by kernel_rfl) (fun _ _ _ h => h) (Or.inl ⟨by rfl, ?_⟩) hS ?_
        rotate_left
        · intro w' hSw; have q0 := (hSw.cell (p := ⟨w.heap.size, 0, none⟩) hxl9).trans x0; have q1 := (hSw.cell (p := ⟨w.heap.size, 1, none⟩) hxl9).trans x1; have q2 := (hSw.cell (p := ⟨w.heap.size, 2, none⟩) hxl9).trans x2; have q3 := (hSw.cell (p := ⟨w.heap.size, 3, none⟩) hxl9).trans x3; have q4 := (hSw.cell (p := ⟨w.heap.size, 4, none⟩) hxl9).trans x4; have q5 := (hSw.cell (p := ⟨w.heap.size, 5, none⟩) hxl9).trans x5; have q6 := (hSw.cell (p := ⟨bx0, ox0, none⟩) hbx9).trans hcx9; go_simp; try with_reducible rfl
        try simp only [Act.put, List.setIfInBounds_toArray, List.set_cons_zero, List.set_cons_succ]
        refine wpAnyF_take (i := 11) (oi := { dst := some 149, op := Go.Op.load 26 (Go.Operand.tmp 148), type := 26, pos := "law.go:156", after := #[{ on := 10, ground := Go.Ground.data }], guard := none }) (v := ?_) rfl (by kernel_rfl) (by kernel_rfl) (by kernel_rfl) (by kernel_rfl) (fun _ _ _ h => h) (Or.inl ⟨by rfl, ?_⟩) hS ?_
        rotate_left
        · intro w' hSw; have q0 := (hSw.cell (p := ⟨w.heap.size, 0, none⟩) hxl9).trans x0; have q1 := (hSw.cell (p := ⟨w.heap.size, 1, none⟩) hxl9).trans x1; have q2 := (hSw.cell (p := ⟨w.heap.size, 2, none⟩) hxl9).trans x2; have q3 := (hSw.cell (p := ⟨w.heap.size, 3, none⟩) hxl9).trans x3; have q4 := (hSw.cell (p := ⟨w.heap.size, 4, none⟩) hxl9).trans x4; have q5 := (hSw.cell (p := ⟨w.heap.size, 5, none⟩) hxl9).trans x5; have q6 := (hSw.cell (p := ⟨bx0, ox0, none⟩) hbx9).trans hcx9; go_simp; try with_reducible rfl
        try simp only [Act.put, List.setIfInBounds_toArray, List.set_cons_zero, List.set_cons_succ]
        refine wpAnyF_ready (rs := [12]) (by kernel_rfl) (by simp) ?_
        refine AllReadyF.cons (o := { dst := some 150, op := Go.Op.call { callee := Go.Callee.value (Go.Operand.func 14), args := #[Go.Operand.tmp 139, Go.Operand.tmp 141, Go.Operand.tmp 143, Go.Operand.tmp 145, Go.Operand.tmp 149], argTypes := #[24, 3, 3, 26, 26] }, type := 48, pos := "law.go:156", after := #[{ on := 1, ground := Go.Ground.data }, { on := 3, ground := Go.Ground.data }, { on := 5, ground := Go.Ground.data }, { on := 7, ground := Go.Ground.data }, { on := 11, ground := Go.Ground.data }], guard := none }) rfl (by rfl) (fun K hK => ?_) ?_
        · go_simp
          refine (refPackage_any n bs buyer r tr t0 _ _ _ R Rt _ w9.drew (HBX.out.grow (HBW3.out.trans (HK9.out.drew.mono HBW3.out.size))) (HTX.out.grow (HBW3.out.trans (HK9.out.drew.mono HBW3.out.size))) ((HOX0.out.grow HK89.out).grow (Below.refl _ _).drew) hb hr).mono ?_
          rintro e w10 ⟨rfl, hb10⟩
          rw [HPV.out]
          refine hK.out _ _ ?_ (fun hS => ?_)
          · exact (Below.refl w9.heap.size w9).drew.trans (hb10.mono (by simp))
          clear hK K
          try simp only [Act.put, List.setIfInBounds_toArray, List.set_cons_zero, List.set_cons_succ]
          have hb10' := (Below.refl w9.heap.size w9).drew.trans (hb10.mono (by simp))
          have HK910 := Lib.hid hb10'
          clear hb10 hb10'
          
          refine wpAnyF_take (i := 13) (oi := { dst := some 137, op := Go.Op.move (Go.Operand.tmp 150), type := 48, pos := "law.go:156", after := #[{ on := 12, ground := Go.Ground.data }], guard := none }) (v := ?_) rfl (by kernel_rfl) (by kernel_rfl) (by kernel_rfl) (by kernel_rfl) (fun _ _ _ h => h) (Or.inl ⟨by rfl, ?_⟩) hS ?_
          rotate_left
          · intro w' hSw; have q0 := (hSw.cell (p := ⟨w.heap.size, 0, none⟩) hxl9).trans x0; have q1 := (hSw.cell (p := ⟨w.heap.size, 1, none⟩) hxl9).trans x1; have q2 := (hSw.cell (p := ⟨w.heap.size, 2, none⟩) hxl9).trans x2; have q3 := (hSw.cell (p := ⟨w.heap.size, 3, none⟩) hxl9).trans x3; have q4 := (hSw.cell (p := ⟨w.heap.size, 4, none⟩) hxl9).trans x4; have q5 := (hSw.cell (p := ⟨w.heap.size, 5, none⟩) hxl9).trans x5; have q6 := (hSw.cell (p := ⟨bx0, ox0, none⟩) hbx9).trans hcx9; go_simp; try with_reducible rfl
          try simp only [Act.put, List.setIfInBounds_toArray, List.set_cons_zero, List.set_cons_succ]
          refine wpAnyF_take (i := 14) (oi := { dst := some 151, op := Go.Op.extract (Go.Operand.tmp 137) 0, type := 2, pos := "law.go:156", after := #[{ on := 13, ground := Go.Ground.data }], guard := none }) (v := ?_) rfl (by kernel_rfl) (by kernel_rfl) (by kernel_rfl) (by kernel_rfl) (fun _ _ _ h => h) (Or.inl ⟨by rfl, ?_⟩) hS ?_
          rotate_left
          · intro w' hSw; have q0 := (hSw.cell (p := ⟨w.heap.size, 0, none⟩) hxl9).trans x0; have q1 := (hSw.cell (p := ⟨w.heap.size, 1, none⟩) hxl9).trans x1; have q2 := (hSw.cell (p := ⟨w.heap.size, 2, none⟩) hxl9).trans x2; have q3 := (hSw.cell (p := ⟨w.heap.size, 3, none⟩) hxl9).trans x3; have q4 := (hSw.cell (p := ⟨w.heap.size, 4, none⟩) hxl9).trans x4; have q5 := (hSw.cell (p := ⟨w.heap.size, 5, none⟩) hxl9).trans x5; have q6 := (hSw.cell (p := ⟨bx0, ox0, none⟩) hbx9).trans hcx9; go_simp; try with_reducible rfl
          try simp only [Act.put, List.setIfInBounds_toArray, List.set_cons_zero, List.set_cons_succ]
          refine wpAnyF_take (i := 15) (oi := { dst := some 152, op := Go.Op.extract (Go.Operand.tmp 137) 1, type := 2, pos := "law.go:156", after := #[{ on := 13, ground := Go.Ground.data }, { on := 17, ground := Go.Ground.gcOnly Go.Departure.lateStores }], guard := none }) (v := ?_) rfl (by kernel_rfl) (by kernel_rfl) (by kernel_rfl) (by kernel_rfl) (fun _ _ _ h => h) (Or.inl ⟨by rfl, ?_⟩) hS ?_
          rotate_left
          · intro w' hSw; have q0 := (hSw.cell (p := ⟨w.heap.size, 0, none⟩) hxl9).trans x0; have q1 := (hSw.cell (p := ⟨w.heap.size, 1, none⟩) hxl9).trans x1; have q2 := (hSw.cell (p := ⟨w.heap.size, 2, none⟩) hxl9).trans x2; have q3 := (hSw.cell (p := ⟨w.heap.size, 3, none⟩) hxl9).trans x3; have q4 := (hSw.cell (p := ⟨w.heap.size, 4, none⟩) hxl9).trans x4; have q5 := (hSw.cell (p := ⟨w.heap.size, 5, none⟩) hxl9).trans x5; have q6 := (hSw.cell (p := ⟨bx0, ox0, none⟩) hbx9).trans hcx9; go_simp; try with_reducible rfl
          try simp only [Act.put, List.setIfInBounds_toArray, List.set_cons_zero, List.set_cons_succ]
          refine wpAnyF_take (i := 16) (oi := { dst := some 153, op := Go.Op.extract (Go.Operand.tmp 137) 2, type := 3, pos := "law.go:156", after := #[{ on := 13, ground := Go.Ground.data }, { on := 18, ground := Go.Ground.gcOnly Go.Departure.lateStores }], guard := none }) (v := ?_) rfl (by kernel_rfl) (by kernel_rfl) (by kernel_rfl) (by kernel_rfl) (fun _ _ _ h => h) (Or.inl ⟨by rfl, ?_⟩) hS ?_
          rotate_left
          · intro w' hSw; have q0 := (hSw.cell (p := ⟨w.heap.size, 0, none⟩) hxl9).trans x0; have q1 := (hSw.cell (p := ⟨w.heap.size, 1, none⟩) hxl9).trans x1; have q2 := (hSw.cell (p := ⟨w.heap.size, 2, none⟩) hxl9).trans x2; have q3 := (hSw.cell (p := ⟨w.heap.size, 3, none⟩) hxl9).trans x3; have q4 := (hSw.cell (p := ⟨w.heap.size, 4, none⟩) hxl9).trans x4; have q5 := (hSw.cell (p := ⟨w.heap.size, 5, none⟩) hxl9).trans x5; have q6 := (hSw.cell (p := ⟨bx0, ox0, none⟩) hbx9).trans hcx9; go_simp; try with_reducible rfl
          try simp only [Act.put, List.setIfInBounds_toArray, List.set_cons_zero, List.set_cons_succ]
          refine wpAnyF_take (i := 17) (oi := { dst := some 19, op := Go.Op.assign (Go.Operand.tmp 151), type := 2, pos := "law.go:156", after := #[{ on := 14, ground := Go.Ground.data }, { on := 12, ground := Go.Ground.chain }, { on := 0, ground := Go.Ground.phase }, { on := 1, ground := Go.Ground.phase }, { on := 2, ground := Go.Ground.phase }, { on := 3, ground := Go.Ground.phase }, { on := 4, ground := Go.Ground.phase }, { on := 5, ground := Go.Ground.phase }, { on := 6, ground := Go.Ground.phase }, { on := 7, ground := Go.Ground.phase }, { on := 8, ground := Go.Ground.phase }, { on := 9, ground := Go.Ground.phase }, { on := 10, ground := Go.Ground.phase }, { on := 11, ground := Go.Ground.phase }, { on := 12, ground := Go.Ground.phase }, { on := 13, ground := Go.Ground.phase }, { on := 14, ground := Go.Ground.phase }, { on := 15, ground := Go.Ground.textOnly Go.Departure.lateStores }, { on := 16, ground := Go.Ground.textOnly Go.Departure.lateStores }], guard := none }) (v := ?_) rfl (by kernel_rfl) (by kernel_rfl) (by kernel_rfl) (by kernel_rfl) (fun _ _ _ h => h) (Or.inl ⟨by rfl, ?_⟩) hS ?_
          rotate_left
          · intro w' hSw; have q0 := (hSw.cell (p := ⟨w.heap.size, 0, none⟩) hxl9).trans x0; have q1 := (hSw.cell (p := ⟨w.heap.size, 1, none⟩) hxl9).trans x1; have q2 := (hSw.cell (p := ⟨w.heap.size, 2, none⟩) hxl9).trans x2; have q3 := (hSw.cell (p := ⟨w.heap.size, 3, none⟩) hxl9).trans x3; have q4 := (hSw.cell (p := ⟨w.heap.size, 4, none⟩) hxl9).trans x4; have q5 := (hSw.cell (p := ⟨w.heap.size, 5, none⟩) hxl9).trans x5; have q6 := (hSw.cell (p := ⟨bx0, ox0, none⟩) hbx9).trans hcx9; go_simp; try with_reducible rfl
          try simp only [Act.put, List.setIfInBounds_toArray, List.set_cons_zero, List.set_cons_succ]
          refine wpAnyF_take (i := 18) (oi := { dst := some 20, op := Go.Op.assign (Go.Operand.tmp 152), type := 2, pos := "law.go:156", after := #[{ on := 15, ground := Go.Ground.data }, { on := 17, ground := Go.Ground.chain }, { on := 0, ground := Go.Ground.phase }, { on := 1, ground := Go.Ground.phase }, { on := 2, ground := Go.Ground.phase }, { on := 3, ground := Go.Ground.phase }, { on := 4, ground := Go.Ground.phase }, { on := 5, ground := Go.Ground.phase }, { on := 6, ground := Go.Ground.phase }, { on := 7, ground := Go.Ground.phase }, { on := 8, ground := Go.Ground.phase }, { on := 9, ground := Go.Ground.phase }, { on := 10, ground := Go.Ground.phase }, { on := 11, ground := Go.Ground.phase }, { on := 12, ground := Go.Ground.phase }, { on := 13, ground := Go.Ground.phase }, { on := 14, ground := Go.Ground.phase }, { on := 15, ground := Go.Ground.phase }, { on := 16, ground := Go.Ground.textOnly Go.Departure.lateStores }, { on := 17, ground := Go.Ground.phase }], guard := none }) (v := ?_) rfl (by kernel_rfl) (by kernel_rfl) (by kernel_rfl) (by kernel_rfl) (fun _ _ _ h => h) (Or.inl ⟨by rfl, ?_⟩) hS ?_
          rotate_left
          · intro w' hSw; have q0 := (hSw.cell (p := ⟨w.heap.size, 0, none⟩) hxl9).trans x0; have q1 := (hSw.cell (p := ⟨w.heap.size, 1, none⟩) hxl9).trans x1; have q2 := (hSw.cell (p := ⟨w.heap.size, 2, none⟩) hxl9).trans x2; have q3 := (hSw.cell (p := ⟨w.heap.size, 3, none⟩) hxl9).trans x3; have q4 := (hSw.cell (p := ⟨w.heap.size, 4, none⟩) hxl9).trans x4; have q5 := (hSw.cell (p := ⟨w.heap.size, 5, none⟩) hxl9).trans x5; have q6 := (hSw.cell (p := ⟨bx0, ox0, none⟩) hbx9).trans hcx9; go_simp; try with_reducible rfl
          try simp only [Act.put, List.setIfInBounds_toArray, List.set_cons_zero, List.set_cons_succ]
          refine wpAnyF_take (i := 19) (oi := { dst := some 21, op := Go.Op.assign (Go.Operand.tmp 153), type := 3, pos := "law.go:156", after := #[{ on := 16, ground := Go.Ground.data }, { on := 18, ground := Go.Ground.chain }, { on := 0, ground := Go.Ground.phase }, { on := 1, ground := Go.Ground.phase }, { on := 2, ground := Go.Ground.phase }, { on := 3, ground := Go.Ground.phase }, { on := 4, ground := Go.Ground.phase }, { on := 5, ground := Go.Ground.phase }, { on := 6, ground := Go.Ground.phase }, { on := 7, ground := Go.Ground.phase }, { on := 8, ground := Go.Ground.phase }, { on := 9, ground := Go.Ground.phase }, { on := 10, ground := Go.Ground.phase }, { on := 11, ground := Go.Ground.phase }, { on := 12, ground := Go.Ground.phase }, { on := 13, ground := Go.Ground.phase }, { on := 14, ground := Go.Ground.phase }, { on := 15, ground := Go.Ground.phase }, { on := 16, ground := Go.Ground.phase }, { on := 17, ground := Go.Ground.phase }, { on := 18, ground := Go.Ground.phase }], guard := none }) (v := ?_) rfl (by kernel_rfl) (by kernel_rfl) (by kernel_rfl) (by kernel_rfl) (fun _ _ _ h => h) (Or.inl ⟨by rfl, ?_⟩) hS ?_
          rotate_left
          · intro w' hSw; have q0 := (hSw.cell (p := ⟨w.heap.size, 0, none⟩) hxl9).trans x0; have q1 := (hSw.cell (p := ⟨w.heap.size, 1, none⟩) hxl9).trans x1; have q2 := (hSw.cell (p := ⟨w.heap.size, 2, none⟩) hxl9).trans x2; have q3 := (hSw.cell (p := ⟨w.heap.size, 3, none⟩) hxl9).trans x3; have q4 := (hSw.cell (p := ⟨w.heap.size, 4, none⟩) hxl9).trans x4; have q5 := (hSw.cell (p := ⟨w.heap.size, 5, none⟩) hxl9).trans x5; have q6 := (hSw.cell (p := ⟨bx0, ox0, none⟩) hbx9).trans hcx9; go_simp; try with_reducible rfl
          try simp only [Act.put, List.setIfInBounds_toArray, List.set_cons_zero, List.set_cons_succ]
          refine wpAnyF_done (by kernel_rfl) ?_ _
          clear hS x0 x1 x2 x3 x4 x5 hcx9 hbx9
          have HK10 := Lib.hid (HK9.out.trans (HK910.out.mono HK9.out.size))
          have HK10E := Lib.hid (HK9E.out.trans (HK910.out.mono HK9E.out.size))
          have hx := HX3.out.grow HK10.out
          have x0 : w10.cell? ⟨w.heap.size, 0, none⟩ = some (.int .i64 n) := hx.cell 0
          have x1 : w10.cell? ⟨w.heap.size, 1, none⟩ = some (.slice Axb bs.length cxb) := hx.cell 1
          have x2 : w10.cell? ⟨w.heap.size, 2, none⟩ = some (.int .i64 buyer) := hx.cell 2
          have x3 : w10.cell? ⟨w.heap.size, 3, none⟩ = some (.int .i64 r) := hx.cell 3
          have x4 : w10.cell? ⟨w.heap.size, 4, none⟩ = some (.slice Axt tr.length cxt) := hx.cell 4
          have x5 : w10.cell? ⟨w.heap.size, 5, none⟩ = some (.slice (some ⟨bx0, ox0, none⟩) ts.length cxs) := hx.cell 5
          clear hx
          have hy := HY3.out.grow HK10.out
          have y0 : w10.cell? ⟨yb, 0, none⟩ = some (.int .i64 n) := hy.cell 0
          have y1 : w10.cell? ⟨yb, 1, none⟩ = some (.slice Ab bs.length cb) := hy.cell 1
          have y2 : w10.cell? ⟨yb, 2, none⟩ = some (.int .i64 buyer) := hy.cell 2
          have y3 : w10.cell? ⟨yb, 3, none⟩ = some (.int .i64 r) := hy.cell 3
          have y4 : w10.cell? ⟨yb, 4, none⟩ = some (.slice (some ⟨g, 0, none⟩) tr.length c) := hy.cell 4
          have y5 : w10.cell? ⟨yb, 5, none⟩ = some (.slice (some ⟨by0, oy0, none⟩) ts.length ct) := hy.cell 5
          clear hy
          go_wp2_with fail
          refine (num29_any z2 hsm2.1 hsm2.2 w10).mono ?_
          rintro e _ ⟨rfl, rfl⟩
          go_wp2_with fail
          refine (remains29_any n bs buyer r tr ts _ _ _ _ g c cb ct Ab (some ⟨by0, oy0, none⟩) R Rt Rs w10 (HBX.out.grow (HBW3.out.trans (HK10.out.mono HBW3.out.size))) (HTX.out.grow (HBW3.out.trans (HK10.out.mono HBW3.out.size))) (HSX.out.grow (HBW3.out.trans (HK10.out.mono HBW3.out.size))) (HYT.out.grow HK10.out) (HYB.out.grow HK10.out) (HYS.out.grow HK10.out) hbl40 htl40 HB40.out HT40.out htr).mono ?_
          rintro e w11 ⟨rfl, hb11⟩
          have HK11E := Lib.hid (HK10E.out.trans (hb11.mono HK10E.out.size))
          have HK11 := Lib.hid (HK10.out.trans (hb11.mono HK10.out.size))
          clear hb11
          have HK11F := Lib.hid (HK45.out.trans (HK11E.out.mono HK45.out.size))
          clear x0 x1 x2 x3 x4 x5 y0 y1 y2 y3 y4 y5
          obtain ⟨At, hAt⟩ : ∃ z : Option Addr, z = some ⟨by0, oy0, none⟩ := ⟨_, rfl⟩
          rw [← hAt] at HYS2 HY3 HYS ⊢
          clear hAt
          have HYZ := Lib.hid (HY3.out.grow HK11.out)
          have HYL := Lib.hid (show yb < w11.heap.size from (HY3.out.grow HK11.out).lt)
          have HZ := Lib.hid (show GvZ w1.heap.size w2.heap.size g c (.slice Ab bs.length cb) (.slice At ts.length ct) tr bs ts w w11 w11 from ⟨HYB2.out.givX (Nat.le_refl _) (HB23.out.trans (HK11.out.mono HB23.out.size)), HYS2.out.givX (Nat.le_refl _) (HB23.out.trans (HK11.out.mono HB23.out.size)), ⟨_, (HYT.out.grow HK11.out).1⟩, HYT2.out.mark.2.2.2.2.2, KOut.refl _ _ _, HBW3.out.trans (HK11.out.mono HBW3.out.size)⟩)
          have HK11X := Lib.hid (show Below w4.heap.size w4 w11 from HK11F.out)
          have HK11L := Lib.hid (show Below w5.heap.size w5 w11 from HK11E.out)
          go_wp2_with fail
          go_loopw [22] (fun i wr => ∃ k : Nat, k ≤ ts.length ∧ i = .int .i64 k ∧ GvZ w1.heap.size w2.heap.size g c (.slice Ab bs.length cb) (.slice At ts.length ct) tr bs ts w w11 wr) (fun i _ => ts.length - (intOf i).toNat)
          case atStart => exact ⟨0, Nat.zero_le _, rfl, HZ.out⟩
          case round =>
            obtain ⟨k, hk, rfl, hz⟩ := hrel
            have hyk := (hz.old.same yb (by have := HYL.out; omega) (.inr hyb))
            have hyw := (HYZ.out.keep hyk)
            have y5 : wr.cell? ⟨yb, 5, none⟩ = some (.slice At ts.length ct) := hyw.cell 5
            have HZO := Lib.hid hz
            clear hyk hyw
            by_cases hlt : k < ts.length
            · obtain ⟨lk, hlk⟩ : ∃ lk, ts[k]? = some lk := ⟨_, List.getElem?_eq_getElem hlt⟩
              obtain ⟨ba, oa, g2, cl, ys0, hAa, hba, hca, hg1, hg2, hrw0⟩ := hz.ot.at_ hlk rfl
              have HLK := Lib.hid hlk
              have hlk40 := HT40.out lk (List.mem_of_getElem? hlk)
              have e0 : (0 : Int) ≤ (k : Int) := by omega
              have e1 : (k : Int) < (ts.length : Int) := by omega
              subst hAa
              clear hz hlk hrw0
              go_wp2_with fail
              obtain ⟨wi, hwi⟩ : ∃ z, z = wr := ⟨_, rfl⟩
              rw [← hwi] at HZO ⊢
              clear hwi y5 hca hba
              go_loopw [23] (fun i wk => ∃ q : Nat, q ≤ lk.length ∧ i = .int .i64 q ∧ GvZ w1.heap.size w2.heap.size g c (.slice Ab bs.length cb) (.slice (some ⟨ba, oa, none⟩) ts.length ct) tr bs ts w w11 wk) (fun i _ => lk.length - (intOf i).toNat)
              case atStart => exact ⟨0, Nat.zero_le _, rfl, HZO.out⟩
              case round =>
                obtain ⟨q, hq, rfl, hzk⟩ := hrel
                obtain ⟨ba', oa', g2', cl', ys, hAa', hba', hca', hg1', hg2', hry⟩ := hzk.ot.at_ HLK.out rfl
                injection hAa' with hAa'
                injection hAa' with eA eB
                subst eA eB
                have hyk := (hzk.old.same yb (by have := HYL.out; omega) (.inr hyb)) 
                have hyw := (HYZ.out.keep hyk)
                have y5 : wr.cell? ⟨yb, 5, none⟩ = some (.slice (some ⟨ba, oa, none⟩) ts.length ct) := hyw.cell 5
                have HZQ := Lib.hid hzk
                clear hyk hyw
                by_cases hqlt : q < lk.length
                · have hyl : ys.length = (lk.length + 1) * 2 := hry.1
                  obtain ⟨u0, hu0⟩ : ∃ u, ys[q * 2]? = some u := ⟨_, List.getElem?_eq_getElem (by omega)⟩
                  obtain ⟨u1, hu1⟩ : ∃ u, ys[q * 2 + 1]? = some u := ⟨_, List.getElem?_eq_getElem (by omega)⟩
                  have d0 : wr.cell? ⟨g2', q * 2, none⟩ = some u0 := (hry.cellAt (q * 2) (by omega)).trans hu0
                  have d1 : wr.cell? ⟨g2', q * 2 + 1, none⟩ = some u1 := (hry.cellAt (q * 2 + 1) (by omega)).trans hu1
                  have f0 := hry.frozenAt (q * 2)
                  have f1 := hry.frozenAt (q * 2 + 1)
                  have HRY := Lib.hid hry
                  have e2 : (0 : Int) ≤ (q : Int) := by omega
                  have e3 : (q : Int) < (lk.length : Int) := by omega
                  clear hzk hry hu0 hu1 hyl
                  go_wp2_with fail
                  go_roundw
                  case rel =>
                    have s1 := (HRY.out.stored (q * 2) (.int .u32 1)).1
                    exact ⟨q + 1, by omega, by go_num, (HZQ.out.set hwla HRY.out hg2' (q * 2) (.int .u32 1)).set hwla s1 hg2' (q * 2 + 1) (.int .i64 1)⟩
                  case measure => simp [intOf]; omega
                · obtain rfl : q = lk.length := by omega
                  clear hzk hry
                  go_wp2_with fail
                  go_roundw
                  case rel => exact ⟨k + 1, by omega, by go_num, HZQ.out⟩
                  case measure => simp [intOf]; omega
            · obtain rfl : k = ts.length := by omega
              clear hz
              go_wp2_with fail
              obtain ⟨wo, hwo⟩ : ∃ z, z = wr := ⟨_, rfl⟩
              rw [← hwo] at HZO ⊢
              have HZ := HZO
              clear hwo y5 hk hlt HZO
              go_loopw [24] (fun i wr => ∃ k : Nat, k ≤ bs.length ∧ i = .int .i64 k ∧ GvZ w1.heap.size w2.heap.size g c (.slice Ab bs.length cb) (.slice At ts.length ct) tr bs ts w w11 wr) (fun i _ => bs.length - (intOf i).toNat)
              case atStart => exact ⟨0, Nat.zero_le _, rfl, HZ.out⟩
              case round =>
                obtain ⟨k, hk, rfl, hz⟩ := hrel
                have hyk := (hz.old.same yb (by have := HYL.out; omega) (.inr hyb))
                have hyw := (HYZ.out.keep hyk)
                have y1 : wr.cell? ⟨yb, 1, none⟩ = some (.slice Ab bs.length cb) := hyw.cell 1
                have HZO := Lib.hid hz
                clear hyk hyw
                by_cases hlt : k < bs.length
                · obtain ⟨lk, hlk⟩ : ∃ lk, bs[k]? = some lk := ⟨_, List.getElem?_eq_getElem hlt⟩
                  obtain ⟨ba, oa, g2, cl, ys0, hAa, hba, hca, hg1, hg2, hrw0⟩ := hz.ob.at_ hlk rfl
                  have HLK := Lib.hid hlk
                  have hlk40 := HB40.out lk (List.mem_of_getElem? hlk)
                  have e0 : (0 : Int) ≤ (k : Int) := by omega
                  have e1 : (k : Int) < (bs.length : Int) := by omega
                  subst hAa
                  clear hz hlk hrw0
                  go_wp2_with fail
                  obtain ⟨wi, hwi⟩ : ∃ z, z = wr := ⟨_, rfl⟩
                  rw [← hwi] at HZO ⊢
                  clear hwi y1 hca hba
                  go_loopw [25] (fun i wk => ∃ q : Nat, q ≤ lk.length ∧ i = .int .i64 q ∧ GvZ w1.heap.size w2.heap.size g c (.slice (some ⟨ba, oa, none⟩) bs.length cb) (.slice At ts.length ct) tr bs ts w w11 wk) (fun i _ => lk.length - (intOf i).toNat)
                  case atStart => exact ⟨0, Nat.zero_le _, rfl, HZO.out⟩
                  case round =>
                    obtain ⟨q, hq, rfl, hzk⟩ := hrel
                    obtain ⟨ba', oa', g2', cl', ys, hAa', hba', hca', hg1', hg2', hry⟩ := hzk.ob.at_ HLK.out rfl
                    injection hAa' with hAa'
                    injection hAa' with eA eB
                    subst eA eB
                    have hyk := (hzk.old.same yb (by have := HYL.out; omega) (.inr hyb)) 
                    have hyw := (HYZ.out.keep hyk)
                    have y1 : wr.cell? ⟨yb, 1, none⟩ = some (.slice (some ⟨ba, oa, none⟩) bs.length cb) := hyw.cell 1
                    have HZQ := Lib.hid hzk
                    clear hyk hyw
                    by_cases hqlt : q < lk.length
                    · have hyl : ys.length = (lk.length + 1) * 2 := hry.1
                      obtain ⟨u0, hu0⟩ : ∃ u, ys[q * 2]? = some u := ⟨_, List.getElem?_eq_getElem (by omega)⟩
                      obtain ⟨u1, hu1⟩ : ∃ u, ys[q * 2 + 1]? = some u := ⟨_, List.getElem?_eq_getElem (by omega)⟩
                      have d0 : wr.cell? ⟨g2', q * 2, none⟩ = some u0 := (hry.cellAt (q * 2) (by omega)).trans hu0
                      have d1 : wr.cell? ⟨g2', q * 2 + 1, none⟩ = some u1 := (hry.cellAt (q * 2 + 1) (by omega)).trans hu1
                      have f0 := hry.frozenAt (q * 2)
                      have f1 := hry.frozenAt (q * 2 + 1)
                      have HRY := Lib.hid hry
                      have e2 : (0 : Int) ≤ (q : Int) := by omega
                      have e3 : (q : Int) < (lk.length : Int) := by omega
                      clear hzk hry hu0 hu1 hyl
                      go_wp2_with fail
                      go_roundw
                      case rel =>
                        have s1 := (HRY.out.stored (q * 2) (.int .u32 1)).1
                        exact ⟨q + 1, by omega, by go_num, (HZQ.out.set hwla HRY.out hg2' (q * 2) (.int .u32 1)).set hwla s1 hg2' (q * 2 + 1) (.int .i64 1)⟩
                      case measure => simp [intOf]; omega
                    · obtain rfl : q = lk.length := by omega
                      clear hzk hry
                      go_wp2_with fail
                      go_roundw
                      case rel => exact ⟨k + 1, by omega, by go_num, HZQ.out⟩
                      case measure => simp [intOf]; omega
                · obtain rfl : k = bs.length := by omega
                  clear hz
                  go_wp2_with fail
                  obtain ⟨wo, hwo⟩ : ∃ z, z = wr := ⟨_, rfl⟩
                  rw [← hwo] at HZO ⊢
                  have HZ := HZO
                  clear hwo y1 hk hlt HZO
                  go_loopw [26] (fun i wr => ∃ k : Nat, k ≤ tr.length ∧ i = .int .i64 k ∧ GvZ w1.heap.size w2.heap.size g c (.slice Ab bs.length cb) (.slice At ts.length ct) tr bs ts w w11 wr) (fun i _ => tr.length - (intOf i).toNat)
                  case atStart => exact ⟨0, Nat.zero_le _, rfl, HZ.out⟩
                  case round =>
                    obtain ⟨k, hk, rfl, hz⟩ := hrel
                    have hyk := (hz.old.same yb (by have := HYL.out; omega) (.inr hyb))
                    have hyw := (HYZ.out.keep hyk)
                    have y4 : wr.cell? ⟨yb, 4, none⟩ = some (.slice (some ⟨g, 0, none⟩) tr.length c) := hyw.cell 4
                    have HZO := Lib.hid hz
                    clear hyk hyw
                    by_cases hlt : k < tr.length
                    · obtain ⟨ys, hry⟩ := hz.tt
                      have hyl : ys.length = (tr.length + 1) * 2 := hry.1
                      obtain ⟨u1, hu1⟩ : ∃ u, ys[k * 2 + 1]? = some u := ⟨_, List.getElem?_eq_getElem (by omega)⟩
                      have d1 : wr.cell? ⟨g, k * 2 + 1, none⟩ = some u1 := (hry.cellAt (k * 2 + 1) (by omega)).trans hu1
                      have f1 := hry.frozenAt (k * 2 + 1)
                      have HRY := Lib.hid hry
                      have e0 : (0 : Int) ≤ (k : Int) := by omega
                      have e1 : (k : Int) < (tr.length : Int) := by omega
                      clear hz hry hu1 hyl
                      go_wp2_with fail
                      go_roundw
                      case rel => exact ⟨k + 1, by omega, by go_num, HZO.out.set hwla HRY.out HZO.out.gh (k * 2 + 1) (.int .i64 1)⟩
                      case measure => simp [intOf]; omega
                    · obtain rfl : k = tr.length := by omega
                      clear hz
                      have hzz := HZO.out
                      have hszz := hzz.old.size
                      have hsame : ∀ b, b < w11.heap.size → w2.heap.size ≤ b → wr.heap[b]? = w11.heap[b]? := fun b h1 h2 => hzz.old.same b h1 (.inr h2)
                      have HBE := Lib.hid hzz.bel
                      have HSAME := Lib.hid hsame
                      have HSZZ := Lib.hid hszz
                      clear hzz hszz hsame
                      rcases HCA.out with ⟨hz0, hwv⟩ | ⟨hz0, q, g14, g12, hbq, hTr, hwv⟩
                      · have hzb : (z != 0) = true := by simpa using hz0
                        subst hwv
                        have heq := eql_it_nil
                        clear hz0
                        go_wp2_with fail
                        refine (works29_any wr).mono ?_
                        rintro e wf ⟨rfl, hbf⟩
                        have HBF := Lib.hid (HBE.out.trans (hbf.mono HBE.out.size))
                        clear hbf
                        go_wp2_with fail
                        go_ret
                        exact ⟨rfl, HBF.out⟩
                      · obtain ⟨h1, h2, h3, h4, h5⟩ := askedE_zero (HZE.out.symm.trans hz0)
                        have hq : q < bs.length := by omega
                        have hlv := HCL.out.resolve_left (fun h => h.1 hz0)
                        obtain ⟨_, AL, clv, hlve, hown⟩ := hlv
                        have hqt : buyer.toNat = q := by omega
                        rw [hqt] at hown
                        have hTz := (hTr.grow4 HK11X.out).keep HSZZ.out (fun b hb hR => HSAME.out b hb (by have := HW23.out; omega))
                        have hLz := ((Sl.of_own hown).grow HK11L.out).keep HSZZ.out (fun b hb hR => HSAME.out b hb (by have := (hown.lt b hR).1; have := HW24.out; omega))
                        subst hz0 hwv hlve
                        have HTz := Lib.hid hTz
                        have HLz := Lib.hid hLz
                        have HR4 := Lib.hid h4
                        have HI1 := Lib.hid h1
                        have HCK := Lib.hid (fun l hl => h5 l (List.mem_cons_of_mem _ hl) : ∀ l ∈ ts, checkE n l = 0)
                        clear h1 h2 h3 h4 h5 hTr hown hTz hLz hqt hbq
                        go_wp2_with fail
                        refine (goes29_any _ _ g14 g12 clv AL n bs q r tr ts leave wr (by omega) HR4.out HI1.out hq HCK.out HTz.out HLz.out).mono ?_
                        rintro e wg ⟨rfl, hbg⟩
                        have HTg := Lib.hid (HTz.out.grow4 hbg)
                        have HLg := Lib.hid (HLz.out.grow hbg)
                        have HBG := Lib.hid (HBE.out.trans (hbg.mono HBE.out.size))
                        clear hbg
                        go_wp2_with fail
                        refine (goes29_any _ _ g14 g12 clv AL n bs q r tr ts 0 wg (by omega) HR4.out HI1.out hq HCK.out HTg.out HLg.out).mono ?_
                        rintro e wh ⟨rfl, hbh⟩
                        have HBH := Lib.hid (HBG.out.trans (hbh.mono HBG.out.size))
                        clear hbh
                        go_wp2_with fail
                        refine (works29_any wh).mono ?_
                        rintro e wf ⟨rfl, hbf⟩
                        have HBF := Lib.hid (HBH.out.trans (hbf.mono HBH.out.size))
                        clear hbf
                        go_wp2_with fail
                        go_ret
                        exact ⟨rfl, HBF.out⟩
        exact AllReadyF.nil
      exact AllReadyF.nil
    · have h0i : ¬ (0 : Int) < (ts.length : Int) := by omega
      go_wp2_with fail
      clear x0 x1 x2 x3 x4 x5 h0 h0i
      have HYZ := Lib.hid (HY3.out.grow HK8.out)
      have HYL := Lib.hid (show yb < w8.heap.size from (HY3.out.grow HK8.out).lt)
      have HZ := Lib.hid (show GvZ w1.heap.size w2.heap.size g c (.slice Ab bs.length cb) (.slice At ts.length ct) tr bs ts w w8 w8 from ⟨HYB2.out.givX (Nat.le_refl _) (HB23.out.trans (HK8.out.mono HB23.out.size)), HYS2.out.givX (Nat.le_refl _) (HB23.out.trans (HK8.out.mono HB23.out.size)), ⟨_, (HYT.out.grow HK8.out).1⟩, HYT2.out.mark.2.2.2.2.2, KOut.refl _ _ _, HBW3.out.trans (HK8.out.mono HBW3.out.size)⟩)
      have HK8X := Lib.hid (show Below w4.heap.size w4 w8 from HK8F.out)
      have HK8L := Lib.hid (show Below w5.heap.size w5 w8 from HK8E.out)
      go_wp2_with fail
      go_loopw [22] (fun i wr => ∃ k : Nat, k ≤ ts.length ∧ i = .int .i64 k ∧ GvZ w1.heap.size w2.heap.size g c (.slice Ab bs.length cb) (.slice At ts.length ct) tr bs ts w w8 wr) (fun i _ => ts.length - (intOf i).toNat)
      case atStart => exact ⟨0, Nat.zero_le _, rfl, HZ.out⟩
      case round =>
        obtain ⟨k, hk, rfl, hz⟩ := hrel
        have hyk := (hz.old.same yb (by have := HYL.out; omega) (.inr hyb))
        have hyw := (HYZ.out.keep hyk)
        have y5 : wr.cell? ⟨yb, 5, none⟩ = some (.slice At ts.length ct) := hyw.cell 5
        have HZO := Lib.hid hz
        clear hyk hyw
        by_cases hlt : k < ts.length
        · obtain ⟨lk, hlk⟩ : ∃ lk, ts[k]? = some lk := ⟨_, List.getElem?_eq_getElem hlt⟩
          obtain ⟨ba, oa, g2, cl, ys0, hAa, hba, hca, hg1, hg2, hrw0⟩ := hz.ot.at_ hlk rfl
          have HLK := Lib.hid hlk
          have hlk40 := HT40.out lk (List.mem_of_getElem? hlk)
          have e0 : (0 : Int) ≤ (k : Int) := by omega
          have e1 : (k : Int) < (ts.length : Int) := by omega
          subst hAa
          clear hz hlk hrw0
          go_wp2_with fail
          obtain ⟨wi, hwi⟩ : ∃ z, z = wr := ⟨_, rfl⟩
          rw [← hwi] at HZO ⊢
          clear hwi y5 hca hba
          go_loopw [23] (fun i wk => ∃ q : Nat, q ≤ lk.length ∧ i = .int .i64 q ∧ GvZ w1.heap.size w2.heap.size g c (.slice Ab bs.length cb) (.slice (some ⟨ba, oa, none⟩) ts.length ct) tr bs ts w w8 wk) (fun i _ => lk.length - (intOf i).toNat)
          case atStart => exact ⟨0, Nat.zero_le _, rfl, HZO.out⟩
          case round =>
            obtain ⟨q, hq, rfl, hzk⟩ := hrel
            obtain ⟨ba', oa', g2', cl', ys, hAa', hba', hca', hg1', hg2', hry⟩ := hzk.ot.at_ HLK.out rfl
            injection hAa' with hAa'
            injection hAa' with eA eB
            subst eA eB
            have hyk := (hzk.old.same yb (by have := HYL.out; omega) (.inr hyb)) 
            have hyw := (HYZ.out.keep hyk)
            have y5 : wr.cell? ⟨yb, 5, none⟩ = some (.slice (some ⟨ba, oa, none⟩) ts.length ct) := hyw.cell 5
            have HZQ := Lib.hid hzk
            clear hyk hyw
            by_cases hqlt : q < lk.length
            · have hyl : ys.length = (lk.length + 1) * 2 := hry.1
              obtain ⟨u0, hu0⟩ : ∃ u, ys[q * 2]? = some u := ⟨_, List.getElem?_eq_getElem (by omega)⟩
              obtain ⟨u1, hu1⟩ : ∃ u, ys[q * 2 + 1]? = some u := ⟨_, List.getElem?_eq_getElem (by omega)⟩
              have d0 : wr.cell? ⟨g2', q * 2, none⟩ = some u0 := (hry.cellAt (q * 2) (by omega)).trans hu0
              have d1 : wr.cell? ⟨g2', q * 2 + 1, none⟩ = some u1 := (hry.cellAt (q * 2 + 1) (by omega)).trans hu1
              have f0 := hry.frozenAt (q * 2)
              have f1 := hry.frozenAt (q * 2 + 1)
              have HRY := Lib.hid hry
              have e2 : (0 : Int) ≤ (q : Int) := by omega
              have e3 : (q : Int) < (lk.length : Int) := by omega
              clear hzk hry hu0 hu1 hyl
              go_wp2_with fail
              go_roundw
              case rel =>
                have s1 := (HRY.out.stored (q * 2) (.int .u32 1)).1
                exact ⟨q + 1, by omega, by go_num, (HZQ.out.set hwla HRY.out hg2' (q * 2) (.int .u32 1)).set hwla s1 hg2' (q * 2 + 1) (.int .i64 1)⟩
              case measure => simp [intOf]; omega
            · obtain rfl : q = lk.length := by omega
              clear hzk hry
              go_wp2_with fail
              go_roundw
              case rel => exact ⟨k + 1, by omega, by go_num, HZQ.out⟩
              case measure => simp [intOf]; omega
        · obtain rfl : k = ts.length := by omega
          clear hz
          go_wp2_with fail
          obtain ⟨wo, hwo⟩ : ∃ z, z = wr := ⟨_, rfl⟩
          rw [← hwo] at HZO ⊢
          have HZ := HZO
          clear hwo y5 hk hlt HZO
          go_loopw [24] (fun i wr => ∃ k : Nat, k ≤ bs.length ∧ i = .int .i64 k ∧ GvZ w1.heap.size w2.heap.size g c (.slice Ab bs.length cb) (.slice At ts.length ct) tr bs ts w w8 wr) (fun i _ => bs.length - (intOf i).toNat)
          case atStart => exact ⟨0, Nat.zero_le _, rfl, HZ.out⟩
          case round =>
            obtain ⟨k, hk, rfl, hz⟩ := hrel
            have hyk := (hz.old.same yb (by have := HYL.out; omega) (.inr hyb))
            have hyw := (HYZ.out.keep hyk)
            have y1 : wr.cell? ⟨yb, 1, none⟩ = some (.slice Ab bs.length cb) := hyw.cell 1
            have HZO := Lib.hid hz
            clear hyk hyw
            by_cases hlt : k < bs.length
            · obtain ⟨lk, hlk⟩ : ∃ lk, bs[k]? = some lk := ⟨_, List.getElem?_eq_getElem hlt⟩
              obtain ⟨ba, oa, g2, cl, ys0, hAa, hba, hca, hg1, hg2, hrw0⟩ := hz.ob.at_ hlk rfl
              have HLK := Lib.hid hlk
              have hlk40 := HB40.out lk (List.mem_of_getElem? hlk)
              have e0 : (0 : Int) ≤ (k : Int) := by omega
              have e1 : (k : Int) < (bs.length : Int) := by omega
              subst hAa
              clear hz hlk hrw0
              go_wp2_with fail
              obtain ⟨wi, hwi⟩ : ∃ z, z = wr := ⟨_, rfl⟩
              rw [← hwi] at HZO ⊢
              clear hwi y1 hca hba
              go_loopw [25] (fun i wk => ∃ q : Nat, q ≤ lk.length ∧ i = .int .i64 q ∧ GvZ w1.heap.size w2.heap.size g c (.slice (some ⟨ba, oa, none⟩) bs.length cb) (.slice At ts.length ct) tr bs ts w w8 wk) (fun i _ => lk.length - (intOf i).toNat)
              case atStart => exact ⟨0, Nat.zero_le _, rfl, HZO.out⟩
              case round =>
                obtain ⟨q, hq, rfl, hzk⟩ := hrel
                obtain ⟨ba', oa', g2', cl', ys, hAa', hba', hca', hg1', hg2', hry⟩ := hzk.ob.at_ HLK.out rfl
                injection hAa' with hAa'
                injection hAa' with eA eB
                subst eA eB
                have hyk := (hzk.old.same yb (by have := HYL.out; omega) (.inr hyb)) 
                have hyw := (HYZ.out.keep hyk)
                have y1 : wr.cell? ⟨yb, 1, none⟩ = some (.slice (some ⟨ba, oa, none⟩) bs.length cb) := hyw.cell 1
                have HZQ := Lib.hid hzk
                clear hyk hyw
                by_cases hqlt : q < lk.length
                · have hyl : ys.length = (lk.length + 1) * 2 := hry.1
                  obtain ⟨u0, hu0⟩ : ∃ u, ys[q * 2]? = some u := ⟨_, List.getElem?_eq_getElem (by omega)⟩
                  obtain ⟨u1, hu1⟩ : ∃ u, ys[q * 2 + 1]? = some u := ⟨_, List.getElem?_eq_getElem (by omega)⟩
                  have d0 : wr.cell? ⟨g2', q * 2, none⟩ = some u0 := (hry.cellAt (q * 2) (by omega)).trans hu0
                  have d1 : wr.cell? ⟨g2', q * 2 + 1, none⟩ = some u1 := (hry.cellAt (q * 2 + 1) (by omega)).trans hu1
                  have f0 := hry.frozenAt (q * 2)
                  have f1 := hry.frozenAt (q * 2 + 1)
                  have HRY := Lib.hid hry
                  have e2 : (0 : Int) ≤ (q : Int) := by omega
                  have e3 : (q : Int) < (lk.length : Int) := by omega
                  clear hzk hry hu0 hu1 hyl
                  go_wp2_with fail
                  go_roundw
                  case rel =>
                    have s1 := (HRY.out.stored (q * 2) (.int .u32 1)).1
                    exact ⟨q + 1, by omega, by go_num, (HZQ.out.set hwla HRY.out hg2' (q * 2) (.int .u32 1)).set hwla s1 hg2' (q * 2 + 1) (.int .i64 1)⟩
                  case measure => simp [intOf]; omega
                · obtain rfl : q = lk.length := by omega
                  clear hzk hry
                  go_wp2_with fail
                  go_roundw
                  case rel => exact ⟨k + 1, by omega, by go_num, HZQ.out⟩
                  case measure => simp [intOf]; omega
            · obtain rfl : k = bs.length := by omega
              clear hz
              go_wp2_with fail
              obtain ⟨wo, hwo⟩ : ∃ z, z = wr := ⟨_, rfl⟩
              rw [← hwo] at HZO ⊢
              have HZ := HZO
              clear hwo y1 hk hlt HZO
              go_loopw [26] (fun i wr => ∃ k : Nat, k ≤ tr.length ∧ i = .int .i64 k ∧ GvZ w1.heap.size w2.heap.size g c (.slice Ab bs.length cb) (.slice At ts.length ct) tr bs ts w w8 wr) (fun i _ => tr.length - (intOf i).toNat)
              case atStart => exact ⟨0, Nat.zero_le _, rfl, HZ.out⟩
              case round =>
                obtain ⟨k, hk, rfl, hz⟩ := hrel
                have hyk := (hz.old.same yb (by have := HYL.out; omega) (.inr hyb))
                have hyw := (HYZ.out.keep hyk)
                have y4 : wr.cell? ⟨yb, 4, none⟩ = some (.slice (some ⟨g, 0, none⟩) tr.length c) := hyw.cell 4
                have HZO := Lib.hid hz
                clear hyk hyw
                by_cases hlt : k < tr.length
                · obtain ⟨ys, hry⟩ := hz.tt
                  have hyl : ys.length = (tr.length + 1) * 2 := hry.1
                  obtain ⟨u1, hu1⟩ : ∃ u, ys[k * 2 + 1]? = some u := ⟨_, List.getElem?_eq_getElem (by omega)⟩
                  have d1 : wr.cell? ⟨g, k * 2 + 1, none⟩ = some u1 := (hry.cellAt (k * 2 + 1) (by omega)).trans hu1
                  have f1 := hry.frozenAt (k * 2 + 1)
                  have HRY := Lib.hid hry
                  have e0 : (0 : Int) ≤ (k : Int) := by omega
                  have e1 : (k : Int) < (tr.length : Int) := by omega
                  clear hz hry hu1 hyl
                  go_wp2_with fail
                  go_roundw
                  case rel => exact ⟨k + 1, by omega, by go_num, HZO.out.set hwla HRY.out HZO.out.gh (k * 2 + 1) (.int .i64 1)⟩
                  case measure => simp [intOf]; omega
                · obtain rfl : k = tr.length := by omega
                  clear hz
                  have hzz := HZO.out
                  have hszz := hzz.old.size
                  have hsame : ∀ b, b < w8.heap.size → w2.heap.size ≤ b → wr.heap[b]? = w8.heap[b]? := fun b h1 h2 => hzz.old.same b h1 (.inr h2)
                  have HBE := Lib.hid hzz.bel
                  have HSAME := Lib.hid hsame
                  have HSZZ := Lib.hid hszz
                  clear hzz hszz hsame
                  rcases HCA.out with ⟨hz0, hwv⟩ | ⟨hz0, q, g14, g12, hbq, hTr, hwv⟩
                  · have hzb : (z != 0) = true := by simpa using hz0
                    subst hwv
                    have heq := eql_it_nil
                    clear hz0
                    go_wp2_with fail
                    refine (works29_any wr).mono ?_
                    rintro e wf ⟨rfl, hbf⟩
                    have HBF := Lib.hid (HBE.out.trans (hbf.mono HBE.out.size))
                    clear hbf
                    go_wp2_with fail
                    go_ret
                    exact ⟨rfl, HBF.out⟩
                  · obtain ⟨h1, h2, h3, h4, h5⟩ := askedE_zero (HZE.out.symm.trans hz0)
                    have hq : q < bs.length := by omega
                    have hlv := HCL.out.resolve_left (fun h => h.1 hz0)
                    obtain ⟨_, AL, clv, hlve, hown⟩ := hlv
                    have hqt : buyer.toNat = q := by omega
                    rw [hqt] at hown
                    have hTz := (hTr.grow4 HK8X.out).keep HSZZ.out (fun b hb hR => HSAME.out b hb (by have := HW23.out; omega))
                    have hLz := ((Sl.of_own hown).grow HK8L.out).keep HSZZ.out (fun b hb hR => HSAME.out b hb (by have := (hown.lt b hR).1; have := HW24.out; omega))
                    subst hz0 hwv hlve
                    have HTz := Lib.hid hTz
                    have HLz := Lib.hid hLz
                    have HR4 := Lib.hid h4
                    have HI1 := Lib.hid h1
                    have HCK := Lib.hid (fun l hl => h5 l (List.mem_cons_of_mem _ hl) : ∀ l ∈ ts, checkE n l = 0)
                    clear h1 h2 h3 h4 h5 hTr hown hTz hLz hqt hbq
                    go_wp2_with fail
                    refine (goes29_any _ _ g14 g12 clv AL n bs q r tr ts leave wr (by omega) HR4.out HI1.out hq HCK.out HTz.out HLz.out).mono ?_
                    rintro e wg ⟨rfl, hbg⟩
                    have HTg := Lib.hid (HTz.out.grow4 hbg)
                    have HLg := Lib.hid (HLz.out.grow hbg)
                    have HBG := Lib.hid (HBE.out.trans (hbg.mono HBE.out.size))
                    clear hbg
                    go_wp2_with fail
                    refine (goes29_any _ _ g14 g12 clv AL n bs q r tr ts 0 wg (by omega) HR4.out HI1.out hq HCK.out HTg.out HLg.out).mono ?_
                    rintro e wh ⟨rfl, hbh⟩
                    have HBH := Lib.hid (HBG.out.trans (hbh.mono HBG.out.size))
                    clear hbh
                    go_wp2_with fail
                    refine (works29_any wh).mono ?_
                    rintro e wf ⟨rfl, hbf⟩
                    have HBF := Lib.hid (HBH.out.trans (hbf.mono HBH.out.size))
                    clear hbf
                    go_wp2_with fail
                    go_ret
                    exact ⟨rfl, HBF.out⟩
end Go.Proofs.YtcigobiolbojhaaGreat.Vb

/- Law 17's own: works. -/
import Derived.Test.YtcigobiolbojhaaWorks
namespace Go.Proofs.Ytcigobiolbojhaa.Vb
open Go.RowKit

theorem neq_func_nil (fn : Fn) (fi ca : Array Value) (W : World) : (binOp .neq 29 (.func fn fi ca) .nilFunc).run Try.prog W = .ok (.bool true) W := by kernel_rfl

set_option maxRecDepth 100000 in
set_option maxHeartbeats 1600000 in
theorem works_any (w : World) : Calls Try.prog 14 #[] w fun e w' => e = .returned (.bool true) ∧ Below w.heap.size w w' := by
  have hnf := neq_func_nil
  go_enter Try.func14, Try.ntmps14
  go_wp2_with (first
    | (go_at_call 76; have := HWO; refine (three_any w5).mono ?_; rintro e w6 ⟨T3, k3, rfl, ht3, hb6⟩; have hs6 := hb6.size; have HT3 := Lib.hid ht3; have HB6 := Lib.hid (HB5.out.trans (hb6.mono HB5.out.size)); have HQ6 := Lib.hid (HQ5.out.grow hb6); have HD6 := Lib.hid (own_grow HD5.out hb6); clear hb6 ht3)
    | (go_at_call 76; have := HC2; refine (three_any _).mono ?_; rintro e w4 ⟨T2, k2, rfl, ht2, hb4⟩; have hs4 := hb4.size; simp at hs4; have HT2 := Lib.hid ht2; have HQ4 := Lib.hid (HQ2.out.grow hb4); have HD4 := Lib.hid (own_grow (own_alloc HP2.out _) hb4); have HB4 := Lib.hid ((HB2.out.alloc HB2.out.size _).trans (hb4.mono (by have := HB2.out.size; simp; omega))); clear hb4 ht2)
    | (go_at_call 76; refine (three_any w).mono ?_; rintro e w1 ⟨T1, k1, rfl, ht1, hb1⟩; have HT1 := Lib.hid ht1; have HB1 := Lib.hid hb1; clear hb1 ht1)
    | (go_at_call 21; refine (costs_ok 2 bs3 _ _ _ HT1.out bs3_inst).mono ?_; rintro e w2 ⟨AC, cC, AP, cP, rfl, hownC, hownP, hb2⟩; rw [bs3_W]; have HC2 := Lib.hid hownC; have HP2 := Lib.hid hownP; have HB2 := Lib.hid (HB1.out.trans (hb2.mono HB1.out.size)); have HQ2 := Lib.hid (Blk.new w2 36 #[.slice AC 3 cC, .int .i64 11, .slice AP 3 cP]); clear hb2 hownC hownP)
    | (go_at_call 24; refine (vcgWithout_any 2 bs3 0 _ _ _ HT2.out).mono ?_; rintro e w5 ⟨rfl, hb5⟩; rw [bs3_wo, bs3_with]; have hs5 := hb5.size; have HWO := Lib.hid True.intro; have HQ5 := Lib.hid (HQ4.out.grow hb5); have HD5 := Lib.hid (own_grow HD4.out hb5); have HB5 := Lib.hid (HB4.out.trans (hb5.mono HB4.out.size)); clear hb5)
    | (go_at_call 16; refine (each_ok 2 bs3 _ _ _ HT3.out bs3_inst).mono ?_; rintro e w7 ⟨pb, pp, rfl, _, _, _, hb7⟩; have hD7 := own_grow HD6.out hb7; rw [bs3_pays] at hD7; obtain ⟨g, rfl, _, _, _, _, _⟩ := own_some hD7 (by decide); obtain ⟨q1, q2, c0, c1, c2⟩ : w7.cell? ⟨w2.heap.size, 1, none⟩ = some (.int .i64 11) ∧ w7.cell? ⟨w2.heap.size, 2, none⟩ = some (.slice (some ⟨g, 0, none⟩) 3 cP) ∧ w7.cell? ⟨g, 0, none⟩ = some (.int .i64 5) ∧ w7.cell? ⟨g, 1, none⟩ = some (.int .i64 4) ∧ w7.cell? ⟨g, 2, none⟩ = some (.int .i64 0) := ⟨(HQ6.out.grow hb7).cell 1, (HQ6.out.grow hb7).cell 2, hD7.cellAt 0 (by decide), hD7.cellAt 1 (by decide), hD7.cellAt 2 (by decide)⟩; have HB7 := Lib.hid (HB6.out.trans (hb7.mono HB6.out.size)); clear hb7 hD7)
    | (go_at_call 18; refine (num_any 0 (by decide) (by decide) _).mono ?_; rintro e w9 ⟨rfl, rfl⟩))
  go_ret
  exact ⟨rfl, HB7.out⟩
end Go.Proofs.Ytcigobiolbojhaa.Vb

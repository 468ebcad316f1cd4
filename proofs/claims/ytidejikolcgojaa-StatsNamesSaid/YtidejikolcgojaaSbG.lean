/- Stats: the walk of StatsNames. (Printed by tools/gen_sbg.py.) -/
import Derived.Test.YtidejikolcgojaaSbF
namespace Go.Proofs.Ytidejikolcgojaa.St
open Go.RowKit Go.Shelf
open Go.Proofs.Ytidejikolcgojaa.Vb Go.Proofs.Ytidejikolcgojaa.Ac
attribute [local go_sem] run_fadd run_fsub run_fmul run_fdiv run_store_float

set_option maxRecDepth 100000 in
set_option maxHeartbeats 8000000 in
theorem statsNames_walk (w : World) : Calls Try.prog 4 #[] w fun e w' => e = .returned (.bool true) ∧ Below w.heap.size w w' := by
  go_enter Try.func4, Try.ntmps4
  have HB0 := Lib.hid (Below.refl w.heap.size w)
  go_wp2_with fail
  refine (copysign_any w).mono ?_
  rintro e w0 ⟨rfl, hw0⟩
  rw [hw0]
  clear hw0 w0
  go_wp2_with fail
  refine (Ends_any (l := [0, nLow]) (fls_new _ [0, nLow] _ (by decide) (by decide)) (by decide)).mono ?_
  rintro e w1 ⟨rfl, hb1⟩
  have HB1 := Lib.hid ((HB0.out.alloc HB0.out.size _).trans (hb1.mono ((HB0.out.alloc HB0.out.size _).size)))
  obtain ⟨ea, hea⟩ : ∃ x, x = endA [0, nLow] := ⟨_, rfl⟩
  obtain ⟨eb, heb⟩ : ∃ x, x = endB [0, nLow] := ⟨_, rfl⟩
  have hok : (!(okL [0, nLow]).isEmpty) = true := by rw [j_okl1]; rfl
  rw [← hea, ← heb, hok]
  have HEA := Lib.hid (hea.trans j_endA)
  have HEB := Lib.hid (heb.trans j_endB)
  clear hea heb hok
  clear hb1
  go_wp2_with fail
  refine (nan_any _).mono ?_
  rintro e w0 ⟨rfl, hw0⟩
  rw [hw0]
  clear hw0 w0
  go_wp2_with fail
  refine (Ends_any (l := [nNaN]) (fls_new _ [nNaN] _ (by decide) (by decide)) (by decide)).mono ?_
  rintro e w2 ⟨rfl, hb2⟩
  have HB2 := Lib.hid ((HB1.out.alloc HB1.out.size _).trans (hb2.mono ((HB1.out.alloc HB1.out.size _).size)))
  obtain ⟨ec, hec⟩ : ∃ x, x = endA [nNaN] := ⟨_, rfl⟩
  obtain ⟨ed, hed⟩ : ∃ x, x = endB [nNaN] := ⟨_, rfl⟩
  have hok : (!(okL [nNaN]).isEmpty) = false := by rw [j_okl2]; rfl
  rw [← hec, ← hed, hok]
  clear hec hed hok
  clear hb2
  go_wp2_with fail
  refine (Middle_any (p := n2) (l := [n1]) (fls_new _ [n1] _ (by decide) (by decide)) (by decide)).mono ?_
  rintro e w3 ⟨r1, rfl, hr1, hb3⟩
  have HB3 := Lib.hid ((HB2.out.alloc HB2.out.size _).trans (hb3.mono ((HB2.out.alloc HB2.out.size _).size)))
  have q1 : (FloatKind.f64.format.order r1 r1 != some .eq) = true := (neq_self r1).trans (isF_none hr1 j_mid1)
  clear hr1
  clear hb3
  go_wp2_with fail
  refine (Unequal_any (l := []) (fls_nil _) (by decide)).mono ?_
  rintro e w4 ⟨r2, rfl, hr2, hb4⟩
  have HB4 := Lib.hid (HB3.out.trans (hb4.mono (HB3.out.size)))
  have q2 : (FloatKind.f64.format.order r2 r2 != some .eq) = true := (neq_self r2).trans (isF_none hr2 j_uneq)
  clear hr2
  clear hb4
  go_wp2_with fail
  refine (Shares_any (l := []) (fls_nil _)).mono ?_
  rintro e w5 ⟨r3, rfl, hr3, hb5⟩
  have HB5 := Lib.hid (HB4.out.trans (hb5.mono (HB4.out.size)))
  have q3 : (FloatKind.f64.format.order r3 r3 != some .eq) = true := (neq_self r3).trans (isF_none hr3 j_shares)
  clear hr3
  clear hb5
  go_wp2_with fail
  refine (nan_any _).mono ?_
  rintro e w0 ⟨rfl, hw0⟩
  rw [hw0]
  clear hw0 w0
  go_wp2_with fail
  refine (Middle_any (p := 0) (l := [nNaN]) (fls_new _ [nNaN] _ (by decide) (by decide)) (by decide)).mono ?_
  rintro e w6 ⟨r4, rfl, hr4, hb6⟩
  have HB6 := Lib.hid ((HB5.out.alloc HB5.out.size _).trans (hb6.mono ((HB5.out.alloc HB5.out.size _).size)))
  have q4 : (FloatKind.f64.format.order r4 r4 != some .eq) = true := (neq_self r4).trans (isF_none hr4 j_mid2)
  clear hr4
  clear hb6
  go_wp2_with fail
  refine (Fit_any (t := [n1]) (x := [n1]) (Fls.grow (fls_new _ [n1] _ (by decide) (by decide)) ((Below.refl _ _).alloc (Nat.le_refl _) _)) (fls_new' (w6.heap.size + 1) [n1] _ (by simp) (by decide) (by decide))).mono ?_
  rintro e w7 ⟨⟨fa, fs, rfl, _, _⟩, hb7⟩
  have HB7 := Lib.hid (((HB6.out.alloc HB6.out.size _).alloc (by simp; have := HB6.out.size; omega) _).trans (hb7.mono (((HB6.out.alloc HB6.out.size _).alloc (by simp; have := HB6.out.size; omega) _).size)))
  rw [j_fit1]
  clear hb7
  obtain ⟨U7, hU⟩ : ∃ U, U = w7.alloc (.cells #[.float .f64 fa, .float .f64 fs] 37) := ⟨_, rfl⟩
  have HBU := Lib.hid (show Below w.heap.size w U7 by rw [hU]; exact HB7.out.alloc HB7.out.size _)
  have hsU := Lib.hid (show w7.heap.size + 1 = U7.heap.size by rw [hU]; simp)
  go_wp2_with fail
  rw [← hU]
  clear hU
  go_wp2_with fail
  refine (Fit_any (t := [n1, n1]) (x := [n2, n3]) (Fls.grow (fls_new' (w7.heap.size + 1) [n1, n1] _ hsU.out (by decide) (by decide)) ((Below.refl _ _).alloc (Nat.le_refl _) _)) (fls_new' (w7.heap.size + 1 + 1) [n2, n3] _ (by simp [hsU.out]) (by decide) (by decide))).mono ?_
  rintro e w8 ⟨⟨ga, gs, rfl, _, _⟩, hb8⟩
  have HB8 := Lib.hid (((HBU.out.alloc HBU.out.size _).alloc (by simp; have := HBU.out.size; omega) _).trans (hb8.mono (((HBU.out.alloc HBU.out.size _).alloc (by simp; have := HBU.out.size; omega) _).size)))
  rw [j_fit2]
  clear hb8
  obtain ⟨U8, hU⟩ : ∃ U, U = w8.alloc (.cells #[.float .f64 ga, .float .f64 gs] 37) := ⟨_, rfl⟩
  have HBV := Lib.hid (show Below w.heap.size w U8 by rw [hU]; exact HB8.out.alloc HB8.out.size _)
  go_wp2_with fail
  rw [← hU]
  clear hU
  go_wp2_with fail
  refine (Of_any (l := []) (sals_nil _) (by decide)).mono ?_
  rintro e w9 ⟨rfl, hb9⟩
  have HB9 := Lib.hid (HBV.out.trans (hb9.mono (HBV.out.size)))
  rw [j_of]
  clear hb9
  obtain ⟨U9, hU⟩ : ∃ U, U = w9.alloc (.cells #[.int .i64 0, .int .i64 0, .int .i64 0, .int .i64 0, .int .i64 0, .int .i64 0] 41) := ⟨_, rfl⟩
  have HK := Lib.hid (show Blk U9 w9.heap.size 41 #[.int .i64 0, .int .i64 0, .int .i64 0, .int .i64 0, .int .i64 0, .int .i64 0] by rw [hU]; exact Blk.new _ _ _)
  have HBW := Lib.hid (show Below w.heap.size w U9 by rw [hU]; exact HB9.out.alloc HB9.out.size _)
  go_wp2_with fail
  rw [← hU]
  clear hU
  go_wp2_with fail
  refine (signbit_any (x := ea) (by rw [HEA.out]; decide) _).mono ?_
  rintro e w0 ⟨rfl, hw0⟩
  rw [hw0, show decide (9223372036854775808 ≤ ea) = true by rw [HEA.out]; rfl]
  clear hw0 w0
  go_wp2_with fail
  refine (signbit_any (x := eb) (by rw [HEB.out]; decide) _).mono ?_
  rintro e w0 ⟨rfl, hw0⟩
  rw [hw0, show decide (9223372036854775808 ≤ eb) = false by rw [HEB.out]; rfl]
  clear hw0 w0
  have z0 : U9.cell? ⟨w9.heap.size, 0, none⟩ = some (.int .i64 0) := HK.out.cell 0
  have z1 : U9.cell? ⟨w9.heap.size, 1, none⟩ = some (.int .i64 0) := HK.out.cell 1
  have z2 : U9.cell? ⟨w9.heap.size, 2, none⟩ = some (.int .i64 0) := HK.out.cell 2
  have z3 : U9.cell? ⟨w9.heap.size, 3, none⟩ = some (.int .i64 0) := HK.out.cell 3
  have z4 : U9.cell? ⟨w9.heap.size, 4, none⟩ = some (.int .i64 0) := HK.out.cell 4
  have z5 : U9.cell? ⟨w9.heap.size, 5, none⟩ = some (.int .i64 0) := HK.out.cell 5
  go_wp2_with fail
  refine (Sum_any (l := [nLow]) (fls_new _ [nLow] _ (by decide) (by decide))).mono ?_
  rintro e w10 ⟨r5, rfl, hr5, hb10⟩
  have HB10 := Lib.hid ((HBW.out.alloc HBW.out.size _).trans (hb10.mono ((HBW.out.alloc HBW.out.size _).size)))
  have Hr5 := Lib.hid (isF_lit hr5 j_sum)
  clear hr5
  clear hb10
  go_wp2_with fail
  refine (signbit_any (x := r5) (by rw [Hr5.out]; decide) _).mono ?_
  rintro e w0 ⟨rfl, hw0⟩
  rw [hw0, show decide (9223372036854775808 ≤ r5) = false by rw [Hr5.out]; rfl]
  clear hw0 w0
  go_wp2_with fail
  refine (Middle_any (p := 0) (l := [nLow]) (fls_new _ [nLow] _ (by decide) (by decide)) (by decide)).mono ?_
  rintro e w11 ⟨r6, rfl, hr6, hb11⟩
  have HB11 := Lib.hid ((HB10.out.alloc HB10.out.size _).trans (hb11.mono ((HB10.out.alloc HB10.out.size _).size)))
  have Hr6 := Lib.hid (isF_lit hr6 j_mid3)
  clear hr6
  clear hb11
  go_wp2_with fail
  refine (signbit_any (x := r6) (by rw [Hr6.out]; decide) _).mono ?_
  rintro e w0 ⟨rfl, hw0⟩
  rw [hw0, show decide (9223372036854775808 ≤ r6) = false by rw [Hr6.out]; rfl]
  clear hw0 w0
  go_wp2_with fail
  refine (Mean_any (l := [nLow]) (fls_new _ [nLow] _ (by decide) (by decide))).mono ?_
  rintro e w12 ⟨r7, rfl, hr7, hb12⟩
  have HB12 := Lib.hid ((HB11.out.alloc HB11.out.size _).trans (hb12.mono ((HB11.out.alloc HB11.out.size _).size)))
  have Hr7 := Lib.hid (isF_lit hr7 j_mean)
  clear hr7
  clear hb12
  go_wp2_with fail
  refine (signbit_any (x := r7) (by rw [Hr7.out]; decide) _).mono ?_
  rintro e w0 ⟨rfl, hw0⟩
  rw [hw0, show decide (9223372036854775808 ≤ r7) = false by rw [Hr7.out]; rfl]
  clear hw0 w0
  go_wp2_with fail
  refine (Worth_any (q := n2) (fq := some n2) (l := []) (fls_nil _) ⟨by decide, by decide⟩ (by decide)).mono ?_
  rintro e w13 ⟨r8, rfl, hr8, hb13⟩
  have HB13 := Lib.hid (HB12.out.trans (hb13.mono (HB12.out.size)))
  have Hr8 := Lib.hid (isF_lit hr8 j_worth)
  clear hr8
  clear hb13
  go_wp2_with fail
  refine (signbit_any (x := r8) (by rw [Hr8.out]; decide) _).mono ?_
  rintro e w0 ⟨rfl, hw0⟩
  rw [hw0, show decide (9223372036854775808 ≤ r8) = false by rw [Hr8.out]; rfl]
  clear hw0 w0
  go_wp2_with fail
  refine (Turn_any (l := []) (fls_nil _) (by decide)).mono ?_
  rintro e w14 ⟨⟨ta, tb, rfl, hta, htb⟩, hb14⟩
  have HB14 := Lib.hid (HB13.out.trans (hb14.mono (HB13.out.size)))
  have qta : (FloatKind.f64.format.order ta 0 == some .eq) = true := by rw [isF_lit hta j_turnR]; kernel_rfl
  have qtb : (FloatKind.f64.format.order tb 0 == some .eq) = true := by rw [isF_lit htb j_turnI]; kernel_rfl
  clear hta htb
  clear hb14
  go_wp2_with fail
  refine (known_any _).mono ?_
  rintro e w15 ⟨rfl, hb15⟩
  have HB15 := Lib.hid (HB14.out.trans (hb15.mono (HB14.out.size)))
  clear hb15
  go_wp2_with fail
  go_ret
  exact ⟨rfl, HB15.out⟩
end Go.Proofs.Ytidejikolcgojaa.St

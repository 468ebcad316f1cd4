/- Stats: known. (Printed by tools/gen_sbb.py.) -/
import Derived.Test.YtidejikolcgojaaGreatSbA
namespace Go.Proofs.YtidejikolcgojaaGreat.St
open Go.RowKit Go.Shelf
open Go.Proofs.YtidejikolcgojaaGreat.Vb Go.Proofs.YtidejikolcgojaaGreat.Ac
attribute [local go_sem] run_fadd run_fsub run_fmul run_fdiv run_store_float

theorem fls_nil (w : World) : Fls w (fun _ => True) (.slice none 0 0) [] := ⟨⟨rfl, none, 0, rfl, Nat.le_refl _, Nat.zero_le _, fun h => absurd h (by decide)⟩, fun x hx => by cases hx⟩
theorem kSales_ok : ∀ s ∈ kSales, s.Ok := by
  intro s hs
  simp only [kSales, List.mem_cons, List.not_mem_nil, or_false] at hs
  rcases hs with rfl | rfl <;> exact ⟨⟨by decide, by decide⟩, ⟨by decide, by decide⟩, ⟨by decide, by decide⟩, ⟨by decide, by decide⟩⟩
set_option maxRecDepth 100000 in
set_option maxHeartbeats 8000000 in
theorem known_any (w : World) : Calls Tryz.prog 6 #[] w fun e w' => e = .returned (.bool true) ∧ Below w.heap.size w w' := by
  go_enter Tryz.func6, Tryz.ntmps6
  have HB0 := Lib.hid (Below.refl w.heap.size w)
  go_wp2_with fail
  refine (nan_any w).mono ?_
  rintro e w0 ⟨rfl, hw0⟩
  rw [hw0]
  clear hw0 w0
  go_wp2_with fail
  refine (Ends_any (l := [n3, nNaN, nm1]) (fls_new _ [n3, nNaN, nm1] _ (by decide) (by decide)) (by decide)).mono ?_
  rintro e w1 ⟨rfl, hb1⟩
  have HB1 := Lib.hid ((HB0.out.alloc HB0.out.size _).trans (hb1.mono ((HB0.out.alloc HB0.out.size _).size)))
  obtain ⟨ea, hea⟩ : ∃ x, x = endA [n3, nNaN, nm1] := ⟨_, rfl⟩
  obtain ⟨eb, heb⟩ : ∃ x, x = endB [n3, nNaN, nm1] := ⟨_, rfl⟩
  have qa : (FloatKind.f64.format.order ea nm1 == some .eq) = true := by rw [hea, k_endA]; kernel_rfl
  have qb : (FloatKind.f64.format.order eb n3 == some .eq) = true := by rw [heb, k_endB]; kernel_rfl
  have hok : (!(okL [n3, nNaN, nm1]).isEmpty) = true := by rw [k_okl]; rfl
  rw [← hea, ← heb, hok]
  clear hea heb hok
  clear hb1
  go_wp2_with fail
  refine (Fit_any (t := [0, n1, n2]) (x := [n1, n3, n5]) (Fls.grow (fls_new _ [0, n1, n2] _ (by decide) (by decide)) ((Below.refl _ _).alloc (Nat.le_refl _) _)) (fls_new' (w1.heap.size + 1) [n1, n3, n5] _ (by simp) (by decide) (by decide))).mono ?_
  rintro e w2 ⟨⟨fa, fs, rfl, hfa, hfs⟩, hb2⟩
  have HB2 := Lib.hid (((HB1.out.alloc HB1.out.size _).alloc (by simp; have := HB1.out.size; omega) _).trans (hb2.mono (((HB1.out.alloc HB1.out.size _).alloc (by simp; have := HB1.out.size; omega) _).size)))
  rw [k_fitNo, if_neg (by decide)] at hfa hfs
  rw [k_fitNo]
  have ffa := isF_lit hfa k_fitAt
  have ffs := isF_lit hfs k_fitSl
  have HFA := Lib.hid (And.intro ffa ffs)
  clear hfa hfs ffa ffs
  clear hb2
  obtain ⟨U2, hU2⟩ : ∃ U, U = w2.alloc (.cells #[.float .f64 fa, .float .f64 fs] 29) := ⟨_, rfl⟩
  have HY := Lib.hid (show Blk U2 w2.heap.size 29 #[.float .f64 fa, .float .f64 fs] by rw [hU2]; exact Blk.new _ _ _)
  have HBU := Lib.hid (show Below w.heap.size w U2 by rw [hU2]; exact HB2.out.alloc HB2.out.size _)
  have hsU := Lib.hid (show w2.heap.size + 1 = U2.heap.size by rw [hU2]; simp)
  go_wp2_with fail
  rw [← hU2]
  clear hU2
  go_wp2_with fail
  refine (Turn_any (l := [n1, n2, n3, n4]) (fls_new' (w2.heap.size + 1) [n1, n2, n3, n4] _ hsU.out (by decide) (by decide)) (by decide)).mono ?_
  rintro e w3 ⟨⟨ta, tb, rfl, hta, htb⟩, hb3⟩
  have HB3 := Lib.hid ((HBU.out.alloc HBU.out.size _).trans (hb3.mono ((HBU.out.alloc HBU.out.size _).size)))
  replace HY := Lib.hid ((HY.out.alloc _).grow hb3)
  have qta : (FloatKind.f64.format.order ta 13835058055282163712 == some .eq) = true := by rw [isF_lit hta k_turnR]; kernel_rfl
  have qtb : (FloatKind.f64.format.order tb 13835058055282163712 == some .eq) = true := by rw [isF_lit htb k_turnI]; kernel_rfl
  clear hta htb
  clear hb3
  go_wp2_with fail
  refine (Of_any (l := kSales) (R := (· = w3.heap.size)) ⟨by exact Sl.new w3 (scells kSales).toArray 66 2 7 (by unfold maxLen; decide) (by decide), kSales_ok⟩ (by decide)).mono ?_
  rintro e w4 ⟨rfl, hb4⟩
  have HB4 := Lib.hid ((HB3.out.alloc HB3.out.size _).trans (hb4.mono ((HB3.out.alloc HB3.out.size _).size)))
  replace HY := Lib.hid ((HY.out.alloc _).grow hb4)
  rw [k_of]
  clear hb4
  obtain ⟨U4, hU4⟩ : ∃ U, U = w4.alloc (.cells #[.int .i64 2, .int .i64 2, .int .i64 1, .int .i64 6, .int .i64 4, .int .i64 9] 56) := ⟨_, rfl⟩
  have HK := Lib.hid (show Blk U4 w4.heap.size 56 #[.int .i64 2, .int .i64 2, .int .i64 1, .int .i64 6, .int .i64 4, .int .i64 9] by rw [hU4]; exact Blk.new _ _ _)
  have HBV := Lib.hid (show Below w.heap.size w U4 by rw [hU4]; exact HB4.out.alloc HB4.out.size _)
  replace HY := Lib.hid (show Blk U4 w2.heap.size 29 #[.float .f64 fa, .float .f64 fs] by rw [hU4]; exact HY.out.alloc _)
  go_wp2_with fail
  rw [← hU4]
  clear hU4
  go_wp2_with fail
  refine (Mean_any (l := []) (fls_nil _)).mono ?_
  rintro e w5 ⟨r0, rfl, hr0, hb5⟩
  have HB5 := Lib.hid (HBV.out.trans (hb5.mono (HBV.out.size)))
  replace HY := Lib.hid (HY.out.grow hb5)
  replace HK := Lib.hid (HK.out.grow hb5)
  have q0 : (FloatKind.f64.format.order r0 r0 != some .eq) = true := (neq_self r0).trans (isF_none hr0 k_none)
  clear hr0
  clear hb5
  go_wp2_with fail
  refine (Sum_any (l := [n1, 6103021453049119613, n1, 15326393489903895421]) (fls_new _ [n1, 6103021453049119613, n1, 15326393489903895421] _ (by decide) (by decide))).mono ?_
  rintro e w6 ⟨r1, rfl, hr1, hb6⟩
  have HB6 := Lib.hid ((HB5.out.alloc HB5.out.size _).trans (hb6.mono ((HB5.out.alloc HB5.out.size _).size)))
  replace HY := Lib.hid ((HY.out.alloc _).grow hb6)
  replace HK := Lib.hid ((HK.out.alloc _).grow hb6)
  have q1 : (FloatKind.f64.format.order r1 n2 == some .eq) = true := by rw [isF_lit hr1 k_sum]; kernel_rfl
  clear hr1
  clear hb6
  go_wp2_with fail
  refine (Mean_any (l := [n1, n2]) (fls_new _ [n1, n2] _ (by decide) (by decide))).mono ?_
  rintro e w7 ⟨r2, rfl, hr2, hb7⟩
  have HB7 := Lib.hid ((HB6.out.alloc HB6.out.size _).trans (hb7.mono ((HB6.out.alloc HB6.out.size _).size)))
  replace HY := Lib.hid ((HY.out.alloc _).grow hb7)
  replace HK := Lib.hid ((HK.out.alloc _).grow hb7)
  have q2 : (FloatKind.f64.format.order r2 4609434218613702656 == some .eq) = true := by rw [isF_lit hr2 k_mean]; kernel_rfl
  clear hr2
  clear hb7
  go_wp2_with fail
  refine (Spread_any (l := [n1, n3]) (fls_new _ [n1, n3] _ (by decide) (by decide))).mono ?_
  rintro e w8 ⟨r3, rfl, hr3, hb8⟩
  have HB8 := Lib.hid ((HB7.out.alloc HB7.out.size _).trans (hb8.mono ((HB7.out.alloc HB7.out.size _).size)))
  replace HY := Lib.hid ((HY.out.alloc _).grow hb8)
  replace HK := Lib.hid ((HK.out.alloc _).grow hb8)
  have q3 : (FloatKind.f64.format.order r3 n1 == some .eq) = true := by rw [isF_lit hr3 k_spread]; kernel_rfl
  clear hr3
  clear hb8
  go_wp2_with fail
  refine (Middle_any (p := nHalf) (l := [n4, n1, n2, n3]) (fls_new _ [n4, n1, n2, n3] _ (by decide) (by decide)) (by decide)).mono ?_
  rintro e w9 ⟨r4, rfl, hr4, hb9⟩
  have HB9 := Lib.hid ((HB8.out.alloc HB8.out.size _).trans (hb9.mono ((HB8.out.alloc HB8.out.size _).size)))
  replace HY := Lib.hid ((HY.out.alloc _).grow hb9)
  replace HK := Lib.hid ((HK.out.alloc _).grow hb9)
  have q4 : (FloatKind.f64.format.order r4 4612811918334230528 == some .eq) = true := by rw [isF_lit hr4 k_mid]; kernel_rfl
  clear hr4
  clear hb9
  go_wp2_with fail
  refine (Unequal_any (l := [0, 0, 0, n4]) (fls_new _ [0, 0, 0, n4] _ (by decide) (by decide)) (by decide)).mono ?_
  rintro e w10 ⟨r5, rfl, hr5, hb10⟩
  have HB10 := Lib.hid ((HB9.out.alloc HB9.out.size _).trans (hb10.mono ((HB9.out.alloc HB9.out.size _).size)))
  replace HY := Lib.hid ((HY.out.alloc _).grow hb10)
  replace HK := Lib.hid ((HK.out.alloc _).grow hb10)
  have q5 : (FloatKind.f64.format.order r5 4604930618986332160 == some .eq) = true := by rw [isF_lit hr5 k_uneq]; kernel_rfl
  clear hr5
  clear hb10
  go_wp2_with fail
  refine (Shares_any (l := [n1, n1, n2]) (fls_new _ [n1, n1, n2] _ (by decide) (by decide))).mono ?_
  rintro e w11 ⟨r6, rfl, hr6, hb11⟩
  have HB11 := Lib.hid ((HB10.out.alloc HB10.out.size _).trans (hb11.mono ((HB10.out.alloc HB10.out.size _).size)))
  replace HY := Lib.hid ((HY.out.alloc _).grow hb11)
  replace HK := Lib.hid ((HK.out.alloc _).grow hb11)
  have q6 : (FloatKind.f64.format.order r6 4600427019358961664 == some .eq) = true := by rw [isF_lit hr6 k_shares]; kernel_rfl
  clear hr6
  clear hb11
  have y0 : w11.cell? ⟨w2.heap.size, 0, none⟩ = some (.float .f64 fa) := HY.out.cell 0
  have y1 : w11.cell? ⟨w2.heap.size, 1, none⟩ = some (.float .f64 fs) := HY.out.cell 1
  have qfa : (FloatKind.f64.format.order fa n1 == some .eq) = true := by rw [HFA.out.1]; kernel_rfl
  have qfs : (FloatKind.f64.format.order fs n2 == some .eq) = true := by rw [HFA.out.2]; kernel_rfl
  have qE1 : (Op.equalIn 9999 27 (.float .f64 fa) (.float .f64 n1)).run Tryz.prog w11 = .ok true w11 := by rw [eq_fl, qfa]
  have qE2 : (Op.equalIn 9999 27 (.float .f64 fs) (.float .f64 n2)).run Tryz.prog w11 = .ok true w11 := by rw [eq_fl, qfs]
  go_wp2_with fail
  refine (Worth_any (q := nHalf) (fq := some nHalf) (l := [n1, n2, n4]) (fls_new _ [n1, n2, n4] _ (by decide) (by decide)) ⟨by decide, by decide⟩ (by decide)).mono ?_
  rintro e w12 ⟨r7, rfl, hr7, hb12⟩
  have HB12 := Lib.hid ((HB11.out.alloc HB11.out.size _).trans (hb12.mono ((HB11.out.alloc HB11.out.size _).size)))
  replace HY := Lib.hid ((HY.out.alloc _).grow hb12)
  replace HK := Lib.hid ((HK.out.alloc _).grow hb12)
  have q7 : (FloatKind.f64.format.order r7 n3 == some .eq) = true := by rw [isF_lit hr7 k_worth]; kernel_rfl
  clear hr7
  clear y0 y1
  clear hb12
  have z0 : w12.cell? ⟨w4.heap.size, 0, none⟩ = some (.int .i64 2) := HK.out.cell 0
  have z1 : w12.cell? ⟨w4.heap.size, 1, none⟩ = some (.int .i64 2) := HK.out.cell 1
  have z2 : w12.cell? ⟨w4.heap.size, 2, none⟩ = some (.int .i64 1) := HK.out.cell 2
  have z3 : w12.cell? ⟨w4.heap.size, 3, none⟩ = some (.int .i64 6) := HK.out.cell 3
  have z4 : w12.cell? ⟨w4.heap.size, 4, none⟩ = some (.int .i64 4) := HK.out.cell 4
  have z5 : w12.cell? ⟨w4.heap.size, 5, none⟩ = some (.int .i64 9) := HK.out.cell 5
  go_wp2_with fail
  go_ret
  exact ⟨rfl, HB12.out⟩
end Go.Proofs.YtidejikolcgojaaGreat.St

/- Stats: the walk of StatsRows. (Printed by tools/gen_sbm.py.) -/
import Derived.Test.YtidejikolcgojaaGreatSbB
import Derived.Test.YtidejikolcgojaaGreatSbD
import Derived.Test.YtidejikolcgojaaGreatSbK
import Derived.Test.YtidejikolcgojaaGreatSbL
namespace Go.Proofs.YtidejikolcgojaaGreat.St
open Go.RowKit Go.Shelf
open Go.Proofs.YtidejikolcgojaaGreat.Vb Go.Proofs.YtidejikolcgojaaGreat.Ac
attribute [local go_sem] run_fadd run_fsub run_fmul run_fdiv run_store_float

theorem told_row {x y : Nat} {F : Fl} {ok : Bool} (hx : IsF x F) (hy : y < bits64) (h1 : ok = true → IsF y F) (h2 : ok = false → F = none) (w : World) : Calls Tryz.prog 19 #[.float .f64 x, .float .f64 y, .bool ok] w fun e w' => e = .returned (.bool true) ∧ w' = w := by
  cases ok with
  | true =>
    refine (told_any hx (h1 rfl) true w).mono ?_
    rintro e w' ⟨rfl, rfl⟩
    exact ⟨by rw [if_pos rfl, fsame_self], rfl⟩
  | false =>
    refine (told_any hx (isF_self hy) false w).mono ?_
    rintro e w' ⟨rfl, rfl⟩
    exact ⟨by rw [if_neg (by decide), h2 rfl]; rfl, rfl⟩
theorem mean_none {l : List Nat} (h : l = []) : fzero (meanL l) = none := by subst h; kernel_rfl
theorem spread_none {l : List Nat} (h : l = []) : fzero (spreadL l) = none := by subst h; kernel_rfl
theorem isF_yes {b : Bool} {y : Nat} {F : Fl} (h : b = false) (hy : IsF y F) : IsF y (if b = true then none else F) := by subst h; exact hy
theorem isF_some {l : List Nat} {y : Nat} {F : Fl} (h : l ≠ []) (hy : IsF y F) : IsF y (if l = [] then none else F) := by rw [if_neg h]; exact hy
theorem maybe_row {l : List Nat} {F : Fl} {w : World} {b : Bool} (hb : b = !l.isEmpty) {e : Ending} {w' : World} (h : Maybe l F w e w') : MaybeB b F w e w' := by
  obtain ⟨⟨r, h1, h2, h3⟩, h4⟩ := h
  refine ⟨⟨r, by rw [hb]; exact h1, fun h => h2 ?_, h3⟩, h4⟩
  rw [hb] at h
  intro hl
  rw [hl] at h
  cases h
section
variable {l : List Nat} {v : Value} {R : Nat → Prop} {w : World} {b : Bool} {p : Nat}
theorem rowMean_any (h : Fls w R v l) (hb : b = !l.isEmpty) : Calls Tryz.prog 14 #[v] w (MaybeB b (fzero (meanL l)) w) := (refMean_any h).mono fun _ _ h => maybe_row hb h
theorem rowSpread_any (h : Fls w R v l) (hle : l.length ≤ 1000) (hb : b = !l.isEmpty) : Calls Tryz.prog 15 #[v] w (MaybeB b (fzero (spreadL l)) w) := (refSpread_any h hle).mono fun _ _ h => maybe_row hb h
theorem rowShares_any (h : Fls w R v l) (hle : l.length ≤ 1000) (hb : b = !l.isEmpty) : Calls Tryz.prog 18 #[v] w (MaybeB b (fzero (sharesL l)) w) := (refShares_any h hle).mono fun _ _ h => maybe_row hb h
theorem rowMiddle_any (h : Fls w R v l) (hle : l.length ≤ 1000) (hb : b = !midNo p l) : Calls Tryz.prog 16 #[.float .f64 p, v] w (MaybeB b (fzero (midL p l)) w) := by rw [hb]; exact refMiddle_any h hle
theorem rowUnequal_any (h : Fls w R v l) (hle : l.length ≤ 1000) (hb : b = !uneqNo l) : Calls Tryz.prog 17 #[v] w (MaybeB b (fzero (uneqL l)) w) := by rw [hb]; exact refUnequal_any h hle
end
theorem end_lt {l : List Nat} (h : ∀ x ∈ l, x < bits64) : endA l < bits64 ∧ endB l < bits64 := by
  have hs := sortB_lt (okL_lt h)
  unfold endA endB
  generalize sortB (okL l) = s at hs
  refine ⟨?_, ?_⟩
  · cases s with
    | nil => decide
    | cons x r => exact hs x (by simp)
  · cases s with
    | nil => decide
    | cons x r =>
      rw [List.getLastD_eq_getLast?, List.getLast?_eq_some_getLast (by simp)]
      exact hs _ (List.getLast_mem _)

set_option maxRecDepth 100000 in
set_option maxHeartbeats 8000000 in
theorem statsRows_walk {l : List Nat} {v : Value} {R : Nat → Prop} {pt rt : Int} {w : World} (h : Bts w R v l) (hp : pt.toNat < bits64) (hr : rt.toNat < bits64) :
    Calls Tryz.prog 4 #[v, .int .u64 pt, .int .u64 rt] w fun e w' => e = .returned (.bool true) ∧ Below w.heap.size w w' := by
  obtain ⟨A, cap, rfl, hnc, hcap⟩ := h.form
  have HBT := Lib.hid h
  have hbl := h.2
  clear h
  by_cases h1 : 500 < l.length
  · have d1 : decide ((500 : Int) < (l.length : Int)) = true := by simp; omega
    clear h1
    go_enter Tryz.func4, Tryz.ntmps4
    go_wp2_with fail
    refine (known_any _).mono ?_
    rintro e w1 ⟨rfl, hb⟩
    go_wp2_with fail
    go_ret
    exact ⟨rfl, hb⟩
  · have d1 : decide ((500 : Int) < (l.length : Int)) = false := by simp; omega
    have HLE := Lib.hid (show l.length ≤ 1000 by omega)
    have hfb := run_frombits
    obtain ⟨p, hpp⟩ : ∃ p, p = pt.toNat := ⟨_, rfl⟩
    obtain ⟨q, hqq⟩ : ∃ p, p = rt.toNat := ⟨_, rfl⟩
    have hfp : ∀ W, (callFunc 13 #[.int .u64 pt]).run Tryz.prog W = .ok (.value (.float .f64 p)) W := fun W => by rw [hpp]; exact run_frombits pt W
    have hfq : ∀ W, (callFunc 13 #[.int .u64 rt]).run Tryz.prog W = .ok (.value (.float .f64 q)) W := fun W => by rw [hqq]; exact run_frombits rt W
    rw [← hqq] at hr
    have HRT := Lib.hid hr
    have HLA := Lib.hid (end_lt hbl).1
    have HLB := Lib.hid (end_lt hbl).2
    obtain ⟨be, hbe⟩ : ∃ z, z = !l.isEmpty := ⟨_, rfl⟩
    obtain ⟨bm, hbm⟩ : ∃ z, z = !midNo p l := ⟨_, rfl⟩
    obtain ⟨bu, hbu⟩ : ∃ z, z = !uneqNo l := ⟨_, rfl⟩
    have HE := Lib.hid hbe
    have HMN := Lib.hid hbm
    have HUN := Lib.hid hbu
    have HE0 := Lib.hid (show be = false → l = [] by intro h; rw [hbe] at h; cases l with | nil => rfl | cons x r => cases h)
    have HE1 := Lib.hid (show be = true → l ≠ [] by intro h hl; rw [hbe, hl] at h; cases h)
    have HMN0 := Lib.hid (show bm = true → midNo p l = false by intro h; rw [hbm] at h; simpa using h)
    have HMN1 := Lib.hid (show bm = false → midNo p l = true by intro h; rw [hbm] at h; simpa using h)
    have HUN0 := Lib.hid (show bu = true → uneqNo l = false by intro h; rw [hbu] at h; simpa using h)
    have HUN1 := Lib.hid (show bu = false → uneqNo l = true by intro h; rw [hbu] at h; simpa using h)
    obtain ⟨za, hza⟩ : ∃ z, z = endA l := ⟨_, rfl⟩
    obtain ⟨zb, hzb⟩ : ∃ z, z = endB l := ⟨_, rfl⟩
    obtain ⟨zo, hzo⟩ : ∃ z, z = !(okL l).isEmpty := ⟨_, rfl⟩
    rw [← hza] at HLA
    rw [← hzb] at HLB
    have HZA := Lib.hid hza
    have HZB := Lib.hid hzb
    have HZO := Lib.hid hzo
    have zz : (zo == zo) = true := by simp
    clear hbl h1 hpp hqq hp hr hbe hbm hbu hza hzb hzo hfb
    go_enter Tryz.func4, Tryz.ntmps4
    go_wp2_with fail
    refine (row_any HBT.out HLE.out).mono ?_
    rintro e w1 ⟨va, rfl, ha, hb1⟩
    have HA := Lib.hid ha
    have HB1 := Lib.hid hb1
    clear ha hb1
    go_wp2_with fail
    refine (lent_any HA.out.fls HLE.out).mono ?_
    rintro e w2 ⟨vm, rfl, hm, hb⟩
    have HM := Lib.hid hm
    replace HA := Lib.hid (HA.out.grow hb)
    have HB2 := Lib.hid (HB1.out.trans (hb.mono HB1.out.size))
    clear hm hb
    go_wp2_with fail
    refine (rowMean_any HA.out.fls HE.out).mono ?_
    rintro e w3 ⟨⟨y1, rfl, hr, hlt⟩, hb⟩
    have Hy1 := Lib.hid hr
    have Ty1 := Lib.hid hlt
    replace HA := Lib.hid (HA.out.grow hb)
    replace HM := Lib.hid (HM.out.grow hb)
    have HB3 := Lib.hid (HB2.out.trans (hb.mono HB2.out.size))
    clear hb hr hlt
    go_wp2_with fail
    refine (rowSpread_any HA.out.fls HLE.out HE.out).mono ?_
    rintro e w4 ⟨⟨y2, rfl, hr, hlt⟩, hb⟩
    have Hy2 := Lib.hid hr
    have Ty2 := Lib.hid hlt
    replace HA := Lib.hid (HA.out.grow hb)
    replace HM := Lib.hid (HM.out.grow hb)
    have HB4 := Lib.hid (HB3.out.trans (hb.mono HB3.out.size))
    clear hb hr hlt
    go_wp2_with fail
    refine (rowMiddle_any HA.out.fls HLE.out HMN.out).mono ?_
    rintro e w5 ⟨⟨y3, rfl, hr, hlt⟩, hb⟩
    have Hy3 := Lib.hid hr
    have Ty3 := Lib.hid hlt
    replace HA := Lib.hid (HA.out.grow hb)
    replace HM := Lib.hid (HM.out.grow hb)
    have HB5 := Lib.hid (HB4.out.trans (hb.mono HB4.out.size))
    clear hb hr hlt
    go_wp2_with fail
    refine (rowUnequal_any HA.out.fls HLE.out HUN.out).mono ?_
    rintro e w6 ⟨⟨y4, rfl, hr, hlt⟩, hb⟩
    have Hy4 := Lib.hid hr
    have Ty4 := Lib.hid hlt
    replace HA := Lib.hid (HA.out.grow hb)
    replace HM := Lib.hid (HM.out.grow hb)
    have HB6 := Lib.hid (HB5.out.trans (hb.mono HB5.out.size))
    clear hb hr hlt
    go_wp2_with fail
    refine (rowShares_any HA.out.fls HLE.out HE.out).mono ?_
    rintro e w7 ⟨⟨y5, rfl, hr, hlt⟩, hb⟩
    have Hy5 := Lib.hid hr
    have Ty5 := Lib.hid hlt
    replace HA := Lib.hid (HA.out.grow hb)
    replace HM := Lib.hid (HM.out.grow hb)
    have HB7 := Lib.hid (HB6.out.trans (hb.mono HB6.out.size))
    clear hb hr hlt
    go_wp2_with fail
    refine (Sum_any HM.out.fls).mono ?_
    rintro e w8 ⟨x0, rfl, hr, hb⟩
    have Hx0 := Lib.hid hr
    replace HA := Lib.hid (HA.out.grow hb)
    replace HM := Lib.hid (HM.out.grow hb)
    have HB8 := Lib.hid (HB7.out.trans (hb.mono HB7.out.size))
    clear hb hr
    go_wp2_with fail
    refine (refSum_any HA.out.fls).mono ?_
    rintro e w9 ⟨y0, rfl, hr, hb⟩
    have Hy0 := Lib.hid hr
    replace HA := Lib.hid (HA.out.grow hb)
    replace HM := Lib.hid (HM.out.grow hb)
    have HB9 := Lib.hid (HB8.out.trans (hb.mono HB8.out.size))
    clear hb hr
    go_wp2_with fail
    refine (told_row Hx0.out Hy0.out.1 (fun _ => Hy0.out) (fun h => by cases h) _).mono ?_
    rintro e w9 ⟨rfl, hw⟩
    rw [hw]
    clear hw w9
    go_wp2_with fail
    refine (Mean_any HM.out.fls).mono ?_
    rintro e w10 ⟨x1, rfl, hr, hb⟩
    have Hx1 := Lib.hid hr
    replace HA := Lib.hid (HA.out.grow hb)
    replace HM := Lib.hid (HM.out.grow hb)
    have HB10 := Lib.hid (HB9.out.trans (hb.mono HB9.out.size))
    clear hb hr
    go_wp2_with fail
    refine (told_row Hx1.out Ty1.out Hy1.out (fun h => mean_none (HE0.out h)) _).mono ?_
    rintro e w9 ⟨rfl, hw⟩
    rw [hw]
    clear hw w9
    go_wp2_with fail
    refine (Spread_any HM.out.fls).mono ?_
    rintro e w11 ⟨x2, rfl, hr, hb⟩
    have Hx2 := Lib.hid hr
    replace HA := Lib.hid (HA.out.grow hb)
    replace HM := Lib.hid (HM.out.grow hb)
    have HB11 := Lib.hid (HB10.out.trans (hb.mono HB10.out.size))
    clear hb hr
    go_wp2_with fail
    refine (told_row Hx2.out Ty2.out Hy2.out (fun h => spread_none (HE0.out h)) _).mono ?_
    rintro e w9 ⟨rfl, hw⟩
    rw [hw]
    clear hw w9
    go_wp2_with fail
    refine (Middle_any HM.out.fls HLE.out).mono ?_
    rintro e w12 ⟨x3, rfl, hr, hb⟩
    have Hx3 := Lib.hid hr
    replace HA := Lib.hid (HA.out.grow hb)
    replace HM := Lib.hid (HM.out.grow hb)
    have HB12 := Lib.hid (HB11.out.trans (hb.mono HB11.out.size))
    clear hb hr
    go_wp2_with fail
    refine (told_row Hx3.out Ty3.out (fun h => isF_yes (HMN0.out h) (Hy3.out h)) (fun h => by rw [if_pos (HMN1.out h)]) _).mono ?_
    rintro e w9 ⟨rfl, hw⟩
    rw [hw]
    clear hw w9
    go_wp2_with fail
    refine (Unequal_any HM.out.fls HLE.out).mono ?_
    rintro e w13 ⟨x4, rfl, hr, hb⟩
    have Hx4 := Lib.hid hr
    replace HA := Lib.hid (HA.out.grow hb)
    replace HM := Lib.hid (HM.out.grow hb)
    have HB13 := Lib.hid (HB12.out.trans (hb.mono HB12.out.size))
    clear hb hr
    go_wp2_with fail
    refine (told_row Hx4.out Ty4.out (fun h => isF_yes (HUN0.out h) (Hy4.out h)) (fun h => by rw [if_pos (HUN1.out h)]) _).mono ?_
    rintro e w9 ⟨rfl, hw⟩
    rw [hw]
    clear hw w9
    go_wp2_with fail
    refine (Shares_any HM.out.fls).mono ?_
    rintro e w14 ⟨x5, rfl, hr, hb⟩
    have Hx5 := Lib.hid hr
    replace HA := Lib.hid (HA.out.grow hb)
    replace HM := Lib.hid (HM.out.grow hb)
    have HB14 := Lib.hid (HB13.out.trans (hb.mono HB13.out.size))
    clear hb hr
    go_wp2_with fail
    refine (told_row Hx5.out Ty5.out (fun h => isF_some (HE1.out h) (Hy5.out h)) (fun h => by rw [if_pos (HE0.out h)]) _).mono ?_
    rintro e w9 ⟨rfl, hw⟩
    rw [hw]
    clear hw w9
    go_wp2_with fail
    refine (Ends_any HM.out.fls HLE.out).mono ?_
    rintro e w15 ⟨rfl, hb⟩
    rw [← HZA.out, ← HZB.out, ← HZO.out]
    replace HA := Lib.hid (HA.out.grow hb)
    replace HM := Lib.hid (HM.out.grow hb)
    have HB15 := Lib.hid (HB14.out.trans (hb.mono HB14.out.size))
    clear hb 
    go_wp2_with fail
    refine (refEnds_any HA.out.fls HLE.out).mono ?_
    rintro e w16 ⟨rfl, hb⟩
    rw [← HZA.out, ← HZB.out, ← HZO.out]
    replace HA := Lib.hid (HA.out.grow hb)
    replace HM := Lib.hid (HM.out.grow hb)
    have HB16 := Lib.hid (HB15.out.trans (hb.mono HB15.out.size))
    clear hb 
    go_wp2_with fail
    refine (Turn_any HM.out.fls HLE.out).mono ?_
    rintro e w17 ⟨⟨a1, b1, rfl, hta, htb⟩, hb⟩
    have HTA := Lib.hid hta
    have HTB := Lib.hid htb
    replace HA := Lib.hid (HA.out.grow hb)
    replace HM := Lib.hid (HM.out.grow hb)
    have HB17 := Lib.hid (HB16.out.trans (hb.mono HB16.out.size))
    clear hb hta htb
    go_wp2_with fail
    refine (refTurn_any HA.out.fls HLE.out).mono ?_
    rintro e w18 ⟨⟨a2, b2, rfl, hta, htb⟩, hb⟩
    have HTC := Lib.hid hta
    have HTD := Lib.hid htb
    replace HA := Lib.hid (HA.out.grow hb)
    replace HM := Lib.hid (HM.out.grow hb)
    have HB18 := Lib.hid (HB17.out.trans (hb.mono HB17.out.size))
    clear hb hta htb
    go_wp2_with fail
    refine (same_any (isF_self HLA.out) (isF_self HLA.out) _).mono ?_
    rintro e w9 ⟨rfl, hw⟩
    rw [hw, fsame_self]
    clear hw w9
    go_wp2_with fail
    refine (same_any (isF_self HLB.out) (isF_self HLB.out) _).mono ?_
    rintro e w9 ⟨rfl, hw⟩
    rw [hw, fsame_self]
    clear hw w9
    go_wp2_with fail
    refine (Worth_any HM.out.fls (isF_self HRT.out) HLE.out).mono ?_
    rintro e w19 ⟨x6, rfl, hr, hb⟩
    have Hx6 := Lib.hid hr
    replace HA := Lib.hid (HA.out.grow hb)
    replace HM := Lib.hid (HM.out.grow hb)
    have HB19 := Lib.hid (HB18.out.trans (hb.mono HB18.out.size))
    clear hb hr
    go_wp2_with fail
    refine (refWorth_any HA.out.fls (isF_self HRT.out) HLE.out).mono ?_
    rintro e w20 ⟨y6, rfl, hr, hb⟩
    have Hy6 := Lib.hid hr
    replace HA := Lib.hid (HA.out.grow hb)
    replace HM := Lib.hid (HM.out.grow hb)
    have HB20 := Lib.hid (HB19.out.trans (hb.mono HB19.out.size))
    clear hb hr
    go_wp2_with fail
    refine (told_row Hx6.out Hy6.out.1 (fun _ => Hy6.out) (fun h => by cases h) _).mono ?_
    rintro e w9 ⟨rfl, hw⟩
    rw [hw]
    clear hw w9
    go_wp2_with fail
    refine (told_row HTA.out HTC.out.1 (fun _ => HTC.out) (fun h => by cases h) _).mono ?_
    rintro e w9 ⟨rfl, hw⟩
    rw [hw]
    clear hw w9
    go_wp2_with fail
    refine (told_row HTB.out HTD.out.1 (fun _ => HTD.out) (fun h => by cases h) _).mono ?_
    rintro e w9 ⟨rfl, hw⟩
    rw [hw]
    clear hw w9
    go_wp2_with fail
    refine (left_any HM.out HA.out.fls HLE.out).mono ?_
    rintro e w70 ⟨rfl, hb⟩
    have HB70 := Lib.hid (HB20.out.trans (hb.mono HB20.out.size))
    clear hb
    go_wp2_with fail
    refine (known_any _).mono ?_
    rintro e w71 ⟨rfl, hb⟩
    have HB71 := Lib.hid (HB70.out.trans (hb.mono HB70.out.size))
    clear hb
    go_wp2_with fail
    go_ret
    exact ⟨rfl, HB71.out⟩
end Go.Proofs.YtidejikolcgojaaGreat.St

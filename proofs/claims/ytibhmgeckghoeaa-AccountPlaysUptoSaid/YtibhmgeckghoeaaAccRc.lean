/- Account: the document's steps. (Printed by tools/gen_ref.py.) -/
import Derived.Test.YtibhmgeckghoeaaAccRb
import Derived.Test.YtibhmgeckghoeaaAccW
namespace Go.Proofs.Ytibhmgeckghoeaa.Ac
open Go.RowKit Go.Shelf Go.Maps
open Go.Proofs.Ytibhmgeckghoeaa.Vb
attribute [local go_sem] Oper.semAt_some

/-- what a step leaves of the document's account -/
def RefP (g : Nat) (a a' : Acc) (E : Int) (w w' : World) : Prop := Chg (· = g) w w' ∧ (E ≠ 0 → RefAt w' g a) ∧ (E = 0 → RefAt w' g a')
theorem RefP.bad {g : Nat} {a a' : Acc} {E : Int} {w w' : World} (h : RefAt w g a) (hb : Below w.heap.size w w') (hE : E ≠ 0) : RefP g a a' E w w' := ⟨Chg.of _ hb, fun _ => h.grow hb, fun h0 => absurd h0 hE⟩
theorem RefP.good {g : Nat} {a a' : Acc} {E : Int} {w w' : World} (hc : Chg (· = g) w w') (h : RefAt w' g a') (hE : E = 0) : RefP g a a' E w w' := ⟨hc, fun h0 => absurd hE h0, fun _ => h⟩
theorem RefAt.setSp {W : World} {g : Nat} {a : Acc} (h : RefAt W g a) (s : Int) : RefAt (W.setCell ⟨g, 1, none⟩ (.int .i64 s)) g { a with sp := s } := by
  obtain ⟨sl, h1, h2⟩ := h
  exact ⟨sl, h1.set_ 1 (.int .i64 s), h2.chg (Chg.set W ⟨g, 1, none⟩ _) (fun k e => by subst e; exact h1.notag (by decide))⟩
theorem RefAt.setBud {W : World} {g : Nat} {a : Acc} (h : RefAt W g a) (s : Int) : RefAt (W.setCell ⟨g, 0, none⟩ (.int .i64 s)) g { a with bud := s } := by
  obtain ⟨sl, h1, h2⟩ := h
  exact ⟨sl, h1.set_ 0 (.int .i64 s), h2.chg (Chg.set W ⟨g, 0, none⟩ _) (fun k e => by subst e; exact h1.notag (by decide))⟩
theorem RefAt.cells {W : World} {g : Nat} {a : Acc} (h : RefAt W g a) : W.cell? ⟨g, 0, none⟩ = some (.int .i64 a.bud) ∧ W.cell? ⟨g, 1, none⟩ = some (.int .i64 a.sp) ∧ W.frozen? ⟨g, 0, none⟩ = false ∧ W.frozen? ⟨g, 1, none⟩ = false := by
  obtain ⟨sl, h1, h2⟩ := h
  exact ⟨h1.cell 0, h1.cell 1, h1.frozen 0, h1.frozen 1⟩

set_option maxRecDepth 100000 in
set_option maxHeartbeats 4000000 in
theorem refHold_live {g : Nat} {a : Acc} {w : World} (h : RefAt w g a) (ho : a.Ok) {x v : Int} :
    Calls Try.prog 45 #[.pointer (some ⟨g, 0, none⟩), .int .i64 x, .int .i64 v] w fun e w' => e = .returned (.int .i64 (a.holdE x v)) ∧ RefP g a (a.set x v) (a.holdE x v) w w' := by
  have HR := Lib.hid h
  have HO := Lib.hid ho
  clear h
  by_cases h0 : 0 ≤ x
  · have hx0 : decide (x < 0) = false := by simp; omega
    by_cases hc : coin v
    · have HD := Lib.hid (decide_eq_true hc)
      have HC := Lib.hid hc
      obtain ⟨ms, hms⟩ : ∃ z, z = a.mostH x := ⟨_, rfl⟩
      have HMS := Lib.hid hms
      have hw := most_wrap ho x
      have hme : a.mostH x = a.free + atM a.M x := rfl
      rw [← hme, ← hms] at hw
      obtain ⟨fr, hfr⟩ : ∃ z, z = a.free := ⟨_, rfl⟩
      obtain ⟨at_, hat⟩ : ∃ z, z = atM a.M x := ⟨_, rfl⟩
      rw [← hms, ← hfr, ← hat] at hme
      have HFR := Lib.hid hfr
      have HAT := Lib.hid hat
      have hwr : IntKind.i64.wrap (fr + at_) = ms := by rw [← hme]; exact hw
      clear hfr hat hme hw
      clear ho hc hms
      go_enter Try.func45, Try.ntmps45
      go_wp2_with fail
      refine (refCoins_any v _).mono ?_
      rintro e w1 ⟨rfl, hw1⟩
      rw [hw1, HD.out]
      clear hw1
      go_wp2_with fail
      refine (refFree_live HR.out HO.out).mono ?_
      rintro e w2 ⟨rfl, hb2⟩
      rw [← HFR.out]
      have HB2 := Lib.hid hb2
      have HR2 := Lib.hid (HR.out.grow hb2)
      clear hb2
      go_wp2_with fail
      refine (refAt_live HR2.out HO.out x).mono ?_
      rintro e w3 ⟨rfl, hw3⟩
      rw [hw3, ← HAT.out]
      clear hw3
      by_cases hlt : ms < v
      · have HE := Lib.hid (holdE_big h0 HC.out (by rw [← HMS.out]; exact hlt))
        go_wp2_with fail
        go_ret
        exact ⟨by rw [HE.out]; rfl, RefP.bad HR.out HB2.out (by rw [HE.out]; decide)⟩
      · have HE := Lib.hid (holdE_fit h0 HC.out (by rw [← HMS.out]; omega))
        go_wp2_with fail
        refine (refSet_live HR2.out HO.out x v).mono ?_
        rintro e w4 ⟨rfl, hr4, hc4⟩
        have HR4 := Lib.hid hr4
        have HC4 := Lib.hid ((Chg.of (fun k => k = g) HB2.out).trans hc4)
        clear hr4 hc4
        go_wp2_with fail
        go_ret
        exact ⟨by rw [HE.out]; rfl, RefP.good HC4.out HR4.out HE.out⟩
    · have HD := Lib.hid (decide_eq_false hc)
      have HE := Lib.hid (holdE_neg (a := a) (x := x) (v := v) (.inr hc))
      clear hc ho
      go_enter Try.func45, Try.ntmps45
      go_wp2_with fail
      refine (refCoins_any v _).mono ?_
      rintro e w1 ⟨rfl, hw1⟩
      rw [hw1, HD.out]
      clear hw1
      go_wp2_with fail
      go_ret
      exact ⟨by rw [HE.out]; rfl, RefP.bad HR.out (Below.refl _ _) (by rw [HE.out]; decide)⟩
  · have hx0 : decide (x < 0) = true := by simp; omega
    have HE := Lib.hid (holdE_neg (a := a) (x := x) (v := v) (.inl (by omega)))
    clear ho
    go_enter Try.func45, Try.ntmps45
    go_wp2_with fail
    go_ret
    exact ⟨by rw [HE.out]; rfl, RefP.bad HR.out (Below.refl _ _) (by rw [HE.out]; decide)⟩

set_option maxRecDepth 100000 in
set_option maxHeartbeats 4000000 in
theorem refPay_live {g : Nat} {a : Acc} {w : World} (h : RefAt w g a) (ho : a.Ok) {x v : Int} :
    Calls Try.prog 47 #[.pointer (some ⟨g, 0, none⟩), .int .i64 x, .int .i64 v] w fun e w' => e = .returned (.int .i64 (a.payE x v)) ∧ RefP g a (a.pay x v) (a.payE x v) w w' := by
  have HR := Lib.hid h
  have HO := Lib.hid ho
  clear h
  by_cases h0 : 0 ≤ x
  · have hx0 : decide (x < 0) = false := by simp; omega
    by_cases hc : coin v
    · have HD := Lib.hid (decide_eq_true hc)
      have HC := Lib.hid hc
      obtain ⟨ms, hms⟩ : ∃ z, z = atM a.M x := ⟨_, rfl⟩
      have HMS := Lib.hid hms
      clear ho hc hms
      go_enter Try.func47, Try.ntmps47
      go_wp2_with fail
      refine (refCoins_any v _).mono ?_
      rintro e w1 ⟨rfl, hw1⟩
      rw [hw1, HD.out]
      clear hw1
      go_wp2_with fail
      refine (refAt_live HR.out HO.out x).mono ?_
      rintro e w2 ⟨rfl, hw3⟩
      rw [hw3, ← HMS.out]
      clear hw3
      have HB2 := Lib.hid (Below.refl w.heap.size w)
      have HR2 := HR
      by_cases hlt : ms < v
      · have HE := Lib.hid (payE_big h0 HC.out (by rw [← HMS.out]; exact hlt))
        go_wp2_with fail
        go_ret
        exact ⟨by rw [HE.out]; rfl, RefP.bad HR.out HB2.out (by rw [HE.out]; decide)⟩
      · have HE := Lib.hid (payE_fit h0 HC.out (by rw [← HMS.out]; omega))
        go_wp2_with fail
        refine (refSet_live HR2.out HO.out x 0).mono ?_
        rintro e w4 ⟨rfl, hr4, hc4⟩
        have hsp : (a.set x 0).sp = a.sp := rfl
        obtain ⟨q0, q1, f0, f1⟩ := hr4.cells
        rw [hsp] at q1
        have hwr := add_wrap HO.out.sp HC.out
        have HS := Lib.hid (hr4.setSp (a.sp + v))
        obtain ⟨q, hq⟩ : ∃ z, z = a.sp := ⟨_, rfl⟩
        rw [← hq] at q1 hwr
        have HQ := Lib.hid hq
        have HC4 := Lib.hid ((Chg.of (fun k => k = g) HB2.out).trans hc4)
        clear hr4 hc4 hq hsp
        go_wp2_with fail
        go_ret
        refine ⟨by rw [HE.out]; rfl, RefP.good (HC4.out.step (Chg.set w4 ⟨g, 1, none⟩ _) fun _ _ e => e) ?_ HE.out⟩
        rw [HQ.out]
        exact HS.out
    · have HD := Lib.hid (decide_eq_false hc)
      have HE := Lib.hid (payE_neg (a := a) (x := x) (v := v) (.inr hc))
      clear hc ho
      go_enter Try.func47, Try.ntmps47
      go_wp2_with fail
      refine (refCoins_any v _).mono ?_
      rintro e w1 ⟨rfl, hw1⟩
      rw [hw1, HD.out]
      clear hw1
      go_wp2_with fail
      go_ret
      exact ⟨by rw [HE.out]; rfl, RefP.bad HR.out (Below.refl _ _) (by rw [HE.out]; decide)⟩
  · have hx0 : decide (x < 0) = true := by simp; omega
    have HE := Lib.hid (payE_neg (a := a) (x := x) (v := v) (.inl (by omega)))
    clear ho
    go_enter Try.func47, Try.ntmps47
    go_wp2_with fail
    go_ret
    exact ⟨by rw [HE.out]; rfl, RefP.bad HR.out (Below.refl _ _) (by rw [HE.out]; decide)⟩

set_option maxRecDepth 100000 in
set_option maxHeartbeats 4000000 in
theorem refRelease_live {g : Nat} {a : Acc} {w : World} (h : RefAt w g a) (ho : a.Ok) {x : Int} :
    Calls Try.prog 46 #[.pointer (some ⟨g, 0, none⟩), .int .i64 x] w fun e w' => e = .returned (.tuple #[.int .i64 (atM a.M x), .int .i64 (relE x)]) ∧ RefP g a (a.set x 0) (relE x) w w' := by
  have HR := Lib.hid h
  have HO := Lib.hid ho
  obtain ⟨at_, hat⟩ : ∃ z, z = atM a.M x := ⟨_, rfl⟩
  rw [← hat]
  have HAT := Lib.hid hat
  by_cases h0 : 0 ≤ x
  · have hx0 : decide (x < 0) = false := by simp; omega
    have HE := Lib.hid (show relE x = 0 from if_neg (by omega))
    clear h ho hat
    go_enter Try.func46, Try.ntmps46
    go_wp2_with fail
    refine (refAt_live HR.out HO.out x).mono ?_
    rintro e w2 ⟨rfl, hw3⟩
    rw [hw3, ← HAT.out]
    clear hw3
    go_wp2_with fail
    refine (refSet_live HR.out HO.out x 0).mono ?_
    rintro e w4 ⟨rfl, hr4, hc4⟩
    have HR4 := Lib.hid hr4
    have HC4 := Lib.hid hc4
    clear hr4 hc4
    go_wp2_with fail
    refine bodyPost_ret (v := .tuple #[.int .i64 at_, .int .i64 0]) (by simp [results, Try.results46, go_sem]) rfl ⟨by rw [HE.out], RefP.good HC4.out HR4.out HE.out⟩
  · have hx0 : decide (x < 0) = true := by simp; omega
    have hat0 : atM a.M x = 0 := atM_none fun p hp => by have := (ho.each p hp).1; omega
    have HE := Lib.hid (show relE x = 2 from if_pos (by omega))
    have HA0 := Lib.hid (hat.trans hat0)
    clear h ho hat hat0
    go_enter Try.func46, Try.ntmps46
    go_wp2_with fail
    refine bodyPost_ret (v := .tuple #[.int .i64 0, .int .i64 2]) (by simp [results, Try.results46, go_sem]) rfl ⟨by rw [HE.out, HA0.out], RefP.bad HR.out (Below.refl _ _) (by rw [HE.out]; decide)⟩

set_option maxRecDepth 100000 in
set_option maxHeartbeats 4000000 in
theorem refTake_live {g : Nat} {a : Acc} {w : World} (h : RefAt w g a) (ho : a.Ok) {v : Int} :
    Calls Try.prog 49 #[.pointer (some ⟨g, 0, none⟩), .int .i64 v] w fun e w' => e = .returned (.int .i64 (a.takeE v)) ∧ RefP g a (a.take v) (a.takeE v) w w' := by
  have HR := Lib.hid h
  have HO := Lib.hid ho
  clear h
  have HEE := Lib.hid (show a.takeE v = if ¬ coin v then 2 else if a.free < v then 8 else 0 from rfl)
  by_cases hc : coin v
  · have HD := Lib.hid (decide_eq_true hc)
    have HC := Lib.hid hc
    obtain ⟨fr, hfr⟩ : ∃ z, z = a.free := ⟨_, rfl⟩
    rw [← hfr] at HEE
    have HFR := Lib.hid hfr
    clear ho hc hfr
    go_enter Try.func49, Try.ntmps49
    go_wp2_with fail
    refine (refCoins_any v _).mono ?_
    rintro e w1 ⟨rfl, hw1⟩
    rw [hw1, HD.out]
    clear hw1
    go_wp2_with fail
    refine (refFree_live HR.out HO.out).mono ?_
    rintro e w2 ⟨rfl, hb2⟩
    rw [← HFR.out]
    have HB2 := Lib.hid hb2
    have HR2 := Lib.hid (HR.out.grow hb2)
    clear hb2
    by_cases hlt : fr < v
    · have HE := Lib.hid (show a.takeE v = 8 from by rw [HEE.out, if_neg (by simpa using HC.out), if_pos hlt])
      go_wp2_with fail
      go_ret
      exact ⟨by rw [HE.out]; rfl, RefP.bad HR.out HB2.out (by rw [HE.out]; decide)⟩
    · have HE := Lib.hid (show a.takeE v = 0 from by rw [HEE.out, if_neg (by simpa using HC.out), if_neg hlt])
      obtain ⟨q0, q1, f0, f1⟩ := HR2.out.cells
      have hwr := add_wrap HO.out.sp HC.out
      have HS := Lib.hid (HR2.out.setSp (a.sp + v))
      obtain ⟨q, hq⟩ : ∃ z, z = a.sp := ⟨_, rfl⟩
      rw [← hq] at q1 hwr
      have HQ := Lib.hid hq
      clear hq
      go_wp2_with fail
      go_ret
      refine ⟨by rw [HE.out]; rfl, RefP.good ((Chg.of (fun k => k = g) HB2.out).step (Chg.set w2 ⟨g, 1, none⟩ _) fun _ _ e => e) ?_ HE.out⟩
      rw [HQ.out]
      exact HS.out
  · have HD := Lib.hid (decide_eq_false hc)
    have HE := Lib.hid (show a.takeE v = 2 from by rw [HEE.out, if_pos hc])
    clear hc ho
    go_enter Try.func49, Try.ntmps49
    go_wp2_with fail
    refine (refCoins_any v _).mono ?_
    rintro e w1 ⟨rfl, hw1⟩
    rw [hw1, HD.out]
    clear hw1
    go_wp2_with fail
    go_ret
    exact ⟨by rw [HE.out]; rfl, RefP.bad HR.out (Below.refl _ _) (by rw [HE.out]; decide)⟩

set_option maxRecDepth 100000 in
set_option maxHeartbeats 4000000 in
theorem refBring_live {g : Nat} {a : Acc} {w : World} (h : RefAt w g a) (ho : a.Ok) {v : Int} :
    Calls Try.prog 44 #[.pointer (some ⟨g, 0, none⟩), .int .i64 v] w fun e w' => e = .returned (.int .i64 (a.bringE v)) ∧ RefP g a (a.bring v) (a.bringE v) w w' := by
  have HR := Lib.hid h
  have HO := Lib.hid ho
  clear h
  have HEE := Lib.hid (show a.bringE v = if coin v ∧ coin (a.bud + v) then 0 else 2 from rfl)
  obtain ⟨q0, q1, f0, f1⟩ := HR.out.cells
  by_cases hc : coin v
  · have HD := Lib.hid (decide_eq_true hc)
    have HC := Lib.hid hc
    have hwr := add_wrap ho.bud hc
    have hb0 := ho.bud.1
    have HS := Lib.hid (HR.out.setBud (a.bud + v))
    obtain ⟨q, hq⟩ : ∃ z, z = a.bud := ⟨_, rfl⟩
    rw [← hq] at q0 hwr hb0 HEE
    have HQ := Lib.hid hq
    by_cases hlt : 1099511627776 < q + v
    · have HE := Lib.hid (show a.bringE v = 2 from by rw [HEE.out, if_neg (fun h => by have := h.2.2; omega)])
      clear ho hc hq
      go_enter Try.func44, Try.ntmps44
      go_wp2_with fail
      refine (refCoins_any v _).mono ?_
      rintro e w1 ⟨rfl, hw1⟩
      rw [hw1, HD.out]
      clear hw1
      go_wp2_with fail
      go_ret
      exact ⟨by rw [HE.out]; rfl, RefP.bad HR.out (Below.refl _ _) (by rw [HE.out]; decide)⟩
    · have HE := Lib.hid (show a.bringE v = 0 from by rw [HEE.out, if_pos ⟨hc, by have := hc.1; exact ⟨by omega, by omega⟩⟩])
      clear ho hc hq
      go_enter Try.func44, Try.ntmps44
      go_wp2_with fail
      refine (refCoins_any v _).mono ?_
      rintro e w1 ⟨rfl, hw1⟩
      rw [hw1, HD.out]
      clear hw1
      go_wp2_with fail
      go_ret
      refine ⟨by rw [HE.out]; rfl, RefP.good (Chg.set w ⟨g, 0, none⟩ _) ?_ HE.out⟩
      rw [HQ.out]
      exact HS.out
  · have HD := Lib.hid (decide_eq_false hc)
    have HE := Lib.hid (show a.bringE v = 2 from by rw [HEE.out, if_neg (fun h => hc h.1)])
    clear hc ho
    go_enter Try.func44, Try.ntmps44
    go_wp2_with fail
    refine (refCoins_any v _).mono ?_
    rintro e w1 ⟨rfl, hw1⟩
    rw [hw1, HD.out]
    clear hw1
    go_wp2_with fail
    go_ret
    exact ⟨by rw [HE.out]; rfl, RefP.bad HR.out (Below.refl _ _) (by rw [HE.out]; decide)⟩

set_option maxRecDepth 100000 in
set_option maxHeartbeats 4000000 in
theorem refCan_live {g : Nat} {a : Acc} {w : World} (h : RefAt w g a) (ho : a.Ok) {x v : Int} :
    Calls Try.prog 50 #[.pointer (some ⟨g, 0, none⟩), .int .i64 x, .int .i64 v] w fun e w' => e = .returned (.bool (decide (a.holdE x v = 0))) ∧ Below w.heap.size w w' := by
  have HR := Lib.hid h
  have HO := Lib.hid ho
  obtain ⟨z, hz⟩ : ∃ z, z = a.holdE x v := ⟨_, rfl⟩
  rw [← hz]
  have HZ := Lib.hid hz
  clear h ho hz
  go_enter Try.func50, Try.ntmps50
  go_wp2_with fail
  refine (refCopy_live HR.out).mono ?_
  rintro e w2 ⟨rfl, hb2, hr2⟩
  have HB2 := Lib.hid hb2
  have HR2 := Lib.hid hr2
  clear hb2 hr2
  go_wp2_with fail
  refine (refHold_live HR2.out HO.out).mono ?_
  rintro e w3 ⟨rfl, hc3, _⟩
  rw [← HZ.out]
  have HB3 := Lib.hid (HB2.out.trans (hc3.below HB2.out.size (fun k hk e => by omega)))
  clear hc3
  by_cases h0 : z = 0
  · have hd : (z == 0) = true := by simpa using h0
    have HD := Lib.hid (show decide (z = 0) = true from by simpa using h0)
    clear h0
    go_wp2_with fail
    go_ret
    exact ⟨by rw [HD.out]; rfl, HB3.out⟩
  · have hd : (z == 0) = false := by simpa using h0
    have HD := Lib.hid (show decide (z = 0) = false from by simpa using h0)
    clear h0
    go_wp2_with fail
    go_ret
    exact ⟨by rw [HD.out]; rfl, HB3.out⟩

theorem refHold_none (x y : Int) (w : World) : Calls Try.prog 45 #[.pointer none, .int .i64 x, .int .i64 y] w fun e w' => e = .returned (.int .i64 1) ∧ w' = w := by
  go_enter Try.func45, Try.ntmps45
  go_wp2_with fail
  go_ret
  exact ⟨rfl, rfl⟩

theorem refPay_none (x y : Int) (w : World) : Calls Try.prog 47 #[.pointer none, .int .i64 x, .int .i64 y] w fun e w' => e = .returned (.int .i64 1) ∧ w' = w := by
  go_enter Try.func47, Try.ntmps47
  go_wp2_with fail
  go_ret
  exact ⟨rfl, rfl⟩

theorem refTake_none (x y : Int) (w : World) : Calls Try.prog 49 #[.pointer none, .int .i64 y] w fun e w' => e = .returned (.int .i64 1) ∧ w' = w := by
  go_enter Try.func49, Try.ntmps49
  go_wp2_with fail
  go_ret
  exact ⟨rfl, rfl⟩

theorem refBring_none (x y : Int) (w : World) : Calls Try.prog 44 #[.pointer none, .int .i64 y] w fun e w' => e = .returned (.int .i64 1) ∧ w' = w := by
  go_enter Try.func44, Try.ntmps44
  go_wp2_with fail
  go_ret
  exact ⟨rfl, rfl⟩

theorem refRelease_none (x y : Int) (w : World) : Calls Try.prog 46 #[.pointer none, .int .i64 x] w fun e w' => e = .returned (.tuple #[.int .i64 0, .int .i64 1]) ∧ w' = w := by
  go_enter Try.func46, Try.ntmps46
  go_wp2_with fail
  exact bodyPost_ret (v := .tuple #[.int .i64 0, .int .i64 1]) (by simp [results, Try.results46, go_sem]) rfl ⟨rfl, rfl⟩

theorem refCopy_none (x y : Int) (w : World) : Calls Try.prog 17 #[.pointer none] w fun e w' => e = .returned (.pointer none) ∧ w' = w := by
  go_enter Try.func17, Try.ntmps17
  go_wp2_with fail
  go_ret
  exact ⟨rfl, rfl⟩

theorem refAll_none (x y : Int) (w : World) : Calls Try.prog 52 #[.pointer none] w fun e w' => e = .returned (.int .i64 0) ∧ w' = w := by
  go_enter Try.func52, Try.ntmps52
  go_wp2_with fail
  refine wp_loop_rounds 1 ?_
  rw [rounds_succ]
  go_wp2_with fail
  go_ret
  exact ⟨rfl, rfl⟩

theorem refFree_none (x y : Int) (w : World) : Calls Try.prog 51 #[.pointer none] w fun e w' => e = .returned (.int .i64 0) ∧ w' = w := by
  go_enter Try.func51, Try.ntmps51
  go_wp2_with fail
  go_ret
  exact ⟨rfl, rfl⟩

theorem refAt_none (x y : Int) (w : World) : Calls Try.prog 53 #[.pointer none, .int .i64 x] w fun e w' => e = .returned (.int .i64 0) ∧ w' = w := by
  go_enter Try.func53, Try.ntmps53
  go_wp2_with fail
  refine wp_loop_rounds 1 ?_
  rw [rounds_succ]
  go_wp2_with fail
  go_ret
  exact ⟨rfl, rfl⟩

theorem refCan_none (x y : Int) (w : World) : Calls Try.prog 50 #[.pointer none, .int .i64 x, .int .i64 y] w fun e w' => e = .returned (.bool false) ∧ w' = w := by
  go_enter Try.func50, Try.ntmps50
  go_wp2_with fail
  refine (refCopy_none 0 0 w).mono ?_
  rintro e w2 ⟨rfl, hw⟩
  rw [hw]
  clear hw
  go_wp2_with fail
  refine (refHold_none x y w).mono ?_
  rintro e w3 ⟨rfl, hw⟩
  rw [hw]
  clear hw
  go_wp2_with fail
  go_ret
  exact ⟨rfl, rfl⟩
end Go.Proofs.Ytibhmgeckghoeaa.Ac

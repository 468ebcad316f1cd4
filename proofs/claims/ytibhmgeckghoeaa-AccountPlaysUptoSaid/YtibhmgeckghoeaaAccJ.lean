/- Account: Hold, Can, Release. -/
import Derived.Test.YtibhmgeckghoeaaAccI
namespace Go.Proofs.Ytibhmgeckghoeaa.Ac
open Go.RowKit Go.Shelf Go.Maps
open Go.Proofs.Ytibhmgeckghoeaa.Vb
attribute [local go_sem] Oper.semAt_some

def Acc.holdE (a : Acc) (x v : Int) : Int := Ac.holdE a.bud a.sp a.M x v
theorem holdE_neg {a : Acc} {x v : Int} (h : x < 0 ∨ ¬ coin v) : a.holdE x v = 2 := if_pos h
theorem holdE_big {a : Acc} {x v : Int} (h0 : 0 ≤ x) (hc : coin v) (h : a.mostH x < v) : a.holdE x v = 8 := by
  unfold Acc.holdE Ac.holdE
  rw [if_neg (by rintro (h | h); omega; exact h hc), if_pos (by unfold Acc.mostH Acc.free at h; exact h)]
theorem holdE_fit {a : Acc} {x v : Int} (h0 : 0 ≤ x) (hc : coin v) (h : v ≤ a.mostH x) : a.holdE x v = 0 := by
  unfold Acc.holdE Ac.holdE
  rw [if_neg (by rintro (h | h); omega; exact h hc), if_neg (by unfold Acc.mostH Acc.free at h; omega)]

set_option maxRecDepth 100000 in
set_option maxHeartbeats 2000000 in
theorem hold_live {b m n : Nat} {a : Acc} {w : World} (h : AccAt w b m n a) (ho : a.Ok) (hn : n < maxLen) {x v : Int} (hx : -9223372036854775808 ≤ x ∧ x ≤ 9223372036854775807) (hv : -9223372036854775808 ≤ v ∧ v ≤ 9223372036854775807) :
    Calls Try.prog 9 #[.pointer (some ⟨b, 0, none⟩), .int .i64 x, .int .i64 v] w fun e w' =>
      (a.holdE x v ≠ 0 ∧ e = .returned (.int .i64 (a.holdE x v)) ∧ Below w.heap.size w w') ∨ (a.holdE x v = 0 ∧ e = .returned (.int .i64 0) ∧ AccAt w' b m (n + 1) (a.set x v) ∧ Chg (· = m) w w') := by
  obtain ⟨U, hU⟩ : ∃ U, U = ((w.alloc (.cells #[.pointer (some ⟨b, 0, none⟩)] 23)).alloc (.cells #[.int .i64 x] 3)).alloc (.cells #[.int .i64 v] 2) := ⟨_, rfl⟩
  have hB : Below w.heap.size w U := by rw [hU]; exact (((Below.refl _ _).alloc (Nat.le_refl _) _).alloc (by simp) _).alloc (by simp; omega) _
  have b0 : Blk U w.heap.size 23 #[.pointer (some ⟨b, 0, none⟩)] := by rw [hU]; exact ((Blk.new w _ _).alloc _).alloc _
  have b1 : Blk U (w.heap.size + 1) 3 #[.int .i64 x] := by rw [hU]; exact (Blk.new' _ _ (by simp)).alloc _
  have b2 : Blk U (w.heap.size + 1 + 1) 2 #[.int .i64 v] := by rw [hU]; exact Blk.new' _ _ (by simp)
  have HU := Lib.hid hU
  have HB := Lib.hid hB
  have HA := Lib.hid (h.grow hB)
  have hlm := h.ltm
  have may := fun right => may_live HA.out right 35 36 #[] #[.pointer (some ⟨w.heap.size, 0, none⟩), .pointer (some ⟨w.heap.size + 1, 0, none⟩)] #[.pointer (some ⟨w.heap.size, 0, none⟩), .pointer (some ⟨w.heap.size + 1, 0, none⟩), .pointer (some ⟨w.heap.size + 1 + 1, 0, none⟩)] v (a.mostH x)
    (enters_of Try.func35 (by kernel_rfl) rfl) (enters_of Try.func36 (by kernel_rfl) rfl) (by rw [Array.empty_append]; exact hold1_any HA.out ho hx b0 b1)
    (fun W => AccAt W b m (n + 1) (a.set x v) ∧ Chg (· = m) w W) (fun _ _ _ W hW => (hold2_any (HA.out.grow hW) hn hx hv (b0.grow hW) (b1.grow hW) (b2.grow hW)).mono fun e w' ⟨h1, h2, h3⟩ => ⟨h1, h2, ((Chg.of _ hB).grow hW).step h3 fun _ _ h => h⟩)
  have MAY := Lib.hid may
  clear h hU hB b0 b1 b2 may
  go_enter Try.func9, Try.ntmps9
  by_cases h0 : 0 ≤ x
  · have H0 := Lib.hid h0
    go_wp2_with fail
    rw [← HU.out]
    refine (MAY.out true).mono ?_
    rintro e w5 (⟨hr, rfl, rfl⟩ | ⟨_, hc, hlt, rfl, hb⟩ | ⟨_, hc, hle, rfl, hq1, hq2⟩)
    · have HE := Lib.hid (holdE_neg (a := a) (x := x) (v := v) (.inr (hr.resolve_left (by simp))))
      clear hr
      go_wp2_with fail
      go_ret
      exact .inl ⟨by rw [HE.out]; decide, by rw [HE.out]; rfl, HB.out⟩
    · have HE := Lib.hid (holdE_big H0.out hc hlt)
      have HBB := Lib.hid hb
      clear hc hlt hb
      go_wp2_with fail
      go_ret
      exact .inl ⟨by rw [HE.out]; decide, by rw [HE.out]; rfl, HB.out.trans (HBB.out.mono HB.out.size)⟩
    · have HE := Lib.hid (holdE_fit H0.out hc hle)
      have HQ1 := Lib.hid hq1
      have HQ2 := Lib.hid hq2
      clear hc hle hq1 hq2
      go_wp2_with fail
      go_ret
      exact .inr ⟨HE.out, rfl, HQ1.out, HQ2.out⟩
  · have HE := Lib.hid (holdE_neg (a := a) (x := x) (v := v) (.inl (by omega)))
    go_wp2_with fail
    rw [← HU.out]
    refine (MAY.out false).mono ?_
    rintro e w5 (⟨hr, rfl, rfl⟩ | ⟨hf, _⟩ | ⟨hf, _⟩)
    · clear hr
      go_wp2_with fail
      go_ret
      exact .inl ⟨by rw [HE.out]; decide, by rw [HE.out]; rfl, HB.out⟩
    · cases hf
    · cases hf

set_option maxRecDepth 100000 in
set_option maxHeartbeats 2000000 in
theorem can_live {b m n : Nat} {a : Acc} {w : World} (h : AccAt w b m n a) (ho : a.Ok) {x v : Int} (hx : -9223372036854775808 ≤ x ∧ x ≤ 9223372036854775807) :
    Calls Try.prog 27 #[.pointer (some ⟨b, 0, none⟩), .int .i64 x, .int .i64 v] w fun e w' => e = .returned (.bool (decide (a.holdE x v = 0))) ∧ Below w.heap.size w w' := by
  obtain ⟨U, hU⟩ : ∃ U, U = (w.alloc (.cells #[.pointer (some ⟨b, 0, none⟩)] 23)).alloc (.cells #[.int .i64 x] 3) := ⟨_, rfl⟩
  have hB : Below w.heap.size w U := by rw [hU]; exact ((Below.refl _ _).alloc (Nat.le_refl _) _).alloc (by simp) _
  have b0 : Blk U w.heap.size 23 #[.pointer (some ⟨b, 0, none⟩)] := by rw [hU]; exact (Blk.new w _ _).alloc _
  have b1 : Blk U (w.heap.size + 1) 3 #[.int .i64 x] := by rw [hU]; exact Blk.new' _ _ (by simp)
  have HU := Lib.hid hU
  have HB := Lib.hid hB
  have HA := Lib.hid (h.grow hB)
  have may := fun right => may_live HA.out right 54 55 #[] #[.pointer (some ⟨w.heap.size, 0, none⟩), .pointer (some ⟨w.heap.size + 1, 0, none⟩)] #[] v (a.mostH x)
    (enters_of Try.func54 (by kernel_rfl) rfl) (enters_of Try.func55 (by kernel_rfl) rfl) (by rw [Array.empty_append]; exact can1_any HA.out ho hx b0 b1)
    (fun W => Below w.heap.size w W) (fun _ _ _ W hW => (can2_any W).mono fun e w' ⟨h1, h2⟩ => ⟨h1, by rw [h2]; exact hB.trans (hW.mono hB.size)⟩)
  have MAY := Lib.hid may
  obtain ⟨ans, hans⟩ : ∃ z, z = decide (a.holdE x v = 0) := ⟨_, rfl⟩
  rw [← hans]
  have HANS := Lib.hid hans
  clear h hU hB b0 b1 may hans
  go_enter Try.func27, Try.ntmps27
  by_cases h0 : 0 ≤ x
  · have H0 := Lib.hid h0
    go_wp2_with fail
    rw [← HU.out]
    refine (MAY.out true).mono ?_
    rintro e w5 (⟨hr, rfl, rfl⟩ | ⟨_, hc, hlt, rfl, hb⟩ | ⟨_, hc, hle, rfl, hq1⟩)
    · have HE := Lib.hid (HANS.out.trans (decide_eq_false (by rw [holdE_neg (.inr (hr.resolve_left (by simp)))]; decide)))
      clear hr
      go_wp2_with fail
      go_ret
      exact ⟨by rw [HE.out]; rfl, HB.out⟩
    · have HE := Lib.hid (HANS.out.trans (decide_eq_false (by rw [holdE_big H0.out hc hlt]; decide)))
      have HBB := Lib.hid hb
      clear hc hlt hb
      go_wp2_with fail
      go_ret
      exact ⟨by rw [HE.out]; rfl, HB.out.trans (HBB.out.mono HB.out.size)⟩
    · have HE := Lib.hid (HANS.out.trans (decide_eq_true (holdE_fit H0.out hc hle)))
      have HQ1 := Lib.hid hq1
      clear hc hle hq1
      go_wp2_with fail
      go_ret
      exact ⟨by rw [HE.out]; rfl, HQ1.out⟩
  · have HE := Lib.hid (HANS.out.trans (decide_eq_false (by rw [holdE_neg (.inl (by omega))]; decide)))
    go_wp2_with fail
    rw [← HU.out]
    refine (MAY.out false).mono ?_
    rintro e w5 (⟨hr, rfl, rfl⟩ | ⟨hf, _⟩ | ⟨hf, _⟩)
    · clear hr
      go_wp2_with fail
      go_ret
      exact ⟨by rw [HE.out]; rfl, HB.out⟩
    · cases hf
    · cases hf

set_option maxRecDepth 100000 in
set_option maxHeartbeats 2000000 in
theorem release_live {b m n : Nat} {a : Acc} {w : World} (h : AccAt w b m n a) (hn : n < maxLen) {x : Int} (hx : -9223372036854775808 ≤ x ∧ x ≤ 9223372036854775807) :
    Calls Try.prog 33 #[.pointer (some ⟨b, 0, none⟩), .int .i64 x] w fun e w' =>
      (x < 0 ∧ e = .returned (.tuple #[.int .i64 (atM a.M x), .int .i64 2]) ∧ Below w.heap.size w w') ∨ (0 ≤ x ∧ e = .returned (.tuple #[.int .i64 (atM a.M x), .int .i64 0]) ∧ AccAt w' b m (n + 1) (a.set x 0) ∧ Chg (· = m) w w') := by
  obtain ⟨U, hU⟩ : ∃ U, U = (w.alloc (.cells #[.pointer (some ⟨b, 0, none⟩)] 23)).alloc (.cells #[.int .i64 x] 3) := ⟨_, rfl⟩
  have hB : Below w.heap.size w U := by rw [hU]; exact ((Below.refl _ _).alloc (Nat.le_refl _) _).alloc (by simp) _
  have b0 : Blk U w.heap.size 23 #[.pointer (some ⟨b, 0, none⟩)] := by rw [hU]; exact (Blk.new w _ _).alloc _
  have b1 : Blk U (w.heap.size + 1) 3 #[.int .i64 x] := by rw [hU]; exact Blk.new' _ _ (by simp)
  have HU := Lib.hid hU
  have HB := Lib.hid hB
  have HA := Lib.hid (h.grow hB)
  have HX := Lib.hid hx
  have may := fun right => may_live HA.out right 61 62 #[] #[] #[.pointer (some ⟨w.heap.size, 0, none⟩), .pointer (some ⟨w.heap.size + 1, 0, none⟩)] 0 0
    (enters_of Try.func61 (by kernel_rfl) rfl) (enters_of Try.func62 (by kernel_rfl) rfl) (by rw [Array.empty_append]; exact (release1_any U).mono fun e w' ⟨h1, h2⟩ => ⟨h1, by rw [h2]; exact Below.refl _ _⟩)
    (fun W => AccAt W b m (n + 1) (a.set x 0) ∧ Chg (· = m) w W) (fun _ _ _ W hW => (release2_any (HA.out.grow hW) hn hx (b0.grow hW) (b1.grow hW)).mono fun e w' ⟨h1, h2, h3⟩ => ⟨h1, h2, ((Chg.of _ hB).grow hW).step h3 fun _ _ h => h⟩)
  have MAY := Lib.hid may
  obtain ⟨was, hwas⟩ : ∃ z, z = atM a.M x := ⟨_, rfl⟩
  rw [← hwas]
  have HW := Lib.hid hwas
  have k0 : U.cell? ⟨w.heap.size, 0, none⟩ = some (.pointer (some ⟨b, 0, none⟩)) := b0.cell 0
  have k1 : U.cell? ⟨w.heap.size + 1, 0, none⟩ = some (.int .i64 x) := b1.cell 0
  clear h hU hB b0 b1 may hx hwas
  go_enter Try.func33, Try.ntmps33
  by_cases h0 : 0 ≤ x
  · have H0 := Lib.hid h0
    go_wp2_with fail
    rw [← HU.out]
    refine (at_any (f := .live a) ⟨b, m, n, rfl, HA.out⟩ HX.out).mono ?_
    rintro e w5 ⟨rfl, hw5⟩
    rw [hw5]
    clear hw5
    rw [show atM (Fm.live a).M x = was from HW.out.symm]
    clear HU
    go_wp2_with fail
    refine (MAY.out true).mono ?_
    rintro e w5 (⟨hr, rfl, rfl⟩ | ⟨_, hc, hlt, rfl, hb⟩ | ⟨_, hc, hle, rfl, hq1, hq2⟩)
    · exact absurd (by decide) (hr.resolve_left (by simp))
    · exact absurd hlt (by decide)
    · have HQ1 := Lib.hid hq1
      have HQ2 := Lib.hid hq2
      clear hc hle hq1 hq2
      go_wp2_with fail
      exact bodyPost_ret (v := .tuple #[.int .i64 was, .int .i64 0]) (by simp [results, Try.results33, go_sem]) rfl (.inr ⟨H0.out, rfl, HQ1.out, HQ2.out⟩)
  · have H0 := Lib.hid h0
    go_wp2_with fail
    rw [← HU.out]
    refine (at_any (f := .live a) ⟨b, m, n, rfl, HA.out⟩ HX.out).mono ?_
    rintro e w5 ⟨rfl, hw5⟩
    rw [hw5]
    clear hw5
    rw [show atM (Fm.live a).M x = was from HW.out.symm]
    clear HU
    have hd : decide (x ≥ 0) = false := by simp; omega
    have h00 : ¬ 0 ≤ x := by omega
    go_wp2_with fail
    refine (MAY.out false).mono ?_
    rintro e w5 (⟨hr, rfl, rfl⟩ | ⟨hf, _⟩ | ⟨hf, _⟩)
    · clear hr
      go_wp2_with fail
      exact bodyPost_ret (v := .tuple #[.int .i64 was, .int .i64 2]) (by simp [results, Try.results33, go_sem]) rfl (.inl ⟨by have := H0.out; omega, rfl, HB.out⟩)
    · cases hf
    · cases hf
end Go.Proofs.Ytibhmgeckghoeaa.Ac

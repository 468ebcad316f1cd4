/- Account: Pay, Take at an account that is there. -/
import Derived.Test.YtibhmgeckghoeaaAccK
namespace Go.Proofs.Ytibhmgeckghoeaa.Ac
open Go.RowKit Go.Shelf Go.Maps
open Go.Proofs.Ytibhmgeckghoeaa.Vb
attribute [local go_sem] Oper.semAt_some

def Acc.payE (a : Acc) (x v : Int) : Int := if x < 0 ∨ ¬ coin v then 2 else if atM a.M x < v then 8 else 0
theorem payE_neg {a : Acc} {x v : Int} (h : x < 0 ∨ ¬ coin v) : a.payE x v = 2 := if_pos h
theorem payE_big {a : Acc} {x v : Int} (h0 : 0 ≤ x) (hc : coin v) (h : atM a.M x < v) : a.payE x v = 8 := by
  unfold Acc.payE
  rw [if_neg (by rintro (h | h); omega; exact h hc), if_pos h]
theorem payE_fit {a : Acc} {x v : Int} (h0 : 0 ≤ x) (hc : coin v) (h : v ≤ atM a.M x) : a.payE x v = 0 := by
  unfold Acc.payE
  rw [if_neg (by rintro (h | h); omega; exact h hc), if_neg (by omega)]
def Acc.takeE (a : Acc) (v : Int) : Int := if ¬ coin v then 2 else if a.free < v then 8 else 0

set_option maxRecDepth 100000 in
set_option maxHeartbeats 2000000 in
theorem pay_live {b m n : Nat} {a : Acc} {w : World} (h : AccAt w b m n a) (ho : a.Ok) (hn : n < maxLen) {x v : Int} (hx : -9223372036854775808 ≤ x ∧ x ≤ 9223372036854775807) :
    Calls Try.prog 32 #[.pointer (some ⟨b, 0, none⟩), .int .i64 x, .int .i64 v] w fun e w' =>
      (a.payE x v ≠ 0 ∧ e = .returned (.int .i64 (a.payE x v)) ∧ Below w.heap.size w w') ∨ (a.payE x v = 0 ∧ e = .returned (.int .i64 0) ∧ AccAt w' b m (n + 1) (a.pay x v) ∧ Chg (fun k => k = m ∨ k = b) w w') := by
  obtain ⟨U, hU⟩ : ∃ U, U = ((w.alloc (.cells #[.pointer (some ⟨b, 0, none⟩)] 23)).alloc (.cells #[.int .i64 x] 3)).alloc (.cells #[.int .i64 v] 2) := ⟨_, rfl⟩
  have hB : Below w.heap.size w U := by rw [hU]; exact (((Below.refl _ _).alloc (Nat.le_refl _) _).alloc (by simp) _).alloc (by simp; omega) _
  have b0 : Blk U w.heap.size 23 #[.pointer (some ⟨b, 0, none⟩)] := by rw [hU]; exact ((Blk.new w _ _).alloc _).alloc _
  have b1 : Blk U (w.heap.size + 1) 3 #[.int .i64 x] := by rw [hU]; exact (Blk.new' _ _ (by simp)).alloc _
  have b2 : Blk U (w.heap.size + 1 + 1) 2 #[.int .i64 v] := by rw [hU]; exact Blk.new' _ _ (by simp)
  have HU := Lib.hid hU
  have HB := Lib.hid hB
  have HA := Lib.hid (h.grow hB)
  have may := fun right => may_live HA.out right 59 60 #[] #[.pointer (some ⟨w.heap.size, 0, none⟩), .pointer (some ⟨w.heap.size + 1, 0, none⟩)] #[.pointer (some ⟨w.heap.size, 0, none⟩), .pointer (some ⟨w.heap.size + 1, 0, none⟩), .pointer (some ⟨w.heap.size + 1 + 1, 0, none⟩)] v (atM a.M x)
    (enters_of Try.func59 (by kernel_rfl) rfl) (enters_of Try.func60 (by kernel_rfl) rfl) (by rw [Array.empty_append]; exact pay1_any HA.out hx b0 b1)
    (fun W => AccAt W b m (n + 1) (a.pay x v) ∧ Chg (fun k => k = m ∨ k = b) w W) (fun _ hc _ W hW => (pay2_any (HA.out.grow hW) ho.sp hn hx hc (b0.grow hW) (b1.grow hW) (b2.grow hW)).mono fun e w' ⟨h1, h2, h3⟩ => ⟨h1, h2, ((Chg.of _ hB).grow hW).step h3 fun _ _ h => h⟩)
  have MAY := Lib.hid may
  clear h hU hB b0 b1 b2 may
  go_enter Try.func32, Try.ntmps32
  by_cases h0 : 0 ≤ x
  · have H0 := Lib.hid h0
    go_wp2_with fail
    rw [← HU.out]
    refine (MAY.out true).mono ?_
    rintro e w5 (⟨hr, rfl, rfl⟩ | ⟨_, hc, hlt, rfl, hb⟩ | ⟨_, hc, hle, rfl, hq1, hq2⟩)
    · have HE := Lib.hid (payE_neg (a := a) (x := x) (v := v) (.inr (hr.resolve_left (by simp))))
      clear hr
      go_wp2_with fail
      go_ret
      exact .inl ⟨by rw [HE.out]; decide, by rw [HE.out]; rfl, HB.out⟩
    · have HE := Lib.hid (payE_big H0.out hc hlt)
      have HBB := Lib.hid hb
      clear hc hlt hb
      go_wp2_with fail
      go_ret
      exact .inl ⟨by rw [HE.out]; decide, by rw [HE.out]; rfl, HB.out.trans (HBB.out.mono HB.out.size)⟩
    · have HE := Lib.hid (payE_fit H0.out hc hle)
      have HQ1 := Lib.hid hq1
      have HQ2 := Lib.hid hq2
      clear hc hle hq1 hq2
      go_wp2_with fail
      go_ret
      exact .inr ⟨HE.out, rfl, HQ1.out, HQ2.out⟩
  · have HE := Lib.hid (payE_neg (a := a) (x := x) (v := v) (.inl (by omega)))
    go_wp2_with fail
    rw [← HU.out]
    refine (MAY.out false).mono ?_
    rintro e w5 (⟨hr, rfl, rfl⟩ | ⟨hf, _⟩ | ⟨hf, _⟩)
    · clear hr
      go_wp2_with fail
      go_ret
      exact .inl ⟨by rw [HE.out]; decide, by rw [HE.out]; rfl, HB.out⟩
    · cases hf
    · cases hf

set_option maxRecDepth 100000 in
set_option maxHeartbeats 2000000 in
theorem take_live {b m n : Nat} {a : Acc} {w : World} (h : AccAt w b m n a) (ho : a.Ok) {v : Int} :
    Calls Try.prog 48 #[.pointer (some ⟨b, 0, none⟩), .int .i64 v] w fun e w' =>
      (a.takeE v ≠ 0 ∧ e = .returned (.int .i64 (a.takeE v)) ∧ Below w.heap.size w w') ∨ (a.takeE v = 0 ∧ e = .returned (.int .i64 0) ∧ AccAt w' b m n (a.take v) ∧ Chg (· = b) w w') := by
  obtain ⟨U, hU⟩ : ∃ U, U = (w.alloc (.cells #[.pointer (some ⟨b, 0, none⟩)] 23)).alloc (.cells #[.int .i64 v] 2) := ⟨_, rfl⟩
  have hB : Below w.heap.size w U := by rw [hU]; exact ((Below.refl _ _).alloc (Nat.le_refl _) _).alloc (by simp) _
  have b0 : Blk U w.heap.size 23 #[.pointer (some ⟨b, 0, none⟩)] := by rw [hU]; exact (Blk.new w _ _).alloc _
  have b1 : Blk U (w.heap.size + 1) 2 #[.int .i64 v] := by rw [hU]; exact Blk.new' _ _ (by simp)
  have HU := Lib.hid hU
  have HB := Lib.hid hB
  have HA := Lib.hid (h.grow hB)
  have may := may_live HA.out true 22 67 #[.pointer (some ⟨b, 0, none⟩)] #[] #[.pointer (some ⟨w.heap.size, 0, none⟩), .pointer (some ⟨w.heap.size + 1, 0, none⟩)] v a.free
    (enters_of Try.func22 (by kernel_rfl) rfl) (enters_of Try.func67 (by kernel_rfl) rfl) (by rw [Array.append_empty]; exact free_any (f := .live a) ⟨b, m, n, rfl, HA.out⟩ ho)
    (fun W => AccAt W b m n (a.take v) ∧ Chg (· = b) w W) (fun _ hc _ W hW => (take1_any (HA.out.grow hW) ho.sp hc (b0.grow hW) (b1.grow hW)).mono fun e w' ⟨h1, h2, h3⟩ => ⟨h1, h2, ((Chg.of _ hB).grow hW).step h3 fun _ _ h => h⟩)
  have MAY := Lib.hid may
  obtain ⟨z, hz⟩ : ∃ z, z = a.takeE v := ⟨_, rfl⟩
  rw [← hz]
  have HZ := Lib.hid (hz.trans (show a.takeE v = if ¬ coin v then 2 else if a.free < v then 8 else 0 from rfl))
  clear h hU hB b0 b1 may hz
  go_enter Try.func48, Try.ntmps48
  go_wp2_with fail
  rw [← HU.out]
  refine MAY.out.mono ?_
  rintro e w5 (⟨hr, rfl, rfl⟩ | ⟨_, hc, hlt, rfl, hb⟩ | ⟨_, hc, hle, rfl, hq1, hq2⟩)
  · have HE := Lib.hid (HZ.out.trans (if_pos (hr.resolve_left (by simp))))
    clear hr
    go_wp2_with fail
    go_ret
    exact .inl ⟨by rw [HE.out]; decide, by rw [HE.out]; rfl, HB.out⟩
  · have HE := Lib.hid (HZ.out.trans ((if_neg (fun h => h hc)).trans (if_pos hlt)))
    have HBB := Lib.hid hb
    clear hc hlt hb
    go_wp2_with fail
    go_ret
    exact .inl ⟨by rw [HE.out]; decide, by rw [HE.out]; rfl, HB.out.trans (HBB.out.mono HB.out.size)⟩
  · have HE := Lib.hid (HZ.out.trans ((if_neg (fun h => h hc)).trans (if_neg (by omega))))
    have HQ1 := Lib.hid hq1
    have HQ2 := Lib.hid hq2
    clear hc hle hq1 hq2
    go_wp2_with fail
    go_ret
    exact .inr ⟨HE.out, rfl, HQ1.out, HQ2.out⟩
end Go.Proofs.Ytibhmgeckghoeaa.Ac

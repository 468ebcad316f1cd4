/- Account: known. (Printed by tools/gen_known.py.) -/
import Derived.Test.YtibhmgeckghoeaaAccS
namespace Go.Proofs.Ytibhmgeckghoeaa.Ac
open Go.RowKit Go.Shelf Go.Maps
open Go.Proofs.Ytibhmgeckghoeaa.Vb
attribute [local go_sem] Oper.semAt_some

theorem acc_ok {bu sp : Int} {M : HM} (h1 : coin bu) (h2 : coin sp) (h3 : okL (-1) M = true) (h4 : ∀ p ∈ M, p.1 ≤ 9223372036854775807) (h5 : sumM M ≤ 1099511627776) : (Acc.mk bu sp M).Ok :=
  ⟨h1, h2, (okL_all h3).1, fun p hp => ⟨by have := ((okL_all h3).2 p hp).1; omega, h4 p hp, ((okL_all h3).2 p hp).2.1⟩, h5⟩
def kA0 : Acc := ⟨10, 0, []⟩
theorem okA0 : kA0.Ok := acc_ok (by decide) (by decide) (by decide) (by decide) (by decide)
def kA1 : Acc := ⟨10, 0, [(0, 6)]⟩
theorem okA1 : kA1.Ok := acc_ok (by decide) (by decide) (by decide) (by decide) (by decide)
def kA2 : Acc := ⟨10, 0, [(0, 5)]⟩
theorem okA2 : kA2.Ok := acc_ok (by decide) (by decide) (by decide) (by decide) (by decide)
def kA3 : Acc := ⟨10, 0, [(0, 5), (1, 5)]⟩
theorem okA3 : kA3.Ok := acc_ok (by decide) (by decide) (by decide) (by decide) (by decide)
def kA4 : Acc := ⟨10, 3, [(1, 5)]⟩
theorem okA4 : kA4.Ok := acc_ok (by decide) (by decide) (by decide) (by decide) (by decide)
def kA5 : Acc := ⟨10, 3, []⟩
theorem okA5 : kA5.Ok := acc_ok (by decide) (by decide) (by decide) (by decide) (by decide)

set_option maxRecDepth 100000 in
set_option maxHeartbeats 8000000 in
theorem known_any (w0 : World) : Calls Try.prog 8 #[] w0 fun e w' => e = .returned (.bool true) ∧ Below w0.heap.size w0 w' := by
  go_enter Try.func8, Try.ntmps8
  go_wp2_with fail
  refine (new_any 10 w0).mono ?_
  rintro e w1 ⟨hb, (⟨h0, _⟩ | ⟨_, rfl, hA⟩)⟩
  · exact absurd (by decide) h0
  have HA1 := Lib.hid (show AccAt w1 (w0.heap.size + 1) w0.heap.size 0 kA0 from hA)
  have HB1 := Lib.hid hb
  clear hb hA
  go_wp2_with (go_at_call 14; refine (num_any _ _).mono ?_; rintro e w9 ⟨rfl, rfl⟩)
  refine (hold_live HA1.out okA0 (by unfold maxLen; omega) (x := 0) (v := 6) ⟨by omega, by omega⟩ ⟨by omega, by omega⟩).mono ?_
  rintro e w2 (⟨h0, _⟩ | ⟨h0, rfl, hA, hC⟩)
  · exact absurd (by decide) h0
  clear h0
  have HA2 := Lib.hid (show AccAt w2 (w0.heap.size + 1) w0.heap.size 1 kA1 from hA)
  have HB2 := Lib.hid (HB1.out.trans (hC.below HB1.out.size (fun k hk e => by omega)))
  clear hA hC
  go_wp2_with (go_at_call 14; refine (num_any _ _).mono ?_; rintro e w9 ⟨rfl, rfl⟩)
  refine (hold_live HA2.out okA1 (by unfold maxLen; omega) (x := 1) (v := 5) ⟨by omega, by omega⟩ ⟨by omega, by omega⟩).mono ?_
  rintro e w3 (⟨h0, rfl, hb⟩ | ⟨h0, _⟩)
  rotate_left
  · exact absurd h0 (by decide)
  rw [show kA1.holdE 1 5 = 8 from by decide]
  clear h0
  have HA3 := Lib.hid (HA2.out.grow hb)
  have HB3 := Lib.hid (HB2.out.trans (hb.mono HB2.out.size))
  clear hb
  go_wp2_with (go_at_call 14; refine (num_any _ _).mono ?_; rintro e w9 ⟨rfl, rfl⟩)
  refine (hold_live HA3.out okA1 (by unfold maxLen; omega) (x := 0) (v := 5) ⟨by omega, by omega⟩ ⟨by omega, by omega⟩).mono ?_
  rintro e w4 (⟨h0, _⟩ | ⟨h0, rfl, hA, hC⟩)
  · exact absurd (by decide) h0
  clear h0
  have HA4 := Lib.hid (show AccAt w4 (w0.heap.size + 1) w0.heap.size 2 kA2 from hA)
  have HB4 := Lib.hid (HB3.out.trans (hC.below HB3.out.size (fun k hk e => by omega)))
  clear hA hC
  go_wp2_with (go_at_call 14; refine (num_any _ _).mono ?_; rintro e w9 ⟨rfl, rfl⟩)
  refine (hold_live HA4.out okA2 (by unfold maxLen; omega) (x := 1) (v := 5) ⟨by omega, by omega⟩ ⟨by omega, by omega⟩).mono ?_
  rintro e w5 (⟨h0, _⟩ | ⟨h0, rfl, hA, hC⟩)
  · exact absurd (by decide) h0
  clear h0
  have HA5 := Lib.hid (show AccAt w5 (w0.heap.size + 1) w0.heap.size 3 kA3 from hA)
  have HB5 := Lib.hid (HB4.out.trans (hC.below HB4.out.size (fun k hk e => by omega)))
  clear hA hC
  go_wp2_with (go_at_call 14; refine (num_any _ _).mono ?_; rintro e w9 ⟨rfl, rfl⟩)
  refine (free_any (f := .live kA3) ⟨_, _, _, rfl, HA5.out⟩ okA3).mono ?_
  rintro e w6 ⟨rfl, hb⟩
  rw [show (Fm.live kA3).free = 0 from by decide]
  have HA6 := Lib.hid (HA5.out.grow hb)
  have HB6 := Lib.hid (HB5.out.trans (hb.mono HB5.out.size))
  clear hb
  go_wp2_with (go_at_call 14; refine (num_any _ _).mono ?_; rintro e w9 ⟨rfl, rfl⟩)
  refine (pay_live HA6.out okA3 (by unfold maxLen; omega) (x := 0) (v := 6) ⟨by omega, by omega⟩).mono ?_
  rintro e w7 (⟨h0, rfl, hb⟩ | ⟨h0, _⟩)
  rotate_left
  · exact absurd h0 (by decide)
  rw [show kA3.payE 0 6 = 8 from by decide]
  clear h0
  have HA7 := Lib.hid (HA6.out.grow hb)
  have HB7 := Lib.hid (HB6.out.trans (hb.mono HB6.out.size))
  clear hb
  go_wp2_with (go_at_call 14; refine (num_any _ _).mono ?_; rintro e w9 ⟨rfl, rfl⟩)
  refine (pay_live HA7.out okA3 (by unfold maxLen; omega) (x := 0) (v := 3) ⟨by omega, by omega⟩).mono ?_
  rintro e w8 (⟨h0, _⟩ | ⟨h0, rfl, hA, hC⟩)
  · exact absurd (by decide) h0
  clear h0
  have HA8 := Lib.hid (show AccAt w8 (w0.heap.size + 1) w0.heap.size 4 kA4 from hA)
  have HB8 := Lib.hid (HB7.out.trans (hC.below HB7.out.size (fun k hk e => by omega)))
  clear hA hC
  go_wp2_with (go_at_call 14; refine (num_any _ _).mono ?_; rintro e w9 ⟨rfl, rfl⟩)
  refine (free_any (f := .live kA4) ⟨_, _, _, rfl, HA8.out⟩ okA4).mono ?_
  rintro e w9 ⟨rfl, hb⟩
  rw [show (Fm.live kA4).free = 2 from by decide]
  have HA9 := Lib.hid (HA8.out.grow hb)
  have HB9 := Lib.hid (HB8.out.trans (hb.mono HB8.out.size))
  clear hb
  go_wp2_with (go_at_call 14; refine (num_any _ _).mono ?_; rintro e w9 ⟨rfl, rfl⟩)
  refine (spent_any (f := .live kA4) ⟨_, _, _, rfl, HA9.out⟩).mono ?_
  rintro e w10 ⟨rfl, hw⟩
  rw [hw]
  clear hw
  rw [show (Fm.live kA4).sp = 3 from by decide]
  go_wp2_with (go_at_call 14; refine (num_any _ _).mono ?_; rintro e w9 ⟨rfl, rfl⟩)
  refine (at_any (f := .live kA4) ⟨_, _, _, rfl, HA9.out⟩ (x := 0) ⟨by omega, by omega⟩).mono ?_
  rintro e w11 ⟨rfl, hw⟩
  rw [hw]
  clear hw
  rw [show atM (Fm.live kA4).M 0 = 0 from by decide]
  go_wp2_with (go_at_call 14; refine (num_any _ _).mono ?_; rintro e w9 ⟨rfl, rfl⟩)
  refine (held_any (f := .live kA4) ⟨_, _, _, rfl, HA9.out⟩ okA4).mono ?_
  rintro e w12 ⟨rfl, hb⟩
  rw [show sumM (Fm.live kA4).M = 5 from by decide]
  have HA12 := Lib.hid (HA9.out.grow hb)
  have HB12 := Lib.hid (HB9.out.trans (hb.mono HB9.out.size))
  clear hb
  go_wp2_with (go_at_call 14; refine (num_any _ _).mono ?_; rintro e w9 ⟨rfl, rfl⟩)
  refine (release_live HA12.out (by unfold maxLen; omega) (x := 1) ⟨by omega, by omega⟩).mono ?_
  rintro e w13 (⟨h0, _⟩ | ⟨h0, rfl, hA, hC⟩)
  · exact absurd h0 (by decide)
  rw [show atM kA4.M 1 = 5 from by decide]
  clear h0
  have HA13 := Lib.hid (show AccAt w13 (w0.heap.size + 1) w0.heap.size 5 kA5 from hA)
  have HB13 := Lib.hid (HB12.out.trans (hC.below HB12.out.size (fun k hk e => by omega)))
  clear hA hC
  go_wp2_with (go_at_call 14; refine (num_any _ _).mono ?_; rintro e w9 ⟨rfl, rfl⟩)
  obtain ⟨U, hU⟩ : ∃ U, U = w13.alloc (.cells #[.int .i64 1, .int .i64 5] 29) := ⟨_, rfl⟩
  have hl : Helds U (fun _ => True) (.slice (some ⟨w13.heap.size, 0, none⟩) 1 1) [(1, 5)] := by
    rw [hU]
    exact ⟨slBlk (sz := 2) (cs := #[.int .i64 1, .int .i64 5]) (Blk.new w13 29 #[.int .i64 1, .int .i64 5]) (Nat.le_refl 1) (by unfold maxLen; omega) rfl, fun p hp => by simp at hp; subst hp; exact ⟨⟨by omega, by omega⟩, by omega, by omega⟩⟩
  have hb : Below w13.heap.size w13 U := by rw [hU]; exact (Below.refl _ _).alloc (Nat.le_refl _) _
  rw [← hU]
  have HLL := Lib.hid hl
  clear hU hl
  have HA14 := Lib.hid (HA13.out.grow hb)
  have HB14 := Lib.hid (HB13.out.trans (hb.mono HB13.out.size))
  clear hb
  refine (of_any (bud := 10) (sp := 6) HLL.out).mono ?_
  rintro e w15 ⟨hb, (⟨h0, rfl⟩ | ⟨h0, _⟩)⟩
  rotate_left
  · exact absurd h0 (by decide)
  rw [show ofE 10 6 [(1, 5)] = 8 from by decide]
  clear h0
  have HA15 := Lib.hid (HA14.out.grow hb)
  have HB15 := Lib.hid (HB14.out.trans (hb.mono HB14.out.size))
  clear hb
  go_wp2_with (go_at_call 14; refine (num_any _ _).mono ?_; rintro e w9 ⟨rfl, rfl⟩)
  refine (of_any (bud := 10) (sp := 3) (Helds.nil w15 (fun _ => True))).mono ?_
  rintro e w16 ⟨hb, (⟨h0, _⟩ | ⟨h0, rfl, hb2⟩)⟩
  · exact absurd (by decide) h0
  have HN := Lib.hid (show AccAt w16 (w15.heap.size + 1) w15.heap.size 0 kA5 from hb2)
  clear h0 hb2
  have HA16 := Lib.hid (HA15.out.grow hb)
  have HB16 := Lib.hid (HB15.out.trans (hb.mono HB15.out.size))
  clear hb
  go_wp2_with (go_at_call 14; refine (num_any _ _).mono ?_; rintro e w9 ⟨rfl, rfl⟩)
  refine (same_live HA16.out HN.out okA5.rise okA5.rise).mono ?_
  rintro e w17 ⟨rfl, hb⟩
  rw [show sameB kA5 kA5 = true from by decide]
  have HA17 := Lib.hid (HA16.out.grow hb)
  have HB17 := Lib.hid (HB16.out.trans (hb.mono HB16.out.size))
  clear hb
  go_wp2_with (go_at_call 14; refine (num_any _ _).mono ?_; rintro e w9 ⟨rfl, rfl⟩)
  refine (can_live HA17.out okA5 (x := 3) (v := 7) ⟨by omega, by omega⟩).mono ?_
  rintro e w18 ⟨rfl, hb⟩
  rw [show decide (kA5.holdE 3 7 = 0) = true from by decide]
  have HA18 := Lib.hid (HA17.out.grow hb)
  have HB18 := Lib.hid (HB17.out.trans (hb.mono HB17.out.size))
  clear hb
  go_wp2_with (go_at_call 14; refine (num_any _ _).mono ?_; rintro e w9 ⟨rfl, rfl⟩)
  refine (can_live HA18.out okA5 (x := 3) (v := 8) ⟨by omega, by omega⟩).mono ?_
  rintro e w19 ⟨rfl, hb⟩
  rw [show decide (kA5.holdE 3 8 = 0) = false from by decide]
  have HA19 := Lib.hid (HA18.out.grow hb)
  have HB19 := Lib.hid (HB18.out.trans (hb.mono HB18.out.size))
  clear hb
  go_wp2_with (go_at_call 14; refine (num_any _ _).mono ?_; rintro e w9 ⟨rfl, rfl⟩)
  go_ret
  exact ⟨rfl, HB19.out⟩
end Go.Proofs.Ytibhmgeckghoeaa.Ac

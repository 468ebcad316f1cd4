/- Account: AccountNil. (Printed by tools/gen_nil.py.) -/
import Derived.Test.YtibhmgeckghoeaaAccDe
import Derived.Test.YtibhmgeckghoeaaAccGo
namespace Go.Proofs.Ytibhmgeckghoeaa.Ac
open Go.RowKit Go.Shelf Go.Maps
open Go.Proofs.Ytibhmgeckghoeaa.Vb
attribute [local go_sem] Oper.semAt_some

set_option maxRecDepth 100000 in
set_option maxHeartbeats 8000000 in
theorem nothing_any {v : Value} {f : Fm} {w0 : World} (h : AtP w0 v f) (hf : f.there = false) : Calls Try.prog 31 #[v] w0 fun e w' => e = .returned (.bool true) ∧ Below w0.heap.size w0 w' := by
  have HF := Lib.hid hf
  have HM := Lib.hid (dead_M hf)
  have HK := Lib.hid (show f.Ok from by cases f with | live a => cases hf | nil => trivial | zero => trivial)
  have HBD := Lib.hid (show f.bud = 0 from by cases f with | live a => cases hf | nil => rfl | zero => rfl)
  have HSP := Lib.hid (show f.sp = 0 from by cases f with | live a => cases hf | nil => rfl | zero => rfl)
  have HFR := Lib.hid (show f.free = 0 from by cases f with | live a => cases hf | nil => rfl | zero => rfl)
  have HSA := Lib.hid (show f.same f = false from by cases f with | live a => cases hf | nil => rfl | zero => rfl)
  have HV0 := Lib.hid h
  have HB0 := Lib.hid (Below.refl w0.heap.size w0)
  clear h hf
  go_enter Try.func31, Try.ntmps31
  go_wp2_with (go_at_call 14; refine (num_any _ _).mono ?_; rintro e w9 ⟨rfl, rfl⟩)
  refine (release_dead HV0.out HF.out (x := -1) ⟨by omega, by omega⟩).mono ?_
  rintro e w1 ⟨rfl, hb⟩
  have HV1 := Lib.hid (HV0.out.grow hb)
  have HB1 := Lib.hid (HB0.out.trans (hb.mono HB0.out.size))
  clear hb
  go_wp2_with (go_at_call 14; refine (num_any _ _).mono ?_; rintro e w9 ⟨rfl, rfl⟩)
  refine (bring_dead HV1.out HF.out).mono ?_
  rintro e w2 ⟨rfl, hb⟩
  have HV2 := Lib.hid (HV1.out.grow hb)
  have HB2 := Lib.hid (HB1.out.trans (hb.mono HB1.out.size))
  clear hb
  go_wp2_with (go_at_call 14; refine (num_any _ _).mono ?_; rintro e w9 ⟨rfl, rfl⟩)
  refine (hold_dead HV2.out HF.out).mono ?_
  rintro e w3 ⟨rfl, hb⟩
  have HV3 := Lib.hid (HV2.out.grow hb)
  have HB3 := Lib.hid (HB2.out.trans (hb.mono HB2.out.size))
  clear hb
  go_wp2_with (go_at_call 14; refine (num_any _ _).mono ?_; rintro e w9 ⟨rfl, rfl⟩)
  refine (pay_dead HV3.out HF.out).mono ?_
  rintro e w4 ⟨rfl, hb⟩
  have HV4 := Lib.hid (HV3.out.grow hb)
  have HB4 := Lib.hid (HB3.out.trans (hb.mono HB3.out.size))
  clear hb
  go_wp2_with (go_at_call 14; refine (num_any _ _).mono ?_; rintro e w9 ⟨rfl, rfl⟩)
  refine (take_dead HV4.out HF.out).mono ?_
  rintro e w5 ⟨rfl, hb⟩
  have HV5 := Lib.hid (HV4.out.grow hb)
  have HB5 := Lib.hid (HB4.out.trans (hb.mono HB4.out.size))
  clear hb
  go_wp2_with (go_at_call 14; refine (num_any _ _).mono ?_; rintro e w9 ⟨rfl, rfl⟩)
  refine (budget_any HV5.out).mono ?_
  rintro e w6 ⟨rfl, hw⟩
  rw [hw]
  clear hw
  rw [HBD.out]
  have HV6 := HV5
  have HB6 := HB5
  go_wp2_with (go_at_call 14; refine (num_any _ _).mono ?_; rintro e w9 ⟨rfl, rfl⟩)
  refine (spent_any HV6.out).mono ?_
  rintro e w7 ⟨rfl, hw⟩
  rw [hw]
  clear hw
  rw [HSP.out]
  have HV7 := HV6
  have HB7 := HB6
  go_wp2_with (go_at_call 14; refine (num_any _ _).mono ?_; rintro e w9 ⟨rfl, rfl⟩)
  refine (free_any HV7.out HK.out).mono ?_
  rintro e w8 ⟨rfl, hb⟩
  rw [HFR.out]
  have HV8 := Lib.hid (HV7.out.grow hb)
  have HB8 := Lib.hid (HB7.out.trans (hb.mono HB7.out.size))
  clear hb
  go_wp2_with (go_at_call 14; refine (num_any _ _).mono ?_; rintro e w9 ⟨rfl, rfl⟩)
  refine (held_any HV8.out HK.out).mono ?_
  rintro e w9 ⟨rfl, hb⟩
  rw [HM.out, show sumM [] = 0 from rfl]
  have HV9 := Lib.hid (HV8.out.grow hb)
  have HB9 := Lib.hid (HB8.out.trans (hb.mono HB8.out.size))
  clear hb
  go_wp2_with (go_at_call 14; refine (num_any _ _).mono ?_; rintro e w9 ⟨rfl, rfl⟩)
  refine (at_any HV9.out (x := 0) ⟨by omega, by omega⟩).mono ?_
  rintro e w10 ⟨rfl, hw⟩
  rw [hw]
  clear hw
  rw [HM.out, show atM [] 0 = 0 from rfl]
  have HV10 := HV9
  have HB10 := HB9
  go_wp2_with (go_at_call 14; refine (num_any _ _).mono ?_; rintro e w9 ⟨rfl, rfl⟩)
  refine (can_dead HV10.out HF.out).mono ?_
  rintro e w11 ⟨rfl, hb⟩
  have HV11 := Lib.hid (HV10.out.grow hb)
  have HB11 := Lib.hid (HB10.out.trans (hb.mono HB10.out.size))
  clear hb
  go_wp2_with (go_at_call 14; refine (num_any _ _).mono ?_; rintro e w9 ⟨rfl, rfl⟩)
  refine (same_any HV11.out HV11.out HK.out HK.out).mono ?_
  rintro e w12 ⟨rfl, hb⟩
  rw [HSA.out]
  have HV12 := Lib.hid (HV11.out.grow hb)
  have HB12 := Lib.hid (HB11.out.trans (hb.mono HB11.out.size))
  clear hb
  go_wp2_with (go_at_call 14; refine (num_any _ _).mono ?_; rintro e w9 ⟨rfl, rfl⟩)
  refine (copy_dead HV12.out HF.out).mono ?_
  rintro e w13 ⟨rfl, hw⟩
  rw [hw]
  clear hw
  have HV13 := HV12
  have HB13 := HB12
  go_wp2_with (go_at_call 14; refine (num_any _ _).mono ?_; rintro e w9 ⟨rfl, rfl⟩)
  refine (goes_any HV13.out HK.out.h (.inl ⟨rfl, HM.out⟩)).mono ?_
  rintro e w14 ⟨rfl, hb⟩
  have HV14 := Lib.hid (HV13.out.grow hb)
  have HB14 := Lib.hid (HB13.out.trans (hb.mono HB13.out.size))
  clear hb
  go_wp2_with (go_at_call 14; refine (num_any _ _).mono ?_; rintro e w9 ⟨rfl, rfl⟩)
  go_ret
  exact ⟨rfl, HB14.out⟩

def nA : Acc := ⟨10, 0, []⟩
def nB : Acc := ⟨12, 2, []⟩
def nC : Acc := ⟨12, 0, [(3, 2)]⟩
theorem okNA : nA.Ok := acc_ok (by decide) (by decide) (by decide) (by decide) (by decide)
theorem okNB : nB.Ok := acc_ok (by decide) (by decide) (by decide) (by decide) (by decide)
theorem okNC : nC.Ok := acc_ok (by decide) (by decide) (by decide) (by decide) (by decide)

set_option maxRecDepth 100000 in
set_option maxHeartbeats 8000000 in
theorem accountNil_walk (w0 : World) : Calls Try.prog 6 #[] w0 fun e w' => e = .returned (.bool true) ∧ Below w0.heap.size w0 w' := by
  have HB0 := Lib.hid (Below.refl w0.heap.size w0)
  go_enter Try.func6, Try.ntmps6
  go_wp2_with (go_at_call 14; refine (num_any _ _).mono ?_; rintro e w9 ⟨rfl, rfl⟩)
  refine (new_any 1099511627776 w0).mono ?_
  rintro e w1 ⟨hb, (⟨h0, _⟩ | ⟨_, rfl, hA⟩)⟩
  · exact absurd (by decide) h0
  clear hA
  have HB1 := Lib.hid (HB0.out.trans (hb.mono HB0.out.size))
  clear hb
  go_wp2_with (go_at_call 14; refine (num_any _ _).mono ?_; rintro e w9 ⟨rfl, rfl⟩)
  refine (new_any 1099511627777 w1).mono ?_
  rintro e w2 ⟨hb, (⟨_, rfl⟩ | ⟨h0, _⟩)⟩
  rotate_left
  · exact absurd h0 (by decide)
  have HB2 := Lib.hid (HB1.out.trans (hb.mono HB1.out.size))
  clear hb
  go_wp2_with (go_at_call 14; refine (num_any _ _).mono ?_; rintro e w9 ⟨rfl, rfl⟩)
  refine (of_any (bud := 1099511627776) (sp := 1099511627776) (Helds.nil w2 (fun _ => True))).mono ?_
  rintro e w3 ⟨hb, (⟨h0, _⟩ | ⟨h0, rfl, hA⟩)⟩
  · exact absurd (by decide) h0
  clear h0 hA
  have HB3 := Lib.hid (HB2.out.trans (hb.mono HB2.out.size))
  clear hb
  go_wp2_with (go_at_call 14; refine (num_any _ _).mono ?_; rintro e w9 ⟨rfl, rfl⟩)
  obtain ⟨w4, hU⟩ : ∃ U, U = w3.alloc (.cells #[.int .i64 0, .int .i64 1099511627777] 29) := ⟨_, rfl⟩
  have hl : Helds w4 (fun _ => True) (.slice (some ⟨w3.heap.size, 0, none⟩) 1 1) [(0, 1099511627777)] := by
    rw [hU]
    exact ⟨slBlk (sz := 2) (cs := #[.int .i64 0, .int .i64 1099511627777]) (Blk.new w3 29 #[.int .i64 0, .int .i64 1099511627777]) (Nat.le_refl 1) (by unfold maxLen; omega) rfl, fun p hp => by simp at hp; subst hp; exact ⟨⟨by omega, by omega⟩, by omega, by omega⟩⟩
  have hb : Below w3.heap.size w3 w4 := by rw [hU]; exact (Below.refl _ _).alloc (Nat.le_refl _) _
  rw [← hU]
  have HLL := Lib.hid hl
  clear hU hl
  have HB4 := Lib.hid (HB3.out.trans (hb.mono HB3.out.size))
  clear hb
  refine (of_any (bud := 0) (sp := 0) HLL.out).mono ?_
  rintro e w5 ⟨hb, (⟨h0, rfl⟩ | ⟨h0, _⟩)⟩
  rotate_left
  · exact absurd h0 (by decide)
  rw [show ofE 0 0 [(0, 1099511627777)] = 2 from by decide]
  clear h0
  have HB5 := Lib.hid (HB4.out.trans (hb.mono HB4.out.size))
  clear hb
  go_wp2_with (go_at_call 14; refine (num_any _ _).mono ?_; rintro e w9 ⟨rfl, rfl⟩)
  obtain ⟨w6, hU⟩ : ∃ U, U = w5.alloc (.cells #[.int .i64 0, .int .i64 1099511627776] 29) := ⟨_, rfl⟩
  have hl : Helds w6 (fun _ => True) (.slice (some ⟨w5.heap.size, 0, none⟩) 1 1) [(0, 1099511627776)] := by
    rw [hU]
    exact ⟨slBlk (sz := 2) (cs := #[.int .i64 0, .int .i64 1099511627776]) (Blk.new w5 29 #[.int .i64 0, .int .i64 1099511627776]) (Nat.le_refl 1) (by unfold maxLen; omega) rfl, fun p hp => by simp at hp; subst hp; exact ⟨⟨by omega, by omega⟩, by omega, by omega⟩⟩
  have hb : Below w5.heap.size w5 w6 := by rw [hU]; exact (Below.refl _ _).alloc (Nat.le_refl _) _
  rw [← hU]
  have HLL := Lib.hid hl
  clear hU hl
  have HB6 := Lib.hid (HB5.out.trans (hb.mono HB5.out.size))
  clear hb
  refine (of_any (bud := 0) (sp := 0) HLL.out).mono ?_
  rintro e w7 ⟨hb, (⟨h0, rfl⟩ | ⟨h0, _⟩)⟩
  rotate_left
  · exact absurd h0 (by decide)
  rw [show ofE 0 0 [(0, 1099511627776)] = 8 from by decide]
  clear h0
  have HB7 := Lib.hid (HB6.out.trans (hb.mono HB6.out.size))
  clear hb
  go_wp2_with (go_at_call 14; refine (num_any _ _).mono ?_; rintro e w9 ⟨rfl, rfl⟩)
  refine (new_any 10 w7).mono ?_
  rintro e w8 ⟨hb, (⟨h0, _⟩ | ⟨_, rfl, hA⟩)⟩
  · exact absurd (by decide) h0
  have HA := Lib.hid (show AccAt w8 (w7.heap.size + 1) w7.heap.size 0 nA from hA)
  clear hA
  have HB8 := Lib.hid (HB7.out.trans (hb.mono HB7.out.size))
  clear hb
  go_wp2_with (go_at_call 14; refine (num_any _ _).mono ?_; rintro e w9 ⟨rfl, rfl⟩)
  refine (of_any (bud := 12) (sp := 2) (Helds.nil w8 (fun _ => True))).mono ?_
  rintro e w9 ⟨hb, (⟨h0, _⟩ | ⟨h0, rfl, hA⟩)⟩
  · exact absurd (by decide) h0
  have HC := Lib.hid (show AccAt w9 (w8.heap.size + 1) w8.heap.size 0 nB from hA)
  clear h0 hA
  have HA := Lib.hid (HA.out.grow hb)
  have HB9 := Lib.hid (HB8.out.trans (hb.mono HB8.out.size))
  clear hb
  go_wp2_with (go_at_call 14; refine (num_any _ _).mono ?_; rintro e w9 ⟨rfl, rfl⟩)
  obtain ⟨w10, hU⟩ : ∃ U, U = w9.alloc (.cells #[.int .i64 3, .int .i64 2] 29) := ⟨_, rfl⟩
  have hl : Helds w10 (fun _ => True) (.slice (some ⟨w9.heap.size, 0, none⟩) 1 1) [(3, 2)] := by
    rw [hU]
    exact ⟨slBlk (sz := 2) (cs := #[.int .i64 3, .int .i64 2]) (Blk.new w9 29 #[.int .i64 3, .int .i64 2]) (Nat.le_refl 1) (by unfold maxLen; omega) rfl, fun p hp => by simp at hp; subst hp; exact ⟨⟨by omega, by omega⟩, by omega, by omega⟩⟩
  have hb : Below w9.heap.size w9 w10 := by rw [hU]; exact (Below.refl _ _).alloc (Nat.le_refl _) _
  rw [← hU]
  have HLL := Lib.hid hl
  clear hU hl
  have HA := Lib.hid (HA.out.grow hb)
  have HC := Lib.hid (HC.out.grow hb)
  have HB10 := Lib.hid (HB9.out.trans (hb.mono HB9.out.size))
  clear hb
  refine (of_any (bud := 12) (sp := 0) HLL.out).mono ?_
  rintro e w11 ⟨hb, (⟨h0, _⟩ | ⟨h0, rfl, hA⟩)⟩
  · exact absurd (by decide) h0
  have HD := Lib.hid (show AccAt w11 (w10.heap.size + 1) w10.heap.size 1 nC from hA)
  clear h0 hA
  have HA := Lib.hid (HA.out.grow hb)
  have HC := Lib.hid (HC.out.grow hb)
  have HB11 := Lib.hid (HB10.out.trans (hb.mono HB10.out.size))
  clear hb
  go_wp2_with (go_at_call 14; refine (num_any _ _).mono ?_; rintro e w9 ⟨rfl, rfl⟩)
  refine (same_live HA.out HC.out okNA.rise okNB.rise).mono ?_
  rintro e w12 ⟨rfl, hb⟩
  rw [show sameB nA nB = false from by decide]
  have HA := Lib.hid (HA.out.grow hb)
  have HC := Lib.hid (HC.out.grow hb)
  have HD := Lib.hid (HD.out.grow hb)
  have HB12 := Lib.hid (HB11.out.trans (hb.mono HB11.out.size))
  clear hb
  go_wp2_with (go_at_call 14; refine (num_any _ _).mono ?_; rintro e w9 ⟨rfl, rfl⟩)
  refine (same_live HC.out HD.out okNB.rise okNC.rise).mono ?_
  rintro e w13 ⟨rfl, hb⟩
  rw [show sameB nB nC = false from by decide]
  have HA := Lib.hid (HA.out.grow hb)
  have HC := Lib.hid (HC.out.grow hb)
  have HD := Lib.hid (HD.out.grow hb)
  have HB13 := Lib.hid (HB12.out.trans (hb.mono HB12.out.size))
  clear hb
  go_wp2_with (go_at_call 14; refine (num_any _ _).mono ?_; rintro e w9 ⟨rfl, rfl⟩)
  refine (same_live HA.out HD.out okNA.rise okNC.rise).mono ?_
  rintro e w14 ⟨rfl, hb⟩
  rw [show sameB nA nC = false from by decide]
  have HA := Lib.hid (HA.out.grow hb)
  have HC := Lib.hid (HC.out.grow hb)
  have HD := Lib.hid (HD.out.grow hb)
  have HB14 := Lib.hid (HB13.out.trans (hb.mono HB13.out.size))
  clear hb
  go_wp2_with (go_at_call 14; refine (num_any _ _).mono ?_; rintro e w9 ⟨rfl, rfl⟩)
  refine (free_any (f := .live nA) ⟨_, _, _, rfl, HA.out⟩ okNA).mono ?_
  rintro e w15 ⟨rfl, hb⟩
  rw [show (Fm.live nA).free = 10 from by decide]
  have HA := Lib.hid (HA.out.grow hb)
  have HC := Lib.hid (HC.out.grow hb)
  have HD := Lib.hid (HD.out.grow hb)
  have HB15 := Lib.hid (HB14.out.trans (hb.mono HB14.out.size))
  clear hb
  go_wp2_with (go_at_call 14; refine (num_any _ _).mono ?_; rintro e w9 ⟨rfl, rfl⟩)
  refine (free_any (f := .live nB) ⟨_, _, _, rfl, HC.out⟩ okNB).mono ?_
  rintro e w16 ⟨rfl, hb⟩
  rw [show (Fm.live nB).free = 10 from by decide]
  have HA := Lib.hid (HA.out.grow hb)
  have HC := Lib.hid (HC.out.grow hb)
  have HD := Lib.hid (HD.out.grow hb)
  have HB16 := Lib.hid (HB15.out.trans (hb.mono HB15.out.size))
  clear hb
  go_wp2_with (go_at_call 14; refine (num_any _ _).mono ?_; rintro e w9 ⟨rfl, rfl⟩)
  refine (free_any (f := .live nB) ⟨_, _, _, rfl, HC.out⟩ okNB).mono ?_
  rintro e w17 ⟨rfl, hb⟩
  rw [show (Fm.live nB).free = 10 from by decide]
  have HA := Lib.hid (HA.out.grow hb)
  have HC := Lib.hid (HC.out.grow hb)
  have HD := Lib.hid (HD.out.grow hb)
  have HB17 := Lib.hid (HB16.out.trans (hb.mono HB16.out.size))
  clear hb
  go_wp2_with (go_at_call 14; refine (num_any _ _).mono ?_; rintro e w9 ⟨rfl, rfl⟩)
  refine (free_any (f := .live nC) ⟨_, _, _, rfl, HD.out⟩ okNC).mono ?_
  rintro e w18 ⟨rfl, hb⟩
  rw [show (Fm.live nC).free = 10 from by decide]
  have HA := Lib.hid (HA.out.grow hb)
  have HC := Lib.hid (HC.out.grow hb)
  have HD := Lib.hid (HD.out.grow hb)
  have HB18 := Lib.hid (HB17.out.trans (hb.mono HB17.out.size))
  clear hb
  go_wp2_with (go_at_call 14; refine (num_any _ _).mono ?_; rintro e w9 ⟨rfl, rfl⟩)
  refine (nothing_any (v := .pointer none) (f := .nil) rfl rfl).mono ?_
  rintro e w19 ⟨rfl, hb⟩
  have HB19 := Lib.hid (HB18.out.trans (hb.mono HB18.out.size))
  clear hb
  go_wp2_with (go_at_call 14; refine (num_any _ _).mono ?_; rintro e w9 ⟨rfl, rfl⟩)
  obtain ⟨w20, hU⟩ : ∃ U, U = w19.alloc (.cells #[.int .i64 0, .int .i64 0, .map none] 67) := ⟨_, rfl⟩
  have hz : AtP w20 (.pointer (some ⟨w19.heap.size, 0, none⟩)) .zero := ⟨_, rfl, by rw [hU]; exact Blk.new _ _ _⟩
  have hb : Below w19.heap.size w19 w20 := by rw [hU]; exact (Below.refl _ _).alloc (Nat.le_refl _) _
  rw [← hU]
  have HZ := Lib.hid hz
  clear hU hz
  have HB20 := Lib.hid (HB19.out.trans (hb.mono HB19.out.size))
  clear hb
  refine (nothing_any (f := .zero) HZ.out rfl).mono ?_
  rintro e w21 ⟨rfl, hb⟩
  have HB21 := Lib.hid (HB20.out.trans (hb.mono HB20.out.size))
  clear hb
  go_wp2_with (go_at_call 14; refine (num_any _ _).mono ?_; rintro e w9 ⟨rfl, rfl⟩)
  refine (known_any w21).mono ?_
  rintro e w22 ⟨rfl, hb⟩
  have HB22 := Lib.hid (HB21.out.trans (hb.mono HB21.out.size))
  clear hb
  go_wp2_with (go_at_call 14; refine (num_any _ _).mono ?_; rintro e w9 ⟨rfl, rfl⟩)
  go_ret
  exact ⟨rfl, HB22.out⟩
end Go.Proofs.Ytibhmgeckghoeaa.Ac

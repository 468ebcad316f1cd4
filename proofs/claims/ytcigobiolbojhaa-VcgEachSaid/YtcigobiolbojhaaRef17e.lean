/- The reference of layer 17: Pivotal, Gains. -/
import Derived.Test.YtcigobiolbojhaaRef17d
import Derived.Deep.RegionHeld3
namespace Go.Proofs.Ytcigobiolbojhaa.Vb
open Go.RowKit

set_option maxHeartbeats 800000 in
theorem refPivotal_err (n : Int) (bs : List (List Off)) (v : Value) (R : Nat → Prop) (w : World) (hl : Buys w R v bs) (hi : instE n bs ≠ 0) :
    Calls Try.prog 29 #[.agg #[.int .i64 n, v]] w fun e w' => e = .returned (.tuple #[.slice none 0 0, .int .i64 (instE n bs)]) ∧ Below w.heap.size w w' := by
  obtain ⟨vs, ⟨_, A, cap, rfl, _⟩, _⟩ := id hl
  have HB := Lib.hid hl
  have hcb : (instE n bs != 0) = true := by simpa using hi
  have HI := Lib.hid hi
  clear hl hi
  go_enter Try.func29, Try.ntmps29
  go_wp2_with (go_at_call 30; refine (refInstance_any n bs _ R _ (HB.out.alloc _)).mono ?_; rintro e w1 ⟨rfl, hb1⟩; have HB1 := Lib.hid (one_blk' hb1).2.2; clear hb1)
  go_ret2
  exact ⟨rfl, HB1.out⟩

set_option maxHeartbeats 800000 in
theorem refGains_err (n : Int) (bs : List (List Off)) (v : Value) (R : Nat → Prop) (w : World) (hl : Buys w R v bs) (hi : instE n bs ≠ 0) :
    Calls Try.prog 27 #[.agg #[.int .i64 n, v]] w fun e w' => e = .returned (.tuple #[.slice none 0 0, .int .i64 (instE n bs)]) ∧ Below w.heap.size w w' := by
  obtain ⟨vs, ⟨_, A, cap, rfl, _⟩, _⟩ := id hl
  have HB := Lib.hid hl
  have hcb : (instE n bs != 0) = true := by simpa using hi
  have HI := Lib.hid hi
  clear hl hi
  go_enter Try.func27, Try.ntmps27
  go_wp2_with (go_at_call 17; refine (refCosts_err n bs _ R _ (HB.out.alloc _) HI.out).mono ?_; rintro e w1 ⟨rfl, hb1⟩; have HB1 := Lib.hid (one_blk' hb1).2.2; clear hb1)
  go_ret2
  exact ⟨rfl, HB1.out.alloc HB1.out.size _⟩

set_option maxRecDepth 100000 in
set_option maxHeartbeats 3200000 in
theorem refPivotal_ok (n : Int) (bs : List (List Off)) (v : Value) (R : Nat → Prop) (w : World) (hl : Buys w R v bs) (hi : instE n bs = 0) :
    Calls Try.prog 29 #[.agg #[.int .i64 n, v]] w fun e w' => ∃ A' cap', e = .returned (.tuple #[.slice A' (pivotC n bs).length cap', .int .i64 0]) ∧
      w'.ownsRow w.heap.size 3 1 (.slice A' (pivotC n bs).length cap') (pivotC n bs).length (ints (pivotC n bs)) ∧ Below w.heap.size w w' := by
  obtain ⟨vs, ⟨_, A, cap, rfl, _⟩, _⟩ := id hl
  have HB := Lib.hid hl
  have HI := Lib.hid hi
  have hl32 := (instE_zero hi).2.2.1
  clear hl hi
  go_enter Try.func29, Try.ntmps29
  go_wp2_with (go_at_call 30; refine (refInstance_any n bs _ R _ (HB.out.alloc _)).mono ?_; rintro e w1 ⟨rfl, hb1⟩; rw [HI.out]; have HX := Lib.hid (one_blk' hb1).1; have HB1 := Lib.hid (one_blk' hb1).2.2; have hs1 := (one_blk' hb1).2.1; clear hb1)
  go_loopw [5, 6] (fun s i wr => ∃ (k m : Nat) (A' : Option Addr) (cap' : Nat), k ≤ bs.length ∧ i = .int .i64 k ∧ m = (pivotTo n bs k).length ∧ s = .slice A' m cap' ∧
      wr.ownsRow w1.heap.size 3 1 (.slice A' m cap') m (ints (pivotTo n bs k)) ∧ Below w1.heap.size w1 wr)
    (fun _ i _ => bs.length - (intOf i).toNat)
  case atStart => exact ⟨0, 0, none, 0, Nat.zero_le _, rfl, rfl, rfl, World.ownsRow_nil _ _ _ _, Below.refl _ _⟩
  case round =>
    obtain ⟨k, m, A', cap', hk, rfl, hm, rfl, hown, hbr⟩ := hrel
    have hml : m ≤ k := by rw [hm]; exact pivotTo_len n bs k
    have hX := HX.out.grow hbr
    have x0 : wr.cell? ⟨w.heap.size, 0, none⟩ = some (.int .i64 n) := hX.cell 0
    have x1 : wr.cell? ⟨w.heap.size, 1, none⟩ = some (.slice A bs.length cap) := hX.cell 1
    have hbw := HB1.out.trans (hbr.mono (by omega))
    have hszr := hbr.size
    have HM := Lib.hid hm
    have HX1 := Lib.hid hX
    have HO := Lib.hid hown
    have HBR := Lib.hid hbr
    have HBW := Lib.hid hbw
    have HBY := Lib.hid (HB.out.grow hbw)
    by_cases hlt : k < bs.length
    · clear hX hown hbr hbw hm
      by_cases hg : woW n bs k < W bs (allOf n)
      all_goals
        have hgb : decide (woW n bs k < W bs (allOf n)) = decide (woW n bs k < W bs (allOf n)) := rfl
        have HG := Lib.hid hg
      · go_wp2_with (first
          | (go_at_call 25; refine (refWithout_any n bs (k : Nat) _ R _ HBY.out).mono ?_; rintro e w3 ⟨rfl, hb3⟩; obtain ⟨y0, y1⟩ : w3.cell? ⟨w.heap.size, 0, none⟩ = some (.int .i64 n) ∧ w3.cell? ⟨w.heap.size, 1, none⟩ = some (.slice A bs.length cap) := ⟨(HX1.out.grow hb3).cell 0, (HX1.out.grow hb3).cell 1⟩; have hs3 := hb3.size; have HB3 := Lib.hid hb3; clear hb3)
          | (go_at_call 81; refine (refW_any n bs _ R _ (HBY.out.grow HB3.out) HI.out).mono ?_; rintro e w4 ⟨rfl, hb4⟩; have hs4 := hb4.size; have HB4 := Lib.hid (HB3.out.trans (hb4.mono hs3)); have HO4 := Lib.hid (own_grow HO.out HB4.out); clear hb4)
          | (at_builtin; refine wpList_app _ rfl (.tmp 31) (.tmp 33) et_int rfl w1.heap.size (.slice A' m cap') m (ints (pivotTo n bs k)) rfl (HO4.out.alloc _) _ _ 1 _ rfl (Sl.new w4 #[.int .i64 (k : Nat)] _ 1 1 (by unfold maxLen; omega) rfl) (by simp [Value.oneCell']) (by omega) (by unfold maxLen; omega) (by simp; omega) ?_; intro A3 cap3 w5 hown5 hg5 hloc5; have HG5 := Lib.hid hg5; have HO5 := Lib.hid hown5; clear hg5 hown5 hloc5))
        go_roundw
        case rel =>
          have hyes : 0 < gainAt n bs k := by have := HG.out; unfold gainAt; omega
          refine ⟨k + 1, m + 1, A3, cap3, by omega, by go_num, by rw [pivotTo_yes hyes, HM.out]; simp, rfl, ?_, ((HBR.out.trans (HB4.out.mono hszr)).alloc (by omega) _).grown HG5.out (by simp; omega) (fun g e => (HO4.out.lt g e).1)⟩
          have := HO5.out
          rw [pivotTo_yes hyes]
          simpa [ints] using this
        case measure => simp [intOf]; omega
      · go_wp2_with (first
          | (go_at_call 25; refine (refWithout_any n bs (k : Nat) _ R _ HBY.out).mono ?_; rintro e w3 ⟨rfl, hb3⟩; obtain ⟨y0, y1⟩ : w3.cell? ⟨w.heap.size, 0, none⟩ = some (.int .i64 n) ∧ w3.cell? ⟨w.heap.size, 1, none⟩ = some (.slice A bs.length cap) := ⟨(HX1.out.grow hb3).cell 0, (HX1.out.grow hb3).cell 1⟩; have hs3 := hb3.size; have HB3 := Lib.hid hb3; clear hb3)
          | (go_at_call 81; refine (refW_any n bs _ R _ (HBY.out.grow HB3.out) HI.out).mono ?_; rintro e w4 ⟨rfl, hb4⟩; have hs4 := hb4.size; have HB4 := Lib.hid (HB3.out.trans (hb4.mono hs3)); have HO4 := Lib.hid (own_grow HO.out HB4.out); clear hb4))
        go_roundw
        case rel =>
          have hno : ¬ 0 < gainAt n bs k := by have := HG.out; unfold gainAt; omega
          refine ⟨k + 1, m, A', cap', by omega, by go_num, by rw [pivotTo_no hno]; exact HM.out, rfl, ?_, HBR.out.trans (HB4.out.mono hszr)⟩
          rw [pivotTo_no hno]
          exact HO4.out
        case measure => simp [intOf]; omega
    · obtain rfl : k = bs.length := by omega
      have hmm : m = (pivotC n bs).length := hm
      subst hmm
      clear hX hown hbr hbw hm
      go_wp2_with fail
      go_ret2
      exact ⟨A', cap', rfl, own_mono HO.out (by omega), HBW.out⟩
end Go.Proofs.Ytcigobiolbojhaa.Vb

/- clear.From, clear.W. -/
import Derived.Test.YtcigobiolbojhaaClear
namespace Go.Proofs.Ytcigobiolbojhaa.Vb
open Go.RowKit

theorem allOf_1024 {n : Int} (h : n ≤ 10) : allOf n < 1024 := by
  unfold allOf
  split
  · omega
  · have hp : 2 ^ n.toNat ≤ 1024 := Nat.le_trans (Nat.pow_le_pow_right (by omega) (show n.toNat ≤ 10 by omega)) (by decide)
    have hp0 : 0 < 2 ^ n.toNat := Nat.two_pow_pos _
    omega

/-- W of an instance, 0 of one that may not be. -/
def bestW (n : Int) (bs : List (List Off)) : Int := if instE n bs = 0 then W bs (allOf n) else 0

set_option maxHeartbeats 800000 in
theorem from_any (n : Int) (bs : List (List Off)) (v : Value) (R : Nat → Prop) (w : World) (hl : Buys w R v bs) :
    Calls Try.prog 90 #[.agg #[.int .i64 n, v], .int .i64 0, .int .u32 (allOf n : Nat)] w fun e w' => e = .returned (.tuple #[.int .i64 (bestW n bs), .int .i64 (instE n bs)]) ∧ Below w.heap.size w w' := by
  obtain ⟨vs, ⟨_, A, cap, rfl, _⟩, _⟩ := id hl
  have HB := Lib.hid hl
  have hwf := Lib.hid (buys_wf hl)
  clear hl
  by_cases hi : instE n bs = 0
  · have hW : bestW n bs = W bs (allOf n) := by unfold bestW; rw [if_pos hi]
    have h10 := allOf_1024 (instE_zero hi).2.1
    have hok := Lib.hid (okb_of hwf.out hi).1
    have HI := Lib.hid hi
    have HW := Lib.hid hW
    clear hi hW
    go_enter Try.func90, Try.ntmps90
    go_wp2_with (first
      | (go_at_call 120; refine (may_any n bs _ R _ (HB.out.alloc _)).mono ?_; rintro e w1 ⟨rfl, hb1⟩; rw [HI.out]; have hb1a := hb1.mono (B' := w.heap.size + 1) (by simp); obtain ⟨c0, c1, fz, hs1, hbw⟩ := one_new hb1a; have HBW := Lib.hid hbw; clear hbw hb1 hb1a)
      | (go_at_call 121; refine (of_any n bs _ R _ (HB.out.grow HBW.out) hok.out).mono ?_; rintro e w2 ⟨bb, m, rfl, hbd, hm, hb2⟩; have HBD := Lib.hid hbd; have HM := Lib.hid hm; have HB2 := Lib.hid hb2; clear hbd hm hb2)
      | (go_at_call 126; refine (w_any _ bb m n _ bs _ 0 (allOf n) _ _ _ rfl rfl rfl (by omega) h10 HBD.out).mono ?_; rintro e w3 ⟨rfl, hb3, hg3⟩; have HG3 := Lib.hid hg3; clear hb3 hg3))
    go_ret2
    refine ⟨by rw [HW.out, HI.out]; rfl, ?_⟩
    exact (HBW.out.trans (HB2.out.mono HBW.out.size)).grown HG3.out (by have := HBW.out.size; have := HB2.out.size; omega) (fun k e => by injection e with e; have := HM.out; have := HBW.out.size; omega)
  · have hW : bestW n bs = 0 := by unfold bestW; rw [if_neg hi]
    have hcb : (instE n bs != 0) = true := by simpa using hi
    have HI := Lib.hid hi
    have HW := Lib.hid hW
    clear hi hW
    go_enter Try.func90, Try.ntmps90
    go_wp2_with (go_at_call 120; refine (may_any n bs _ R _ (HB.out.alloc _)).mono ?_; rintro e w1 ⟨rfl, hb1⟩; have hb1a := hb1.mono (B' := w.heap.size + 1) (by simp); obtain ⟨c0, c1, fz, hs1, hbw⟩ := one_new hb1a; have HBW := Lib.hid hbw; clear hbw hb1 hb1a)
    go_ret2
    exact ⟨by rw [HW.out]; rfl, HBW.out⟩

set_option maxHeartbeats 800000 in
theorem W_any (n : Int) (bs : List (List Off)) (v : Value) (R : Nat → Prop) (w : World) (hl : Buys w R v bs) :
    Calls Try.prog 33 #[.agg #[.int .i64 n, v]] w fun e w' => e = .returned (.tuple #[.int .i64 (bestW n bs), .int .i64 (instE n bs)]) ∧ Below w.heap.size w w' := by
  obtain ⟨vs, ⟨_, A, cap, rfl, _⟩, _⟩ := id hl
  have HB := Lib.hid hl
  clear hl
  have d0 : (w.alloc (.cells #[.int .i64 n, .slice A bs.length cap] 24)).cell? ⟨w.heap.size, 0, none⟩ = some (.int .i64 n) := by simp
  have d1 : (w.alloc (.cells #[.int .i64 n, .slice A bs.length cap] 24)).cell? ⟨w.heap.size, 1, none⟩ = some (.slice A bs.length cap) := by simp
  go_enter Try.func33, Try.ntmps33
  go_wp2_with fail
  go_region_held3 (fun w' => w'.cell? ⟨w.heap.size, 0, none⟩ = some (.int .i64 n) ∧ w'.cell? ⟨w.heap.size, 1, none⟩ = some (.slice A bs.length cap)) (go_keep)
    (first
      | (go_at_call 88; refine (whole_any n _ _ _ _).mono ?_; rintro e w1 ⟨rfl, hb1⟩; have e0 := (hb1.cell (p := ⟨w.heap.size, 0, none⟩) (by simp)).trans d0; have e1 := (hb1.cell (p := ⟨w.heap.size, 1, none⟩) (by simp)).trans d1; have HB1 := Lib.hid hb1; clear hb1)
      | (go_at_call 90; refine (from_any n bs _ R _ (((HB.out.alloc _).drew).grow HB1.out)).mono ?_; rintro e w2 ⟨rfl, hb2⟩; have z0 := (hb2.cell (p := ⟨w.heap.size, 0, none⟩) (by have := HB1.out.size; simp at this; simp; omega)).trans e0; have z1 := (hb2.cell (p := ⟨w.heap.size, 1, none⟩) (by have := HB1.out.size; simp at this; simp; omega)).trans e1; have HB2 := Lib.hid hb2; clear hb2))
  all_goals go_wp2_with fail
  all_goals go_ret2
  all_goals refine ⟨by simp, ?_⟩
  all_goals exact ((Below.refl _ _).alloc (Nat.le_refl _) _).drew.trans ((HB1.out.mono (by simp)).trans (HB2.out.mono (by have := HB1.out.size; simp at this; omega)))
end Go.Proofs.Ytcigobiolbojhaa.Vb

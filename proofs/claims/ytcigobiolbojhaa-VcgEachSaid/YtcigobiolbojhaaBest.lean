/- clear.Part, clear.Best, clear.Without. -/
import Derived.Test.YtcigobiolbojhaaFirst
namespace Go.Proofs.Ytcigobiolbojhaa.Vb
open Go.RowKit

/-- the best choice of an instance -/
def bestC (n : Int) (bs : List (List Off)) : List Int := choose bs (allOf n)

set_option maxHeartbeats 800000 in
theorem part_ok (n : Int) (bs : List (List Off)) (v : Value) (R : Nat → Prop) (w : World) (hl : Buys w R v bs) (hi : instE n bs = 0) :
    Calls Try.prog 87 #[.agg #[.int .i64 n, v], .int .i64 0, .int .u32 (allOf n : Nat)] w fun e w' => ∃ A' cap', e = .returned (.tuple #[.agg #[.slice A' bs.length cap', .int .i64 (W bs (allOf n))], .int .i64 0]) ∧
      w'.ownsRow w.heap.size 3 1 (.slice A' bs.length cap') bs.length (ints (bestC n bs)) ∧ Below w.heap.size w w' := by
  obtain ⟨vs, ⟨_, A, cap, rfl, _⟩, _⟩ := id hl
  have HB := Lib.hid hl
  have hwf := Lib.hid (buys_wf hl)
  clear hl
  have h10 := allOf_1024 (instE_zero hi).2.1
  have hok := Lib.hid (okb_of hwf.out hi).1
  have HI := Lib.hid hi
  clear hi
  go_enter Try.func87, Try.ntmps87
  go_wp2_with (first
    | (go_at_call 120; refine (may_any n bs _ R _ ((HB.out.alloc _).alloc _)).mono ?_; rintro e w1 ⟨rfl, hb1⟩; rw [HI.out]; have hb1a := hb1.mono (B' := w.heap.size + 2) (by simp); obtain ⟨c0, c1, y0, y1, fx, fy, hs1, hbw⟩ := two_new hb1a; have HB1 := Lib.hid hb1a; have HBW := Lib.hid hbw; clear hbw hb1 hb1a)
    | (go_at_call 121; refine (of_any n bs _ R _ (HB.out.grow HBW.out) hok.out).mono ?_; rintro e w2 ⟨bb, m, rfl, hbd, hm, hb2⟩; have HBD := Lib.hid hbd; have HM := Lib.hid hm; have HB2 := Lib.hid hb2; clear hbd hm hb2)
    | (go_at_call 122; refine (first_any _ bb m n _ bs (allOf n) h10 _ HBD.out).mono ?_; rintro e w3 ⟨A3, cap3, rfl, hown3, hb3, hg3⟩; have hb4 := (HB1.out.trans (HB2.out.mono hs1)).grown hg3 (by have := HB2.out.size; omega) (fun k e => by injection e with e; have := HM.out; omega); obtain ⟨d0, d1, z0, z1, gx, gy, hs3, hbw3⟩ := two_new hb4; have HO3 := Lib.hid hown3; have HBW3 := Lib.hid hbw3; have hs23 := HB2.out.size; clear hown3 hb3 hg3 hb4 hbw3))
  refine bodyPost_ret (v := .tuple #[.agg #[.slice A3 bs.length cap3, .int .i64 (W bs (allOf n))], .int .i64 0]) (by simp [results, Try.results87, go_sem, z0, z1]) rfl ⟨A3, cap3, rfl, ?_, ?_⟩
  · exact own_mono (ownsRow_setCell_below (ownsRow_setCell_below HO3.out (a := ⟨w.heap.size + 1, 0, none⟩) (by simp; omega) _) (a := ⟨w.heap.size + 1, 1, none⟩) (by simp; omega) _) (by omega)
  · exact (HBW3.out.setCell (p := ⟨w.heap.size + 1, 0, none⟩) (by simp) _).setCell (p := ⟨w.heap.size + 1, 1, none⟩) (by simp) _

set_option maxHeartbeats 800000 in
theorem part_err (n : Int) (bs : List (List Off)) (v : Value) (R : Nat → Prop) (w : World) (hl : Buys w R v bs) (hi : instE n bs ≠ 0) :
    Calls Try.prog 87 #[.agg #[.int .i64 n, v], .int .i64 0, .int .u32 (allOf n : Nat)] w fun e w' => e = .returned (.tuple #[.agg #[.slice none 0 0, .int .i64 0], .int .i64 (instE n bs)]) ∧ Below w.heap.size w w' := by
  obtain ⟨vs, ⟨_, A, cap, rfl, _⟩, _⟩ := id hl
  have HB := Lib.hid hl
  have hcb : (instE n bs != 0) = true := by simpa using hi
  clear hl hi
  go_enter Try.func87, Try.ntmps87
  go_wp2_with (go_at_call 120; refine (may_any n bs _ R _ ((HB.out.alloc _).alloc _)).mono ?_; rintro e w1 ⟨rfl, hb1⟩; have hb1a := hb1.mono (B' := w.heap.size + 2) (by simp); obtain ⟨c0, c1, y0, y1, fx, fy, hs1, hbw⟩ := two_new hb1a; have HBW := Lib.hid hbw; clear hbw hb1 hb1a)
  refine bodyPost_ret (v := .tuple #[.agg #[.slice none 0 0, .int .i64 0], .int .i64 (instE n bs)]) (by simp [results, Try.results87, go_sem, y0, y1]) rfl ⟨rfl, ?_⟩
  exact (HBW.out.setCell (p := ⟨w.heap.size + 1, 0, none⟩) (by simp) _).setCell (p := ⟨w.heap.size + 1, 1, none⟩) (by simp) _

set_option maxHeartbeats 800000 in
theorem best_ok (n : Int) (bs : List (List Off)) (v : Value) (R : Nat → Prop) (w : World) (hl : Buys w R v bs) (hi : instE n bs = 0) :
    Calls Try.prog 31 #[.agg #[.int .i64 n, v]] w fun e w' => ∃ A' cap', e = .returned (.tuple #[.agg #[.slice A' bs.length cap', .int .i64 (W bs (allOf n))], .int .i64 0]) ∧
      w'.ownsRow w.heap.size 3 1 (.slice A' bs.length cap') bs.length (ints (bestC n bs)) ∧ Below w.heap.size w w' := by
  obtain ⟨vs, ⟨_, A, cap, rfl, _⟩, _⟩ := id hl
  have HB := Lib.hid hl
  have HI := Lib.hid hi
  clear hl hi
  go_enter Try.func31, Try.ntmps31
  go_wp2_with fail
  have hw0 : ∃ W0, W0 = (w.alloc (.cells #[.int .i64 n, .slice A bs.length cap] 24)).alloc (.cells #[.slice none 0 0, .int .i64 0] 66) := ⟨_, rfl⟩
  obtain ⟨W0, hW0⟩ := hw0
  obtain ⟨c0, c1, y0, y1, fx, fy, hs0, hbw⟩ := two_new (w1 := W0) (by rw [hW0]; exact Below.refl _ _)
  have HB0 := Lib.hid (show Buys W0 R _ _ from by rw [hW0]; exact (HB.out.alloc _).alloc _)
  have HBW := Lib.hid hbw
  rw [← hW0]
  clear hbw hW0
  go_region_held3 (fun w' => w'.cell? ⟨w.heap.size, 0, none⟩ = some (.int .i64 n) ∧ w'.cell? ⟨w.heap.size, 1, none⟩ = some (.slice A bs.length cap)) (go_keep)
    (first
      | (go_at_call 88; refine (whole_any n _ _ _ _).mono ?_; rintro e w1 ⟨rfl, hb1⟩; have e0 := (hb1.cell (p := ⟨w.heap.size, 0, none⟩) (by simp; omega)).trans c0; have e1 := (hb1.cell (p := ⟨w.heap.size, 1, none⟩) (by simp; omega)).trans c1; have e2 := (hb1.cell (p := ⟨w.heap.size + 1, 0, none⟩) (by simp; omega)).trans y0; have e3 := (hb1.cell (p := ⟨w.heap.size + 1, 1, none⟩) (by simp; omega)).trans y1; have e4 : ∀ i, w1.frozen? ⟨w.heap.size + 1, i, none⟩ = false := fun i => (hb1.frozen (p := ⟨w.heap.size + 1, i, none⟩) (by simp; omega)).trans (fy i); have hs1 := hb1.size; simp at hs1; have HB1 := Lib.hid hb1; clear hb1)
      | (go_at_call 87; refine (part_ok n bs _ R _ (HB0.out.drew.grow HB1.out) HI.out).mono ?_; rintro e w2 ⟨A2, cap2, rfl, hown2, hb2⟩; have z0 := (hb2.cell (p := ⟨w.heap.size, 0, none⟩) (by simp; omega)).trans e0; have z1 := (hb2.cell (p := ⟨w.heap.size, 1, none⟩) (by simp; omega)).trans e1; have z2 := (hb2.cell (p := ⟨w.heap.size + 1, 0, none⟩) (by simp; omega)).trans e2; have z3 := (hb2.cell (p := ⟨w.heap.size + 1, 1, none⟩) (by simp; omega)).trans e3; have z4 : ∀ i, w2.frozen? ⟨w.heap.size + 1, i, none⟩ = false := fun i => (hb2.frozen (p := ⟨w.heap.size + 1, i, none⟩) (by simp; omega)).trans (e4 i); have HB2 := Lib.hid hb2; have HO2 := Lib.hid hown2; clear hb2 hown2))
  go_wp2_with fail
  refine bodyPost_ret (v := .tuple #[.agg #[.slice A2 bs.length cap2, .int .i64 (W bs (allOf n))], .int .i64 0]) (by simp [results, Try.results31, go_sem, z2, z3]) rfl ⟨A2, cap2, rfl, ?_, ?_⟩
  · exact own_mono (ownsRow_setCell_below (ownsRow_setCell_below HO2.out (a := ⟨w.heap.size + 1, 0, none⟩) (by simp; omega) _) (a := ⟨w.heap.size + 1, 1, none⟩) (by simp; omega) _) (by omega)
  · exact (((HBW.out.drew.trans (HB1.out.mono (by simp; omega))).trans (HB2.out.mono (by omega))).setCell (p := ⟨w.heap.size + 1, 0, none⟩) (by simp) _).setCell (p := ⟨w.heap.size + 1, 1, none⟩) (by simp) _

set_option maxHeartbeats 800000 in
theorem best_err (n : Int) (bs : List (List Off)) (v : Value) (R : Nat → Prop) (w : World) (hl : Buys w R v bs) (hi : instE n bs ≠ 0) :
    Calls Try.prog 31 #[.agg #[.int .i64 n, v]] w fun e w' => e = .returned (.tuple #[.agg #[.slice none 0 0, .int .i64 0], .int .i64 (instE n bs)]) ∧ Below w.heap.size w w' := by
  obtain ⟨vs, ⟨_, A, cap, rfl, _⟩, _⟩ := id hl
  have HB := Lib.hid hl
  have HI := Lib.hid hi
  clear hl hi
  go_enter Try.func31, Try.ntmps31
  go_wp2_with fail
  have hw0 : ∃ W0, W0 = (w.alloc (.cells #[.int .i64 n, .slice A bs.length cap] 24)).alloc (.cells #[.slice none 0 0, .int .i64 0] 66) := ⟨_, rfl⟩
  obtain ⟨W0, hW0⟩ := hw0
  obtain ⟨c0, c1, y0, y1, fx, fy, hs0, hbw⟩ := two_new (w1 := W0) (by rw [hW0]; exact Below.refl _ _)
  have HB0 := Lib.hid (show Buys W0 R _ _ from by rw [hW0]; exact (HB.out.alloc _).alloc _)
  have HBW := Lib.hid hbw
  rw [← hW0]
  clear hbw hW0
  go_region_held3 (fun w' => w'.cell? ⟨w.heap.size, 0, none⟩ = some (.int .i64 n) ∧ w'.cell? ⟨w.heap.size, 1, none⟩ = some (.slice A bs.length cap)) (go_keep)
    (first
      | (go_at_call 88; refine (whole_any n _ _ _ _).mono ?_; rintro e w1 ⟨rfl, hb1⟩; have e0 := (hb1.cell (p := ⟨w.heap.size, 0, none⟩) (by simp; omega)).trans c0; have e1 := (hb1.cell (p := ⟨w.heap.size, 1, none⟩) (by simp; omega)).trans c1; have e2 := (hb1.cell (p := ⟨w.heap.size + 1, 0, none⟩) (by simp; omega)).trans y0; have e3 := (hb1.cell (p := ⟨w.heap.size + 1, 1, none⟩) (by simp; omega)).trans y1; have e4 : ∀ i, w1.frozen? ⟨w.heap.size + 1, i, none⟩ = false := fun i => (hb1.frozen (p := ⟨w.heap.size + 1, i, none⟩) (by simp; omega)).trans (fy i); have hs1 := hb1.size; simp at hs1; have HB1 := Lib.hid hb1; clear hb1)
      | (go_at_call 87; refine (part_err n bs _ R _ (HB0.out.drew.grow HB1.out) HI.out).mono ?_; rintro e w2 ⟨rfl, hb2⟩; have z0 := (hb2.cell (p := ⟨w.heap.size, 0, none⟩) (by simp; omega)).trans e0; have z1 := (hb2.cell (p := ⟨w.heap.size, 1, none⟩) (by simp; omega)).trans e1; have z2 := (hb2.cell (p := ⟨w.heap.size + 1, 0, none⟩) (by simp; omega)).trans e2; have z3 := (hb2.cell (p := ⟨w.heap.size + 1, 1, none⟩) (by simp; omega)).trans e3; have z4 : ∀ i, w2.frozen? ⟨w.heap.size + 1, i, none⟩ = false := fun i => (hb2.frozen (p := ⟨w.heap.size + 1, i, none⟩) (by simp; omega)).trans (e4 i); have HB2 := Lib.hid hb2; clear hb2))
  go_wp2_with fail
  refine bodyPost_ret (v := .tuple #[.agg #[.slice none 0 0, .int .i64 0], .int .i64 (instE n bs)]) (by simp [results, Try.results31, go_sem, z2, z3]) rfl ⟨rfl, ?_⟩
  exact (((HBW.out.drew.trans (HB1.out.mono (by simp; omega))).trans (HB2.out.mono (by omega))).setCell (p := ⟨w.heap.size + 1, 0, none⟩) (by simp) _).setCell (p := ⟨w.heap.size + 1, 1, none⟩) (by simp) _
end Go.Proofs.Ytcigobiolbojhaa.Vb

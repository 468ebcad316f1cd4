/- The reference of layer 17: Costs refused; SamePaid; Pivotal. -/
import Derived.Test.YtcigobiolbojhaaPlain17
namespace Go.Proofs.Ytcigobiolbojhaa.Vb
open Go.RowKit

set_option maxHeartbeats 800000 in
theorem refCosts_err (n : Int) (bs : List (List Off)) (v : Value) (R : Nat → Prop) (w : World) (hl : Buys w R v bs) (hi : instE n bs ≠ 0) :
    Calls Try.prog 17 #[.agg #[.int .i64 n, v]] w fun e w' => e = .returned (.tuple #[.agg #[.slice none 0 0, .int .i64 0, .slice none 0 0], .int .i64 (instE n bs)]) ∧ Below w.heap.size w w' := by
  obtain ⟨vs, ⟨_, A, cap, rfl, _⟩, _⟩ := id hl
  have HB := Lib.hid hl
  have hcb : (instE n bs != 0) = true := by simpa using hi
  have HI := Lib.hid hi
  clear hl hi
  go_enter Try.func17, Try.ntmps17
  go_wp2_with (go_at_call 30; refine (refInstance_any n bs _ R _ ((HB.out.alloc _).alloc _)).mono ?_; rintro e w1 ⟨rfl, hb1⟩; obtain ⟨hX, hP, hs1, hbw⟩ := two_blk' hb1; obtain ⟨r0, r1, r2⟩ : w1.cell? ⟨w.heap.size + 1, 0, none⟩ = some (.slice none 0 0) ∧ w1.cell? ⟨w.heap.size + 1, 1, none⟩ = some (.int .i64 0) ∧ w1.cell? ⟨w.heap.size + 1, 2, none⟩ = some (.slice none 0 0) := ⟨hP.cell 0, hP.cell 1, hP.cell 2⟩; have rf := hP.frozen; have HP := Lib.hid hP; have HBW := Lib.hid hbw; clear hX hP hb1 hbw)
  have hq := ((HP.out.set_ 0 (.slice none 0 0)).set_ 1 (.int .i64 0)).set_ 2 (.slice none 0 0)
  have q0 := hq.cell 0
  have q1 := hq.cell 1
  have q2 := hq.cell 2
  simp at q0 q1 q2
  refine bodyPost_ret (v := .tuple #[.agg #[.slice none 0 0, .int .i64 0, .slice none 0 0], .int .i64 (instE n bs)]) (by simp [results, Try.results17, go_sem, q0, q1, q2]) rfl ⟨rfl, ?_⟩
  exact ((HBW.out.setCell (p := ⟨w.heap.size + 1, 0, none⟩) (by simp) _).setCell (p := ⟨w.heap.size + 1, 1, none⟩) (by simp) _).setCell (p := ⟨w.heap.size + 1, 2, none⟩) (by simp) _

theorem ints_get {cs : List Int} {k : Nat} {c : Int} (h : cs[k]? = some c) : (ints cs)[k]? = some (.int .i64 c) := by simp [ints, h]

set_option maxRecDepth 100000 in
set_option maxHeartbeats 1600000 in
theorem samePaid_true (W0 : Int) (cs ps : List Int) (ca cb pa pb : Value) (R1 R2 R3 R4 : Nat → Prop) (w : World) (h1 : Sl w R1 ca cs.length 1 (ints cs)) (h2 : Sl w R2 cb cs.length 1 (ints cs)) (h3 : Sl w R3 pa ps.length 1 (ints ps)) (h4 : Sl w R4 pb ps.length 1 (ints ps)) :
    Calls Try.prog 22 #[.agg #[ca, .int .i64 W0, pa], .agg #[cb, .int .i64 W0, pb]] w fun e w' => e = .returned (.bool true) ∧ Below w.heap.size w w' := by
  obtain ⟨_, A1, c1, rfl, hn1, hc1, hs1⟩ := h1
  obtain ⟨_, A2, c2, rfl, hn2, hc2, hs2⟩ := h2
  obtain ⟨_, A3, c3, rfl, hn3, hc3, hs3⟩ := h3
  obtain ⟨_, A4, c4, rfl, hn4, hc4, hs4⟩ := h4
  unfold maxLen at hc1 hc2 hc3 hc4
  have H1 := Lib.hid hs1
  have H2 := Lib.hid hs2
  have H3 := Lib.hid hs3
  have H4 := Lib.hid hs4
  clear hs1 hs2 hs3 hs4
  go_enter Try.func22, Try.ntmps22
  go_wp2
  have hw0 : ∃ W1, W1 = (w.alloc (.cells #[.slice A1 cs.length c1, .int .i64 W0, .slice A3 ps.length c3] 36)).alloc (.cells #[.slice A2 cs.length c2, .int .i64 W0, .slice A4 ps.length c4] 36) := ⟨_, rfl⟩
  obtain ⟨W1, hW1⟩ := hw0
  obtain ⟨hX, hY, hs, hbw⟩ := two_blk' (w1 := W1) (by rw [hW1]; exact Below.refl _ _)
  rw [← hW1]
  have HX := Lib.hid hX
  have HY := Lib.hid hY
  have HBW := Lib.hid hbw
  clear hX hY hbw hW1
  go_loopw [5] (fun i wr => ∃ k : Nat, k ≤ cs.length ∧ i = .int .i64 k ∧ Below W1.heap.size W1 wr) (fun i _ => cs.length - (intOf i).toNat)
  case atStart => exact ⟨0, Nat.zero_le _, rfl, Below.refl _ _⟩
  case round =>
    obtain ⟨k, hk, rfl, hb⟩ := hrel
    have hX := HX.out.grow hb
    have hY := HY.out.grow hb
    have hbw := HBW.out.trans (hb.mono (by omega))
    have x0 : wr.cell? ⟨w.heap.size, 0, none⟩ = some (.slice A1 cs.length c1) := hX.cell 0
    have y0 : wr.cell? ⟨w.heap.size + 1, 0, none⟩ = some (.slice A2 cs.length c2) := hY.cell 0
    by_cases hlt : k < cs.length
    · obtain ⟨c, hc⟩ : ∃ c, cs[k]? = some c := ⟨_, List.getElem?_eq_getElem hlt⟩
      obtain ⟨b1, o1, rfl, _, hb1, hx1⟩ := H1.out (by omega)
      obtain ⟨b2, o2, rfl, _, hb2, hx2⟩ := H2.out (by omega)
      have e1 := (hbw.cell hb1).trans (hx1 _ _ (ints_get hc))
      have e2 := (hbw.cell hb2).trans (hx2 _ _ (ints_get hc))
      have HB := Lib.hid hb
      clear hX hY hbw hx1 hx2 hb hc
      go_wp2_with fail
      go_quiet (fail)
      go_wp2_with fail
      go_roundw
      case rel => exact ⟨k + 1, by omega, by go_num, below_drewN HB.out _⟩
      case measure => simp [intOf]; omega
    · have HB := Lib.hid hb
      clear hX hY hbw hb
      go_wp2_with fail
      clear x0 y0
      obtain ⟨wo, rfl⟩ : ∃ wo : World, wo = wr := ⟨_, rfl⟩
      go_loopw [6] (fun i wr => ∃ k : Nat, k ≤ ps.length ∧ i = .int .i64 k ∧ Below W1.heap.size W1 wr) (fun i _ => ps.length - (intOf i).toNat)
      case atStart => exact ⟨0, Nat.zero_le _, rfl, HB.out⟩
      case round =>
        obtain ⟨j, hj, rfl, hb⟩ := hrel
        have hX := HX.out.grow hb
        have hY := HY.out.grow hb
        have hbw := HBW.out.trans (hb.mono (by omega))
        have x0 : wr.cell? ⟨w.heap.size, 2, none⟩ = some (.slice A3 ps.length c3) := hX.cell 2
        have y0 : wr.cell? ⟨w.heap.size + 1, 2, none⟩ = some (.slice A4 ps.length c4) := hY.cell 2
        by_cases hlj : j < ps.length
        · obtain ⟨c, hc⟩ : ∃ c, ps[j]? = some c := ⟨_, List.getElem?_eq_getElem hlj⟩
          obtain ⟨b1, o1, rfl, _, hb1, hx1⟩ := H3.out (by omega)
          obtain ⟨b2, o2, rfl, _, hb2, hx2⟩ := H4.out (by omega)
          have e1 := (hbw.cell hb1).trans (hx1 _ _ (ints_get hc))
          have e2 := (hbw.cell hb2).trans (hx2 _ _ (ints_get hc))
          have HB := Lib.hid hb
          clear hX hY hbw hx1 hx2 hb hc
          go_wp2_with fail
          go_quiet (fail)
          go_wp2_with fail
          go_roundw
          case rel => exact ⟨j + 1, by omega, by go_num, below_drewN HB.out _⟩
          case measure => simp [intOf]; omega
        · have HBW2 := Lib.hid hbw
          clear hX hY hbw hb
          go_wp2_with fail
          go_ret
          exact ⟨rfl, HBW2.out⟩
end Go.Proofs.Ytcigobiolbojhaa.Vb

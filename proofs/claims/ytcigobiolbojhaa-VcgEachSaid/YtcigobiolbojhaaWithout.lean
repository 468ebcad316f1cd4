/- offers.Without. -/
import Derived.Test.YtcigobiolbojhaaWith2
namespace Go.Proofs.Ytcigobiolbojhaa.Vb
open Go.RowKit

theorem Offs.nil (w : World) (R : Nat → Prop) : Offs w R (.slice none 0 0) [] :=
  ⟨⟨rfl, none, 0, rfl, Nat.le_refl _, Nat.zero_le _, fun h => absurd h (Nat.lt_irrefl _)⟩, fun o h => by cases h⟩

set_option maxHeartbeats 800000 in
theorem without_err (n : Int) (bs : List (List Off)) (buyer : Int) (v : Value) (R : Nat → Prop) (w : World) (hl : Buys w R v bs) (he : withE n bs buyer [] ≠ 0) :
    Calls Try.prog 32 #[.agg #[.int .i64 n, v], .int .i64 buyer] w fun e w' => e = .returned (.tuple #[.agg #[.int .i64 0, .slice none 0 0], .int .i64 (withE n bs buyer [])]) ∧ Below w.heap.size w w' := by
  obtain ⟨vs, ⟨_, A, cap, rfl, _⟩, _⟩ := id hl
  have HB := Lib.hid hl
  have HE := Lib.hid he
  clear hl he
  go_enter Try.func32, Try.ntmps32
  go_wp2_with (go_at_call 89; refine (with_err n bs buyer [] _ _ R R _ ((HB.out.alloc _).alloc _) (Offs.nil _ _) HE.out).mono ?_; rintro e w1 ⟨rfl, hb1⟩; have hb1a := hb1.mono (B' := w.heap.size + 2) (by simp); obtain ⟨cx0, cx1, cy0, cy1, fx, fy, hs1, hb1'⟩ := two_new hb1a)
  refine bodyPost_ret (v := .tuple #[.agg #[.int .i64 0, .slice none 0 0], .int .i64 (withE n bs buyer [])]) (by simp [results, Try.results32, go_sem, cy0, cy1]) rfl ⟨rfl, ?_⟩
  exact (hb1'.setCell (p := ⟨w.heap.size + 1, 0, none⟩) (by simp) _).setCell (p := ⟨w.heap.size + 1, 1, none⟩) (by simp) _

set_option maxHeartbeats 800000 in
theorem without_ok (n : Int) (bs : List (List Off)) (buyer : Int) (v : Value) (R : Nat → Prop) (w : World) (hl : Buys w R v bs) (he : withE n bs buyer [] = 0) :
    Calls Try.prog 32 #[.agg #[.int .i64 n, v], .int .i64 buyer] w fun e w' => ∃ A' cap', e = .returned (.tuple #[.agg #[.int .i64 n, .slice A' bs.length cap'], .int .i64 0]) ∧
      OwnBuys w' w.heap.size (.slice A' bs.length cap') (bs.set buyer.toNat []) ∧ Below w.heap.size w w' := by
  obtain ⟨vs, ⟨_, A, cap, rfl, _⟩, _⟩ := id hl
  have HB := Lib.hid hl
  have HE := Lib.hid he
  clear hl he
  go_enter Try.func32, Try.ntmps32
  go_wp2_with (go_at_call 89; refine (with_ok n bs buyer [] _ _ R R _ ((HB.out.alloc _).alloc _) (Offs.nil _ _) HE.out).mono ?_; rintro e w1 ⟨A1, cap1, rfl, hob, hb1⟩; have hb1a := hb1.mono (B' := w.heap.size + 2) (by simp); obtain ⟨cx0, cx1, cy0, cy1, fx, fy, hs1, hb1'⟩ := two_new hb1a; have HOB := Lib.hid hob; clear hob)
  refine bodyPost_ret (v := .tuple #[.agg #[.int .i64 n, .slice A1 bs.length cap1], .int .i64 0]) (by simp [results, Try.results32, go_sem, cy0, cy1]) rfl ⟨_, _, rfl, ?_, ?_⟩
  · refine ((HOB.out.far (grownBy_setCell _ ⟨w.heap.size + 1, 0, none⟩ _) ?_).far (grownBy_setCell _ ⟨w.heap.size + 1, 1, none⟩ _) ?_).mono (by simp; omega)
    all_goals (intro k hk; simp at hk; simp; omega)
  · exact (hb1'.setCell (p := ⟨w.heap.size + 1, 0, none⟩) (by simp) _).setCell (p := ⟨w.heap.size + 1, 1, none⟩) (by simp) _
end Go.Proofs.Ytcigobiolbojhaa.Vb

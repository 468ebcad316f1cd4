/- vcg.lost; slices.Clone of payments; vcg.Costs. -/
import Derived.Test.YtcigobiolbojhaaVcg1
namespace Go.Proofs.Ytcigobiolbojhaa.Vb
open Go.RowKit

theorem Sl.keep' {w w' : World} {B n sz : Nat} {v : Value} {xs : List Value} (h : Sl w (· < B) v n sz xs) (hb : Below B w w') : Sl w' (· < B) v n sz xs := h.below hb (fun _ _ hb => hb)
theorem Buys.keep' {w w' : World} {B : Nat} {v : Value} {bs : List (List Off)} (h : Buys w (· < B) v bs) (hb : Below B w w') : Buys w' (· < B) v bs := by
  obtain ⟨vs, hs, ho⟩ := h
  exact ⟨vs, hs.keep' hb, fun k l hk => let ⟨u, hu, hl⟩ := ho k l hk; ⟨u, hu, hl.1.keep' hb, hl.2⟩⟩
theorem two_blk {w w1 : World} {cs ds : Array Value} {t u : TypeId} (hb : Below (w.heap.size + 2) ((w.alloc (.cells cs t)).alloc (.cells ds u)) w1) : Blk w1 w.heap.size t cs ∧ Blk w1 (w.heap.size + 1) u ds :=
  ⟨((Blk.new w t cs).alloc _).below hb (by omega), by
    have := Blk.new (w.alloc (.cells cs t)) u ds
    rw [World.size_alloc] at this
    exact this.below hb (by omega)⟩
theorem one_blk {w w1 : World} {cs : Array Value} {t : TypeId} (hb : Below (w.heap.size + 1) (w.alloc (.cells cs t)) w1) : Blk w1 w.heap.size t cs := (Blk.new w t cs).below hb (by omega)

set_option maxHeartbeats 1600000 in
theorem lost_ok (n : Int) (bs : List (List Off)) (v : Value) (R : Nat → Prop) (w : World) (hl : Buys w R v bs) (hi : instE n bs = 0) :
    Calls Try.prog 84 #[.agg #[.int .i64 n, v]] w fun e w' => ∃ A' cap' b5 b1 b2 mm, e = .returned (.tuple #[.agg #[.slice A' bs.length cap', .int .i64 (W bs (allOf n))], .func (.func 118) #[] #[.pointer (some ⟨b5, 0, none⟩), .pointer (some ⟨b1, 0, none⟩), .pointer (some ⟨b2, 0, none⟩)], .int .i64 0]) ∧
      w'.ownsRow w.heap.size 3 1 (.slice A' bs.length cap') bs.length (ints (bestC n bs)) ∧ LostAt w' w.heap.size b5 b1 b2 mm n v bs ∧ w.heap.size ≤ mm ∧ Below w.heap.size w w' := by
  obtain ⟨vs, ⟨_, A, cap, rfl, _⟩, _⟩ := id hl
  have HB := Lib.hid hl
  have HI := Lib.hid hi
  have hmm := @run_makeMap Try.prog
  clear hl hi
  go_enter Try.func84, Try.ntmps84
  go_wp2_with (go_at_call 31; refine (best_ok n bs _ R _ ((HB.out.alloc _).alloc _) HI.out).mono ?_; rintro e w1 ⟨A1, cap1, rfl, hown1, hb1⟩; have hb1a := hb1.mono (B' := w.heap.size + 2) (by simp); obtain ⟨c0, c1, y0, y1, fx, fy, hs1, hbw⟩ := two_new hb1a; have hk := (((two_blk hb1a).2.set_ 0 (.slice A1 bs.length cap1)).set_ 1 (.int .i64 (W bs (allOf n)))); simp at hk; have q0 := fun o o' => (((hk.alloc o).alloc o').cell 0); have q1 := fun o o' => (((hk.alloc o).alloc o').cell 1); have q2 := fun o o' i => (((hk.alloc o).alloc o').frozen i); simp at q0 q1; have HK := Lib.hid hk; have HX := Lib.hid (two_blk hb1a).1; have HO1 := Lib.hid hown1; clear hk; have HB1 := Lib.hid hbw; clear hown1 hb1 hb1a hbw)
  refine bodyPost_ret (v := .tuple #[.agg #[.slice A1 bs.length cap1, .int .i64 (W bs (allOf n))], .func (.func 118) #[] #[.pointer (some ⟨w1.heap.size + 1, 0, none⟩), .pointer (some ⟨w.heap.size, 0, none⟩), .pointer (some ⟨w.heap.size + 1, 0, none⟩)], .int .i64 0]) (by simp [results, Try.results84, go_sem, q0, q1]) rfl ⟨A1, cap1, w1.heap.size + 1, w.heap.size, w.heap.size + 1, w1.heap.size, rfl, ?_, ?_, by omega, ?_⟩
  · have h2 := ((ownsRow_setCell_below (ownsRow_setCell_below HO1.out (a := ⟨w.heap.size + 1, 0, none⟩) (by simp) (.slice A1 bs.length cap1)) (a := ⟨w.heap.size + 1, 1, none⟩) (by simp) (.int .i64 (W bs (allOf n)))).alloc (.map #[] 0)).alloc (.cells #[.map (some w1.heap.size)] 181)
    exact own_mono (ownsRow_setCell_below (ownsRow_setCell_below h2 (a := ⟨w.heap.size + 1, 0, none⟩) (by simp) _) (a := ⟨w.heap.size + 1, 1, none⟩) (by simp) _) (by simp; omega)
  · have hs2 : ((w1.setCell ⟨w.heap.size + 1, 0, none⟩ (.slice A1 bs.length cap1)).setCell ⟨w.heap.size + 1, 1, none⟩ (.int .i64 (W bs (allOf n)))).heap.size = w1.heap.size := by simp [World.setCell]
    have hx := ((HX.out.far (p := ⟨w.heap.size + 1, 0, none⟩) (by simp) (.slice A1 bs.length cap1)).far (p := ⟨w.heap.size + 1, 1, none⟩) (by simp) (.int .i64 (W bs (allOf n))))
    have hm : MapG Try.prog 3 2 (((w1.setCell ⟨w.heap.size + 1, 0, none⟩ (.slice A1 bs.length cap1)).setCell ⟨w.heap.size + 1, 1, none⟩ (.int .i64 (W bs (allOf n)))).alloc (.map #[] 0)) w1.heap.size (KnownL n bs) := by
      have := MapG.made (P := Try.prog) (kt := 3) (et := 2) (Good := KnownL n bs) ((w1.setCell ⟨w.heap.size + 1, 0, none⟩ (.slice A1 bs.length cap1)).setCell ⟨w.heap.size + 1, 1, none⟩ (.int .i64 (W bs (allOf n))))
      rwa [hs2] at this
    have h5 := Blk.new (((w1.setCell ⟨w.heap.size + 1, 0, none⟩ (.slice A1 bs.length cap1)).setCell ⟨w.heap.size + 1, 1, none⟩ (.int .i64 (W bs (allOf n)))).alloc (.map #[] 0)) 181 #[.map (some w1.heap.size)]
    rw [World.size_alloc, hs2] at h5
    have hbuy := (buys_lt HB.out (Nat.le_refl _)).grow HB1.out
    have hbl : Below w.heap.size w1 ((((w1.setCell ⟨w.heap.size + 1, 0, none⟩ (.slice A1 bs.length cap1)).setCell ⟨w.heap.size + 1, 1, none⟩ (.int .i64 (W bs (allOf n)))).alloc (.map #[] 0)).alloc (.cells #[.map (some w1.heap.size)] 181)) :=
      ((((Below.refl _ _).setCell (p := ⟨w.heap.size + 1, 0, none⟩) (by simp) _).setCell (p := ⟨w.heap.size + 1, 1, none⟩) (by simp) _).alloc (by rw [hs2]; omega) _).alloc (by rw [World.size_alloc, hs2]; omega) _
    have hbf : Below w.heap.size w1 (((((((w1.setCell ⟨w.heap.size + 1, 0, none⟩ (.slice A1 bs.length cap1)).setCell ⟨w.heap.size + 1, 1, none⟩ (.int .i64 (W bs (allOf n)))).alloc (.map #[] 0)).alloc (.cells #[.map (some w1.heap.size)] 181)).setCell ⟨w.heap.size + 1, 0, none⟩ (.slice A1 bs.length cap1)).setCell ⟨w.heap.size + 1, 1, none⟩ (.int .i64 (W bs (allOf n))))) :=
      (hbl.setCell (p := ⟨w.heap.size + 1, 0, none⟩) (by simp) _).setCell (p := ⟨w.heap.size + 1, 1, none⟩) (by simp) _
    have hK := ((((HK.out.alloc (.map #[] 0)).alloc (.cells #[.map (some w1.heap.size)] 181)).set_ 0 (.slice A1 bs.length cap1)).set_ 1 (.int .i64 (W bs (allOf n))))
    have hX := (((hx.alloc (.map #[] 0)).alloc (.cells #[.map (some w1.heap.size)] 181)).far (p := ⟨w.heap.size + 1, 0, none⟩) (by simp) (.slice A1 bs.length cap1)).far (p := ⟨w.heap.size + 1, 1, none⟩) (by simp) (.int .i64 (W bs (allOf n)))
    have hM := ((hm.alloc (.cells #[.map (some w1.heap.size)] 181)).setCell (p := ⟨w.heap.size + 1, 0, none⟩) (by simp; omega) (.slice A1 bs.length cap1)).setCell (p := ⟨w.heap.size + 1, 1, none⟩) (by simp; omega) (.int .i64 (W bs (allOf n)))
    have h5' := (h5.far (p := ⟨w.heap.size + 1, 0, none⟩) (by simp; omega) (.slice A1 bs.length cap1)).far (p := ⟨w.heap.size + 1, 1, none⟩) (by simp; omega) (.int .i64 (W bs (allOf n)))
    exact ⟨h5'.cell 0, hX.cell 0, hX.cell 1, (hK.cell 1).trans (by simp), hbuy.keep' hbf, by omega, hM, HI.out⟩
  · have hs2 : ((w1.setCell ⟨w.heap.size + 1, 0, none⟩ (.slice A1 bs.length cap1)).setCell ⟨w.heap.size + 1, 1, none⟩ (.int .i64 (W bs (allOf n)))).heap.size = w1.heap.size := by simp [World.setCell]
    exact HB1.out.trans ((((((((Below.refl _ _).setCell (p := ⟨w.heap.size + 1, 0, none⟩) (by simp) _).setCell (p := ⟨w.heap.size + 1, 1, none⟩) (by simp) _).alloc (by rw [hs2]; omega) _).alloc (by rw [World.size_alloc, hs2]; omega) _).setCell (p := ⟨w.heap.size + 1, 0, none⟩) (by simp) _).setCell (p := ⟨w.heap.size + 1, 1, none⟩) (by simp) _))
end Go.Proofs.Ytcigobiolbojhaa.Vb

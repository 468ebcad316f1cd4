/- The reference of layer 8: With where it may be. -/
import Derived.Test.YtcigobiolbojhaaRef08c
namespace Go.Proofs.Ytcigobiolbojhaa.Vb
open Go.RowKit

theorem Sl.one_of {w : World} {R : Nat → Prop} {bs : List (List Off)} {vs : List Value} (hl : vs.length = bs.length) (ho : ∀ (k : Nat) (l : List Off), bs[k]? = some l → ∃ u, vs[k]? = some u ∧ Offs w R u l) : ∀ u ∈ vs, u.oneCell' = true := by
  intro u hu
  obtain ⟨j, hj, rfl⟩ := List.getElem_of_mem hu
  obtain ⟨u', h1, h2⟩ := ho j bs[j] (List.getElem?_eq_getElem (by omega))
  rw [List.getElem?_eq_getElem hj] at h1
  injection h1 with h1
  obtain ⟨⟨_, A, cap, h3, _⟩, _⟩ := h2
  rw [h1, h3]
  rfl

theorem own_some {w : World} {base : Nat} {e : TypeId} {n cap : Nat} {A : Option Addr} {xs : List Value} (h : w.ownsRow base e 1 (.slice A n cap) n xs) (h0 : 0 < n) :
    ∃ g, A = some ⟨g, 0, none⟩ ∧ base ≤ g ∧ g < w.heap.size ∧ n ≤ cap ∧ (∀ i, w.frozen? ⟨g, i, none⟩ = false) ∧ ∀ k, k < n → ∃ u, xs[k]? = some u ∧ w.cell? ⟨g, k, none⟩ = some u := by
  have hl := h.1
  rcases h.2 with ⟨_, h⟩ | ⟨g, cap', cur, hv, hg, hh, hnc, _⟩
  · omega
  · injection hv with hA _ hc
    subst hA hc
    refine ⟨g, rfl, hg, (Array.getElem?_eq_some_iff.1 hh).1, hnc, fun i => h.frozenAt i, fun k hk => ?_⟩
    have hx : xs[k]? = some xs[k] := List.getElem?_eq_getElem (by omega)
    exact ⟨_, hx, (h.cellAt k (by omega)).trans hx⟩

set_option maxHeartbeats 1600000 in
set_option maxRecDepth 100000 in
theorem refWith_ok (n : Int) (bs : List (List Off)) (buyer : Int) (l : List Off) (v v2 : Value) (R R2 : Nat → Prop) (w : World) (hl : Buys w R v bs) (hl2 : Offs w R2 v2 l) (he : withE n bs buyer l = 0) :
    Calls Try.prog 85 #[.agg #[.int .i64 n, v], .int .i64 buyer, v2] w fun e w' => ∃ A' cap', e = .returned (.tuple #[.agg #[.int .i64 n, .slice A' bs.length cap'], .int .i64 0]) ∧
      Buys w' (fun _ => True) (.slice A' bs.length cap') (bs.set buyer.toNat l) ∧ Below w.heap.size w w' := by
  have hi : instE n bs = 0 := by
    by_cases h : instE n bs = 0
    · exact h
    · unfold withE at he; rw [if_pos h] at he; exact absurd he h
  have hbu : ¬ (buyer < 0 ∨ (bs.length : Int) ≤ buyer) := by
    intro h
    unfold withE at he
    rw [if_neg (by simpa using hi), if_pos h] at he
    omega
  have hc : checkE n l = 0 := by unfold withE at he; rwa [if_neg (by simpa using hi), if_neg hbu] at he
  have hlen32 := (instE_zero hi).2.2.1
  have hb0 : 0 ≤ buyer := by omega
  have hb1 : buyer < bs.length := by omega
  clear hbu he
  obtain ⟨bu, rfl⟩ := Int.eq_ofNat_of_zero_le hb0
  rw [Int.toNat_natCast]
  have hbn : bu < bs.length := by omega
  obtain ⟨vs, hsv, hvs⟩ := id hl
  have hone := Sl.one_of (by have := hsv.1; omega) hvs
  have HSV := Lib.hid hsv
  have HVS := Lib.hid hvs
  have HONE := Lib.hid hone
  obtain ⟨hlen, A, cap, rfl, hncap, hcap, hcells⟩ := hsv
  obtain ⟨⟨_, A2, cap2, rfl, _⟩, _⟩ := id hl2
  have HB := Lib.hid hl
  have HB2 := Lib.hid hl2
  have HI := Lib.hid hi
  have HC := Lib.hid hc
  clear hl hl2 hcells hvs hcap hi hc hone
  go_enter Try.func85, Try.ntmps85
  go_wp2_with (first
    | (go_at_call 30; refine (refInstance_any n bs _ R _ ((HB.out.alloc _).alloc _)).mono ?_; rintro e w1 ⟨rfl, hb1⟩; rw [HI.out]; have hb1a := hb1.mono (B' := w.heap.size + 2) (by simp); obtain ⟨cx0, cx1, cy0, cy1, fx, fy, hs1, hb1'⟩ := two_new hb1a; have HB1 := Lib.hid hb1a; have HB1' := Lib.hid hb1'; clear hb1 hb1a hb1')
    | (go_at_call 86; refine (refCheck_any n l _ R2 _ (HB2.out.grow HB1'.out)).mono ?_; rintro e w2 ⟨rfl, hb2⟩; rw [HC.out]; have hb2a := HB1.out.trans (hb2.mono hs1); obtain ⟨dx0, dx1, dy0, dy1, gx, gy, hs2, hb2'⟩ := two_new hb2a; have HB3 := Lib.hid hb2a; have HB3' := Lib.hid hb2'; have dz1 := cellAlloc dx1; clear hb2 hb2a hb2' cx0 cx1 cy0 cy1 fx fy hs1)
    | (at_builtin; refine wpList_app _ rfl (.tmp 43) (.tmp 45) et_offs rfl (w2.heap.size + 1) (.slice none 0 0) 0 [] rfl (World.ownsRow_nil _ _ _ _) R _ bs.length vs rfl (((HSV.out.grow HB3'.out)).alloc _) HONE.out (by omega) (by unfold maxLen; omega) (by simp) ?_; intro A' cap' w4 hown4 hg4 hloc4; rw [Nat.zero_add, List.nil_append] at hown4; obtain ⟨g, rfl, hg0, hg1, hnc, hgf, hgc⟩ := own_some hown4 (by omega); obtain ⟨ug, _, hug⟩ := hgc bu hbn; rw [Nat.zero_add]; have hy4 : Blk w4 w2.heap.size 24 #[.int .i64 n, .slice none 0 0] := (Blk.new w2 _ _).grown hg4 (by simp [Value.ownBlock]); have y1 : w4.cell? ⟨w2.heap.size, 1, none⟩ = some (.slice none 0 0) := hy4.cell 1; have yf := hy4.frozen 1; have hy5 := hy4.set_ 1 (.slice (some ⟨g, 0, none⟩) bs.length cap'); have z1 : (w4.setCell ⟨w2.heap.size, 1, none⟩ (.slice (some ⟨g, 0, none⟩) bs.length cap')).cell? ⟨w2.heap.size, 1, none⟩ = some (.slice (some ⟨g, 0, none⟩) bs.length cap') := hy5.cell 1; have g5 : (w4.setCell ⟨w2.heap.size, 1, none⟩ (.slice (some ⟨g, 0, none⟩) bs.length cap')).cell? ⟨g, bu, none⟩ = some ug := (World.cell?_setCell_other w4 ⟨w2.heap.size, 1, none⟩ ⟨g, bu, none⟩ _ (fun e => by injection e with e; omega)).trans hug; have f5 : (w4.setCell ⟨w2.heap.size, 1, none⟩ (.slice (some ⟨g, 0, none⟩) bs.length cap')).frozen? ⟨g, bu, none⟩ = false := (by rw [World.frozen?_setCell]; exact hgf bu); have hy6 := hy5.far (p := ⟨g, bu, none⟩) (show w2.heap.size ≠ g by omega) (.slice A2 l.length cap2); have z60 : ((w4.setCell ⟨w2.heap.size, 1, none⟩ (.slice (some ⟨g, 0, none⟩) bs.length cap')).setCell ⟨g, bu, none⟩ (.slice A2 l.length cap2)).cell? ⟨w2.heap.size, 0, none⟩ = some (.int .i64 n) := hy6.cell 0; have z61 : ((w4.setCell ⟨w2.heap.size, 1, none⟩ (.slice (some ⟨g, 0, none⟩) bs.length cap')).setCell ⟨g, bu, none⟩ (.slice A2 l.length cap2)).cell? ⟨w2.heap.size, 1, none⟩ = some (.slice (some ⟨g, 0, none⟩) bs.length cap') := hy6.cell 1; have r6 : ∀ i v, w2.cell? ⟨w.heap.size + 1, i, none⟩ = some v → ((w4.setCell ⟨w2.heap.size, 1, none⟩ (.slice (some ⟨g, 0, none⟩) bs.length cap')).setCell ⟨g, bu, none⟩ (.slice A2 l.length cap2)).cell? ⟨w.heap.size + 1, i, none⟩ = some v := fun i v h => (World.cell?_setCell_other _ ⟨g, bu, none⟩ ⟨w.heap.size + 1, i, none⟩ _ (fun e => by injection e with e; omega)).trans ((World.cell?_setCell_other _ ⟨w2.heap.size, 1, none⟩ ⟨w.heap.size + 1, i, none⟩ _ (fun e => by injection e with e; omega)).trans (hg4.cell (cellAlloc h _) (by simp [Value.ownBlock]))); have r60 := r6 0 _ dy0; have r61 := r6 1 _ dy1; have rf : ∀ i, ((w4.setCell ⟨w2.heap.size, 1, none⟩ (.slice (some ⟨g, 0, none⟩) bs.length cap')).setCell ⟨g, bu, none⟩ (.slice A2 l.length cap2)).frozen? ⟨w.heap.size + 1, i, none⟩ = false := (fun i => by rw [World.frozen?_setCell, World.frozen?_setCell]; exact (World.frozen?_of_block (hg4.block _ (by simp; omega) (by simp [Value.ownBlock]))).trans ((World.frozen?_of_block (w := w2) (Below.heap_alloc _ _ _ (by simp; omega))).trans (gy i))); have HO4 := Lib.hid hown4; have HG4 := Lib.hid hg4; have HY5 := Lib.hid hy5; clear hown4 hg4 hloc4 hgc hy4 hy5 hy6 r6))
  have HBL : Hid (Below w.heap.size w ((((w4.setCell ⟨w2.heap.size, 1, none⟩ (.slice (some ⟨g, 0, none⟩) bs.length cap')).setCell ⟨g, bu, none⟩ (.slice A2 l.length cap2)).setCell ⟨w.heap.size + 1, 0, none⟩ (.int .i64 n)).setCell ⟨w.heap.size + 1, 1, none⟩ (.slice (some ⟨g, 0, none⟩) bs.length cap'))) :=
    (((((HB3'.out.alloc (by omega) _).grown HG4.out (by simp; omega) (fun g e => by simp [Value.ownBlock] at e)).setCell (p := ⟨w2.heap.size, 1, none⟩) (show w.heap.size ≤ w2.heap.size by omega) _).setCell (p := ⟨g, bu, none⟩) (show w.heap.size ≤ g by omega) _).setCell (p := ⟨w.heap.size + 1, 0, none⟩) (by simp) _).setCell (p := ⟨w.heap.size + 1, 1, none⟩) (by simp) _
  refine bodyPost_ret (v := .tuple #[.agg #[.int .i64 n, .slice (some ⟨g, 0, none⟩) bs.length cap'], .int .i64 0]) (by simp [results, Try.results85, go_sem, r60, r61]) rfl ⟨_, _, rfl, ?_, HBL.out⟩
  have o5 := own_far HO4.out (grownBy_setCell w4 ⟨w2.heap.size, 1, none⟩ (.slice (some ⟨g, 0, none⟩) bs.length cap')) (fun x e => by simp at e; simp [Value.ownBlock]; omega)
  have o6 := (o5.stored bu (.slice A2 l.length cap2)).1
  have o7 := own_far o6 (grownBy_setCell _ ⟨w.heap.size + 1, 0, none⟩ (.int .i64 n)) (fun x e => by simp at e; simp [Value.ownBlock]; omega)
  have o8 := own_far o7 (grownBy_setCell _ ⟨w.heap.size + 1, 1, none⟩ (.slice (some ⟨g, 0, none⟩) bs.length cap')) (fun x e => by simp at e; simp [Value.ownBlock]; omega)
  refine ⟨vs.set bu (.slice A2 l.length cap2), by rw [List.length_set]; exact (Sl.of_own o8).mono fun _ _ _ => trivial, fun j l' hj => ?_⟩
  rw [List.getElem?_set] at hj
  split at hj
  · rename_i hkj
    subst hkj
    injection hj with hj
    subst hj
    exact ⟨_, by rw [List.getElem?_set]; simp; omega, (HB2.out.grow HBL.out).any⟩
  · rename_i hkj
    obtain ⟨u', hu', ho'⟩ := HVS.out j l' hj
    exact ⟨u', by rw [List.getElem?_set, if_neg hkj]; exact hu', (ho'.grow HBL.out).any⟩
end Go.Proofs.Ytcigobiolbojhaa.Vb

/- offers.With where it may be; offers.Without. -/
import Derived.Test.YtcigobiolbojhaaWith
namespace Go.Proofs.Ytcigobiolbojhaa.Vb
open Go.RowKit

theorem OwnBuys.form {w : World} {lo n cap : Nat} {A : Option Addr} {bs : List (List Off)} (h : OwnBuys w lo (.slice A n cap) bs) (hn : bs.length = n) (h0 : 0 < n) :
    ∃ g, A = some ⟨g, 0, none⟩ ∧ lo ≤ g ∧ g < w.heap.size ∧ n ≤ cap ∧ (∀ i, w.frozen? ⟨g, i, none⟩ = false) ∧ ∀ k, k < n → ∃ u, w.cell? ⟨g, k, none⟩ = some u := by
  obtain ⟨vs, hs, ho⟩ := h
  rw [hn] at hs
  have hl := hs.1
  rcases hs.2 with ⟨_, h⟩ | ⟨g, cap', cur, hv, hg, hh, hnc, _⟩
  · omega
  · injection hv with hA _ hc
    subst hA hc
    refine ⟨g, rfl, hg, (Array.getElem?_eq_some_iff.1 hh).1, hnc, fun i => hs.frozenAt i, fun k hk => ?_⟩
    have hx : vs[k]? = some vs[k] := List.getElem?_eq_getElem (by omega)
    exact ⟨_, (hs.cellAt k (by omega)).trans hx⟩

theorem OwnBuys.set {w : World} {lo n cap g : Nat} {bs : List (List Off)} {l : List Off} {u : Value} (h : OwnBuys w lo (.slice (some ⟨g, 0, none⟩) n cap) bs) (hn : bs.length = n) (k : Nat)
    (hl : Offs w (fun b => lo ≤ b ∧ b ≠ g) u l) : OwnBuys (w.setCell ⟨g, k, none⟩ u) lo (.slice (some ⟨g, 0, none⟩) n cap) (bs.set k l) := by
  subst hn
  obtain ⟨vs, hs, ho⟩ := h
  obtain ⟨h1, h2⟩ := hs.stored k u
  have hlen : vs.length = bs.length := by simpa using hs.1
  have step : ∀ {u' : Value} {l' : List Off}, Offs w (fun b => lo ≤ b ∧ (Value.slice (some ⟨g, 0, none⟩) bs.length cap).ownBlock ≠ some b) u' l' → Offs (w.setCell ⟨g, k, none⟩ u) (fun b => lo ≤ b ∧ (Value.slice (some ⟨g, 0, none⟩) bs.length cap).ownBlock ≠ some b) u' l' :=
    fun h => h.grown h2 fun b _ hb e => hb.2 (by rw [e]; rfl)
  refine ⟨vs.set k u, by simpa using h1, fun j l' hj => ?_⟩
  rw [List.getElem?_set] at hj
  split at hj
  · rename_i hkj
    subst hkj
    split at hj
    · injection hj with hj
      subst hj
      exact ⟨u, by rw [List.getElem?_set]; simp; omega, step (hl.mono fun b _ hb => ⟨hb.1, fun e => hb.2 (by simp [Value.ownBlock] at e; exact e.symm)⟩)⟩
    · cases hj
  · rename_i hkj
    obtain ⟨u', hu', ho'⟩ := ho j l' hj
    exact ⟨u', by rw [List.getElem?_set, if_neg hkj]; exact hu', step ho'⟩

set_option maxHeartbeats 1600000 in
theorem with_ok (n : Int) (bs : List (List Off)) (buyer : Int) (l : List Off) (v v2 : Value) (R R2 : Nat → Prop) (w : World) (hl : Buys w R v bs) (hl2 : Offs w R2 v2 l) (he : withE n bs buyer l = 0) :
    Calls Try.prog 89 #[.agg #[.int .i64 n, v], .int .i64 buyer, v2] w fun e w' => ∃ A' cap', e = .returned (.tuple #[.agg #[.int .i64 n, .slice A' bs.length cap'], .int .i64 0]) ∧
      OwnBuys w' w.heap.size (.slice A' bs.length cap') (bs.set buyer.toNat l) ∧ Below w.heap.size w w' := by
  have hi : instE n bs = 0 := by
    by_cases h : instE n bs = 0
    · exact h
    · unfold withE at he; rw [if_pos h] at he; exact absurd he h
  have hbu : ¬ (buyer < 0 ∨ (bs.length : Int) ≤ buyer) := by
    intro h
    unfold withE at he
    rw [if_neg (by simpa using hi), if_pos h] at he
    omega
  have hc : checkE n l = 0 := by unfold withE at he; rwa [if_neg (by simpa using hi), if_neg hbu] at he
  have hl8 : l.length ≤ 8 := by
    unfold checkE at hc
    split at hc
    · omega
    · split at hc
      · omega
      · omega
  have hsm := Lib.hid (instE_small hi)
  have hlen32 := (instE_zero hi).2.2.1
  have hb0 : 0 ≤ buyer := by omega
  have hb1 : buyer < bs.length := by omega
  clear hbu he
  obtain ⟨bu, rfl⟩ := Int.eq_ofNat_of_zero_le hb0
  rw [Int.toNat_natCast]
  have hbn : bu < bs.length := by omega
  obtain ⟨vs, ⟨hlen, A, cap, rfl, hncap, hcap, hcells⟩, hvs⟩ := id hl
  obtain ⟨⟨_, A2, cap2, rfl, _⟩, _⟩ := id hl2
  have HB := Lib.hid hl
  have HB2 := Lib.hid hl2
  have HI := Lib.hid hi
  have HC := Lib.hid hc
  clear hl hl2 hcells hvs hlen hcap hi hc
  go_enter Try.func89, Try.ntmps89
  go_wp2_with (first
    | (go_at_call 124; refine (instance_any n bs _ R _ ((HB.out.alloc _).alloc _)).mono ?_; rintro e w1 ⟨rfl, hb1⟩; rw [HI.out]; have hb1a := hb1.mono (B' := w.heap.size + 2) (by simp); obtain ⟨cx0, cx1, cy0, cy1, fx, fy, hs1, hb1'⟩ := two_new hb1a; have HB1 := Lib.hid hb1a; have HB1' := Lib.hid hb1'; clear hb1 hb1a hb1')
    | (go_at_call 125; refine (check_any n l _ R2 _ (HB2.out.grow HB1'.out)).mono ?_; rintro e w2 ⟨rfl, hb2⟩; rw [HC.out]; have hb2a := HB1.out.trans (hb2.mono hs1); obtain ⟨dx0, dx1, dy0, dy1, gx, gy, hs2, hb2'⟩ := two_new hb2a; have HB3 := Lib.hid hb2a; have HB3' := Lib.hid hb2'; clear hb2 hb2a hb2' cx0 cx1 cy0 cy1 fx fy)
    | (go_at_call 77; refine (copy_any n bs _ R _ (HB.out.grow HB3'.out) hsm.out).mono ?_; rintro e w3 ⟨A', cap', rfl, hob, hb3⟩; obtain ⟨g, rfl, hg0, hg1, hnc, hgf, hgc⟩ := hob.form rfl (by omega); have hb3a := HB3.out.trans (hb3.mono hs2); obtain ⟨ex0, ex1, ey0, ey1, hx, hy, hs3, hb3'⟩ := two_new hb3a; have HB4 := Lib.hid hb3a; have HB4' := Lib.hid hb3'; have HOB := Lib.hid hob; clear hb3 hb3a hb3' hob dx0 dx1 dy0 dy1 gx gy))
  obtain ⟨ug, hug⟩ := hgc bu hbn
  have hy1 : (w3.alloc (.cells #[.int .i64 n, .slice (some ⟨g, 0, none⟩) bs.length cap'] 24)).cell? ⟨w3.heap.size, 1, none⟩ = some (.slice (some ⟨g, 0, none⟩) bs.length cap') := by simp
  have hy0 : (w3.alloc (.cells #[.int .i64 n, .slice (some ⟨g, 0, none⟩) bs.length cap'] 24)).cell? ⟨w3.heap.size, 0, none⟩ = some (.int .i64 n) := by simp
  have hgf' : (w3.alloc (.cells #[.int .i64 n, .slice (some ⟨g, 0, none⟩) bs.length cap'] 24)).frozen? ⟨g, bu, none⟩ = false := (World.frozen?_of_block (w := w3) (Below.heap_alloc _ _ _ hg1)).trans (hgf bu)
  have hbi0 : (0 : Int) ≤ (bu : Int) := by omega
  go_region_held3 (fun w' => w'.cell? ⟨w3.heap.size, 1, none⟩ = some (.slice (some ⟨g, 0, none⟩) bs.length cap')) (go_keep)
    ((go_at_call 115; refine (clone_off (Off.all l) l.length _ R2 _ (((HB2.out.grow HB4'.out).alloc _).1.drew) (Off.all_one l) (by omega)).mono ?_; rintro e w5 ⟨A5, cap5, rfl, hown5, hb5⟩; have e5 := (hb5.cell (p := ⟨w3.heap.size, 1, none⟩) (by simp)).trans hy1; have g5 := (hb5.cell (p := ⟨g, bu, none⟩) (by simp; omega)).trans ((cellAlloc hug _)); have f5 := (hb5.frozen (p := ⟨g, bu, none⟩) (by simp; omega)).trans hgf'; have e6 := (World.cell?_setCell_other w5 ⟨g, bu, none⟩ ⟨w3.heap.size, 1, none⟩ (.slice A5 l.length cap5) (fun e => by injection e with e; omega)).trans e5))
  have cy : ∀ i v, w3.cell? ⟨w.heap.size + 1, i, none⟩ = some v → (w5.setCell ⟨g, bu, none⟩ (.slice A5 l.length cap5)).cell? ⟨w.heap.size + 1, i, none⟩ = some v := fun i v h =>
    (World.cell?_setCell_other w5 ⟨g, bu, none⟩ ⟨w.heap.size + 1, i, none⟩ _ (fun e => by injection e with e; omega)).trans ((hb5.cell (p := ⟨w.heap.size + 1, i, none⟩) (by simp; omega)).trans (cellAlloc h _))
  have r0 := cy 0 _ ey0
  have r1 := cy 1 _ ey1
  have rf : ∀ i, (w5.setCell ⟨g, bu, none⟩ (.slice A5 l.length cap5)).frozen? ⟨w.heap.size + 1, i, none⟩ = false := fun i => by
    rw [World.frozen?_setCell]
    exact (hb5.frozen (p := ⟨w.heap.size + 1, i, none⟩) (by simp; omega)).trans ((World.frozen?_of_block (w := w3) (Below.heap_alloc _ _ _ (by simp; omega))).trans (hy i))
  have e60 : (w5.setCell ⟨g, bu, none⟩ (.slice A5 l.length cap5)).cell? ⟨w3.heap.size, 0, none⟩ = some (.int .i64 n) :=
    (World.cell?_setCell_other w5 ⟨g, bu, none⟩ ⟨w3.heap.size, 0, none⟩ _ (fun e => by injection e with e; omega)).trans ((hb5.cell (p := ⟨w3.heap.size, 0, none⟩) (by simp)).trans hy0)
  have HOB6 : Hid (OwnBuys (w5.setCell ⟨g, bu, none⟩ (.slice A5 l.length cap5)) w2.heap.size (.slice (some ⟨g, 0, none⟩) bs.length cap') (bs.set bu l)) := by
    have h1 : OwnBuys w5 w2.heap.size (.slice (some ⟨g, 0, none⟩) bs.length cap') bs := ((HOB.out.alloc _).drew).grow hb5
    refine h1.set rfl bu ⟨(Sl.of_own hown5).mono fun b _ hb => ?_, HB2.out.2⟩
    have := (hown5.lt b hb).1
    simp at this
    exact ⟨by omega, by omega⟩
  have HBL : Hid (Below w.heap.size w (w5.setCell ⟨g, bu, none⟩ (.slice A5 l.length cap5))) :=
    ((HB4'.out.alloc (by omega) _).drew.trans (hb5.mono (B' := w.heap.size) (by simp; omega))).setCell (p := ⟨g, bu, none⟩) (show w.heap.size ≤ g by omega) _
  have hsz5 := hb5.size
  simp at hsz5
  clear hb5 hown5 e5 g5 f5 cy
  go_wp2
  refine bodyPost_ret (v := .tuple #[.agg #[.int .i64 n, .slice (some ⟨g, 0, none⟩) bs.length cap'], .int .i64 0]) (by simp [results, Try.results89, go_sem, r0, r1]) rfl ⟨_, _, rfl, ?_, ?_⟩
  · refine ((HOB6.out.far (grownBy_setCell _ ⟨w.heap.size + 1, 0, none⟩ _) ?_).far (grownBy_setCell _ ⟨w.heap.size + 1, 1, none⟩ _) ?_).mono (by omega)
    all_goals (intro k hk; simp at hk; omega)
  · exact (HBL.out.setCell (p := ⟨w.heap.size + 1, 0, none⟩) (by simp) _).setCell (p := ⟨w.heap.size + 1, 1, none⟩) (by simp) _
end Go.Proofs.Ytcigobiolbojhaa.Vb

import Derived.Test.YthoaidfpgijbfaaGreatZp
import Derived.Test.YthoaidfpgijbfaaGreatZk
import Derived.Test.YthoaidfpgijbfaaGreatZm
import Derived.Test.YthoaidfpgijbfaaGreatZo
import Derived.Test.YthoaidfpgijbfaaGreatZa
import Derived.Test.YthoaidfpgijbfaaGreatZj
namespace Go.Proofs.YthoaidfpgijbfaaGreat.Ho
open Go.RowKit
open Go.Proofs.YthoaidfpgijbfaaGreat.Vb Go.Proofs.YthoaidfpgijbfaaGreat.Ac
set_option maxRecDepth 100000 in
theorem rat_err {W : World} {R : Nat → Prop} {r : Nat} {H : House} (hR : RefIn W R r H) {x : Int} (hx : x < 0 ∨ (H.lots.length : Int) ≤ x) :
    Calls Tryz.prog 50 #[.pointer (some ⟨r, 0, none⟩), .int .i64 x] W fun e W' => e = .returned (.tuple #[.agg #[.int .i64 0, .int .i64 0, .int .i64 0, .int .i64 0, .int .i64 0, .int .i64 0, .int .i64 0, .int .i64 0, .int .i64 0, .int .i64 0, .int .i64 0, .int .i64 0, .bool false, .int .i64 0, .int .i64 0, .int .i64 0], .int .i64 4]) ∧ Below W.heap.size W W' := by
  obtain ⟨W1, hW1⟩ : ∃ W1, W1 = W.alloc (.cells #[.int .i64 0, .int .i64 0, .int .i64 0, .int .i64 0, .int .i64 0, .int .i64 0, .int .i64 0, .int .i64 0, .int .i64 0, .int .i64 0, .int .i64 0, .int .i64 0, .bool false, .int .i64 0, .int .i64 0, .int .i64 0] 119) := ⟨_, rfl⟩
  have hb1 : Below W.heap.size W W1 := by rw [hW1]; exact (Below.refl _ _).alloc (Nat.le_refl _) _
  have hx1 : Ac.Blk W1 W.heap.size 119 #[.int .i64 0, .int .i64 0, .int .i64 0, .int .i64 0, .int .i64 0, .int .i64 0, .int .i64 0, .int .i64 0, .int .i64 0, .int .i64 0, .int .i64 0, .int .i64 0, .bool false, .int .i64 0, .int .i64 0, .int .i64 0] := by rw [hW1]; exact Blk.new _ _ _
  obtain ⟨vn, vb, vp, vl, vs, vk, h1⟩ := hR.grow hb1
  obtain ⟨A, c, hvl⟩ := h1.lots.form
  have c3 := h1.cells.2.2.2.1
  rw [hvl] at c3
  obtain ⟨n, hn⟩ : ∃ n, n = H.lots.length := ⟨_, rfl⟩
  rw [← hn] at c3 hx
  have HX1 := Lib.hid hx1
  have HB1 := Lib.hid hb1
  rw [hW1] at c3
  clear hR h1 hx1 hb1 hvl hn
  by_cases h1 : x < 0
  · clear hx
    go_enter Tryz.func50, Tryz.ntmps50
    go_wp2_with (refine wpList_store_row rfl 119 (.tmp 4) (.tmp 19) rfl W.heap.size #[.int .i64 0, .int .i64 0, .int .i64 0, .int .i64 0, .int .i64 0, .int .i64 0, .int .i64 0, .int .i64 0, .int .i64 0, .int .i64 0, .int .i64 0, .int .i64 0, .bool false, .int .i64 0, .int .i64 0, .int .i64 0] rfl rfl 119 _ (by rw [← hW1]; exact HX1.out) (by kernel_rfl) rfl (by kernel_rfl) ?_)
    rw [← hW1]
    refine bodyPost_ret (results_cell_row2 rfl _ _ W.heap.size 119 #[.int .i64 0, .int .i64 0, .int .i64 0, .int .i64 0, .int .i64 0, .int .i64 0, .int .i64 0, .int .i64 0, .int .i64 0, .int .i64 0, .int .i64 0, .int .i64 0, .bool false, .int .i64 0, .int .i64 0, .int .i64 0] (0, 0) _ rfl (setRow_heap _ _ _ _ _ _ HX1.out) Tryz.underlying119 rfl (by kernel_rfl)) rfl ⟨rfl, below_setRow HB1.out (Nat.le_refl _) _⟩
  · have h2 : (n : Int) ≤ x := hx.resolve_left h1
    clear hx
    go_enter Tryz.func50, Tryz.ntmps50
    go_wp2_with (refine wpList_store_row rfl 119 (.tmp 4) (.tmp 19) rfl W.heap.size #[.int .i64 0, .int .i64 0, .int .i64 0, .int .i64 0, .int .i64 0, .int .i64 0, .int .i64 0, .int .i64 0, .int .i64 0, .int .i64 0, .int .i64 0, .int .i64 0, .bool false, .int .i64 0, .int .i64 0, .int .i64 0] rfl rfl 119 _ (by rw [← hW1]; exact HX1.out) (by kernel_rfl) rfl (by kernel_rfl) ?_)
    rw [← hW1]
    refine bodyPost_ret (results_cell_row2 rfl _ _ W.heap.size 119 #[.int .i64 0, .int .i64 0, .int .i64 0, .int .i64 0, .int .i64 0, .int .i64 0, .int .i64 0, .int .i64 0, .int .i64 0, .int .i64 0, .int .i64 0, .int .i64 0, .bool false, .int .i64 0, .int .i64 0, .int .i64 0] (0, 0) _ rfl (setRow_heap _ _ _ _ _ _ HX1.out) Tryz.underlying119 rfl (by kernel_rfl)) rfl ⟨rfl, below_setRow HB1.out (Nat.le_refl _) _⟩
theorem rlot_range {W : World} {R : Nat → Prop} {A : Option Addr} {n c : Nat} {ls : List LotS} {vo : Nat → Value} (h : Sl W R (.slice A n c) n 19 (rlotsCells ls vo)) {k : Nat} {l : LotS} (hk : ls[k]? = some l) (hkn : k < n) :
    ∃ q off, A = some ⟨q, off, none⟩ ∧ R q ∧ q < W.heap.size ∧ W.rangeAt q (off + k * 19) (rlotCells l (vo k)) := by
  obtain ⟨_, A', c', hv, _, _, hcs⟩ := h
  injection hv with hA _ _
  subst hA
  obtain ⟨b, off, hA, hR, hlt2, hcc⟩ := hcs (by omega)
  refine ⟨b, off, hA, hR, hlt2, fun i u hu => ?_⟩
  rw [show off + k * 19 + i = off + (k * 19 + i) by omega]
  have hi : i < 19 := by
    have := (List.getElem?_eq_some_iff.1 hu).1
    simpa [rlotCells, LotR.cells, RiseR.cells] using this
  refine hcc _ _ ((flat_get (n := 19) (xs := ls.mapIdx fun k l => rlotCells l (vo k)) (mapIdx_len fun _ _ => rfl) ?_ hi).trans hu)
  rw [List.getElem?_mapIdx, hk]
  rfl
set_option maxRecDepth 100000 in
set_option maxHeartbeats 8000000 in
theorem rat_ok {W : World} {R : Nat → Prop} {r : Nat} {H : House} (hR : RefIn W R r H) {i : Nat} {l : LotS} (hi : H.lots[i]? = some l) (hok : lotOk l.put = true) (h5 : l.put.kind = 5 → l.price = 0) (hnw : coin H.now) (hcl : l.put.kind = 2 → l.closed = false → H.now < l.put.closes) :
    Calls Tryz.prog 50 #[.pointer (some ⟨r, 0, none⟩), .int .i64 i] W fun e W' => e = .returned (.tuple #[.agg (lotNow l H.now).toArray, .int .i64 0]) ∧ Below W.heap.size W W' := by
  obtain ⟨W1, hW1⟩ : ∃ W1, W1 = W.alloc (.cells #[.int .i64 0, .int .i64 0, .int .i64 0, .int .i64 0, .int .i64 0, .int .i64 0, .int .i64 0, .int .i64 0, .int .i64 0, .int .i64 0, .int .i64 0, .int .i64 0, .bool false, .int .i64 0, .int .i64 0, .int .i64 0] 119) := ⟨_, rfl⟩
  have hb1 : Below W.heap.size W W1 := by rw [hW1]; exact (Below.refl _ _).alloc (Nat.le_refl _) _
  have hx1 : Ac.Blk W1 W.heap.size 119 #[.int .i64 0, .int .i64 0, .int .i64 0, .int .i64 0, .int .i64 0, .int .i64 0, .int .i64 0, .int .i64 0, .int .i64 0, .int .i64 0, .int .i64 0, .int .i64 0, .bool false, .int .i64 0, .int .i64 0, .int .i64 0] := by rw [hW1]; exact Blk.new _ _ _
  obtain ⟨vn, vb, vp, vl, vs, vk, h1⟩ := hR.grow hb1
  have hil := (List.getElem?_eq_some_iff.1 hi).1
  obtain ⟨vol, hsl, hvo⟩ := h1.lots
  obtain ⟨A, c, hvl⟩ := Sl.form hsl
  subst hvl
  obtain ⟨q, off, hAq, _, hq, hrg⟩ := rlot_range hsl hi hil
  subst hAq
  obtain ⟨⟨sA, sc, hsv⟩, _⟩ := hvo i l hi
  rw [hsv] at hrg
  have c3 := h1.cells.2.2.2.1
  have c6 := h1.cells.2.2.2.2.2.2.1
  have rl := h1.blk.lt
  obtain ⟨nl, hnl⟩ : ∃ n, n = H.lots.length := ⟨_, rfl⟩
  rw [← hnl] at c3 hil
  have e1 : (0 : Int) ≤ (i : Int) := by omega
  have e2 : (i : Int) < (nl : Int) := by omega
  obtain ⟨now, hnow⟩ : ∃ n, n = H.now := ⟨_, rfl⟩
  rw [← hnow] at c6 hnw hcl ⊢
  -- the price that is told
  obtain ⟨pv, hpv⟩ : ∃ z, z = priceL l now := ⟨_, rfl⟩
  have hpr1 : l.put.kind = 1 → pv = l.rise.price := fun e => by rw [hpv]; unfold priceL; rw [if_pos e]
  have hpr2 : l.put.kind = 2 → l.closed = false → pv = fallsI l.put now := fun e e2 => by
    rw [hpv]; unfold priceL
    rw [if_neg (by omega), if_pos e, e2]
    have hfb := fallLot_b ((lotOk_good hok).2 e)
    have hoc : l.put.opens < l.put.closes := by
      unfold lotOk at hok
      simp only [Bool.and_eq_true, decide_eq_true_eq] at hok
      exact hok.1.2
    rw [fallsI_eq hfb now (by have := hcl e e2; omega)]
    simp
  have hpr3 : ¬ l.put.kind = 1 → (¬ l.put.kind = 2 ∨ l.closed = true) → pv = l.price := fun e1 e2 => by
    rw [hpv]; unfold priceL
    rw [if_neg e1]
    by_cases k2 : l.put.kind = 2
    · rw [if_pos k2, if_pos (e2.resolve_left (fun h => h k2))]
    · rw [if_neg k2]
      by_cases k5 : l.put.kind = 5
      · rw [if_pos k5, h5 k5]
      · rw [if_neg k5]
  have HP1 := Lib.hid hpr1
  have HP2 := Lib.hid hpr2
  have HP3 := Lib.hid hpr3
  have HLN := Lib.hid (show (lotNow l now).toArray = (l.put.cells ++ ([.int .i64 l.closes, .bool l.closed, .int .i64 pv, .int .i64 (if l.put.kind = 1 then l.rise.leader else -1), .int .i64 l.stands.length] : List Value)).toArray by rw [hpv]; rfl)
  have HFB := Lib.hid (fun e => fallLot_b ((lotOk_good hok).2 e))
  have HNW := Lib.hid hnw
  obtain ⟨lnv, hlnv⟩ : ∃ z, z = (lotNow l now).toArray := ⟨_, rfl⟩
  rw [← hlnv] at HLN ⊢
  clear hpr1 hpr2 hpr3 hpv hok h5 hnw hcl hR h1 hsl hvo hsv hnl hnow hlnv
  obtain ⟨⟨kind, opens, closes, start, step, extend, last, floor, fall, count, rule⟩, clo, cld, stn, ⟨ld, lm, rp, rc⟩, pr⟩ := l
  simp only at HP1 HP2 HP3 HFB
  obtain ⟨ns, hns⟩ : ∃ n, n = stn.length := ⟨_, rfl⟩
  simp only [rlotCells, LotR.cells, RiseR.cells, List.cons_append, List.nil_append] at hrg HLN
  simp only [← hns] at hrg HLN
  have HRG := Lib.hid hrg
  have HX1 := Lib.hid hx1
  have HB1 := Lib.hid hb1
  clear hrg hx1 hb1 hns hi
  have c3' := c3
  rw [hW1] at c3'
  have HCELLS := Lib.hid (show ∀ Y, Ac.Blk Y (W.heap.size + 1) 127 #[.int .i64 kind, .int .i64 opens, .int .i64 closes, .int .i64 start, .int .i64 step, .int .i64 extend, .int .i64 last, .int .i64 floor, .int .i64 fall, .int .i64 count, .int .i64 rule, .int .i64 clo, .bool cld, .slice sA ns sc, .int .i64 ld, .int .i64 lm, .int .i64 rp, .int .i64 rc, .int .i64 pr] → Y.cell? ⟨W.heap.size + 1, 0, none⟩ = some (.int .i64 kind) ∧ Y.cell? ⟨W.heap.size + 1, 11, none⟩ = some (.int .i64 clo) ∧ Y.cell? ⟨W.heap.size + 1, 12, none⟩ = some (.bool cld) ∧ Y.cell? ⟨W.heap.size + 1, 13, none⟩ = some (.slice sA ns sc) ∧ Y.cell? ⟨W.heap.size + 1, 14, none⟩ = some (.int .i64 ld) ∧ Y.cell? ⟨W.heap.size + 1, 16, none⟩ = some (.int .i64 rp) ∧ Y.cell? ⟨W.heap.size + 1, 18, none⟩ = some (.int .i64 pr) ∧ Y.rangeAt (W.heap.size + 1) 0 [.int .i64 kind, .int .i64 opens, .int .i64 closes, .int .i64 start, .int .i64 step, .int .i64 extend, .int .i64 last, .int .i64 floor, .int .i64 fall, .int .i64 count, .int .i64 rule] from fun Y h => ⟨h.cell 0, h.cell 11, h.cell 12, h.cell 13, h.cell 14, h.cell 16, h.cell 18, Blk.range h 0 _ fun j u hj => by
    have hlt : j < 11 := by
      have := (List.getElem?_eq_some_iff.1 hj).1
      simpa using this
    have : j = 0 ∨ j = 1 ∨ j = 2 ∨ j = 3 ∨ j = 4 ∨ j = 5 ∨ j = 6 ∨ j = 7 ∨ j = 8 ∨ j = 9 ∨ j = 10 := by omega
    rcases this with rfl | rfl | rfl | rfl | rfl | rfl | rfl | rfl | rfl | rfl | rfl <;> exact hj⟩)
  obtain ⟨U, hU⟩ : ∃ U, U = ((W.alloc (.cells #[.int .i64 0, .int .i64 0, .int .i64 0, .int .i64 0, .int .i64 0, .int .i64 0, .int .i64 0, .int .i64 0, .int .i64 0, .int .i64 0, .int .i64 0, .int .i64 0, .bool false, .int .i64 0, .int .i64 0, .int .i64 0] 119)).alloc (.cells #[.int .i64 0, .int .i64 0, .int .i64 0, .int .i64 0, .int .i64 0, .int .i64 0, .int .i64 0, .int .i64 0, .int .i64 0, .int .i64 0, .int .i64 0, .int .i64 0, .bool false, .slice none 0 0, .int .i64 0, .int .i64 0, .int .i64 0, .int .i64 0, .int .i64 0] 127)).setRow (W.heap.size + 1) #[.int .i64 kind, .int .i64 opens, .int .i64 closes, .int .i64 start, .int .i64 step, .int .i64 extend, .int .i64 last, .int .i64 floor, .int .i64 fall, .int .i64 count, .int .i64 rule, .int .i64 clo, .bool cld, .slice sA ns sc, .int .i64 ld, .int .i64 lm, .int .i64 rp, .int .i64 rc, .int .i64 pr] := ⟨_, rfl⟩
  have HXU := Lib.hid (show Ac.Blk U (W.heap.size + 1) 127 #[.int .i64 kind, .int .i64 opens, .int .i64 closes, .int .i64 start, .int .i64 step, .int .i64 extend, .int .i64 last, .int .i64 floor, .int .i64 fall, .int .i64 count, .int .i64 rule, .int .i64 clo, .bool cld, .slice sA ns sc, .int .i64 ld, .int .i64 lm, .int .i64 rp, .int .i64 rc, .int .i64 pr] by rw [hU]; exact Blk.setRow (Blk.new' _ _ (by simp)) _)
  have hbU1 : Below W1.heap.size W1 U := by rw [hU, ← hW1]; exact below_setRow ((Below.refl _ _).alloc (Nat.le_refl _) _) (by rw [hW1]; simp) _
  have HZU := Lib.hid (HX1.out.grow hbU1)
  have HBU := Lib.hid (HB1.out.trans (hbU1.mono HB1.out.size))
  have d6 := (hbU1.cell (p := ⟨r, 6, none⟩) rl).trans c6
  have rlU := Nat.lt_of_lt_of_le rl hbU1.size
  have hsU : W.heap.size + 1 < U.heap.size := HXU.out.lt
  obtain ⟨u0, u11, u12, u13, u14, u16, u18, ur⟩ := HCELLS.out U HXU.out
  have HUR := Lib.hid ur
  clear hbU1 ur c6 rl
  by_cases hk1 : kind = 1
  · have k1 : (kind == 1) = true := by simp [hk1]
    have k2 : (kind == 2) = false := by simp [hk1]
    have K1 := Lib.hid hk1
    clear hk1
    have HE := Lib.hid (show lnv = #[.int .i64 kind, .int .i64 opens, .int .i64 closes, .int .i64 start, .int .i64 step, .int .i64 extend, .int .i64 last, .int .i64 floor, .int .i64 fall, .int .i64 count, .int .i64 rule, .int .i64 clo, .bool cld, .int .i64 rp, .int .i64 ld, .int .i64 ns] by rw [HLN.out, if_pos K1.out, HP1.out K1.out])
    go_enter Tryz.func50, Tryz.ntmps50
    go_wp2_with (first
      | (refine wpList_load_mid rfl 127 (.tmp 25) rfl q (off + i * 19) rfl [.int .i64 kind, .int .i64 opens, .int .i64 closes, .int .i64 start, .int .i64 step, .int .i64 extend, .int .i64 last, .int .i64 floor, .int .i64 fall, .int .i64 count, .int .i64 rule, .int .i64 clo, .bool cld, .slice sA ns sc, .int .i64 ld, .int .i64 lm, .int .i64 rp, .int .i64 rc, .int .i64 pr] _ (by rw [← hW1]; exact HRG.out) Tryz.underlying127 rfl (by kernel_rfl) ?_)
      | (refine wpList_store_row rfl 127 (.tmp 6) (.tmp 26) rfl (W.heap.size + 1) #[.int .i64 kind, .int .i64 opens, .int .i64 closes, .int .i64 start, .int .i64 step, .int .i64 extend, .int .i64 last, .int .i64 floor, .int .i64 fall, .int .i64 count, .int .i64 rule, .int .i64 clo, .bool cld, .slice sA ns sc, .int .i64 ld, .int .i64 lm, .int .i64 rp, .int .i64 rc, .int .i64 pr] rfl rfl 127 #[.int .i64 0, .int .i64 0, .int .i64 0, .int .i64 0, .int .i64 0, .int .i64 0, .int .i64 0, .int .i64 0, .int .i64 0, .int .i64 0, .int .i64 0, .int .i64 0, .bool false, .slice none 0 0, .int .i64 0, .int .i64 0, .int .i64 0, .int .i64 0, .int .i64 0] (Blk.new' _ _ (by simp)) (by kernel_rfl) rfl (by kernel_rfl) ?_; rw [← hU]; clear hU)
      | (refine wpList_load_mid rfl 33 (.tmp 27) rfl (W.heap.size + 1) 0 rfl [.int .i64 kind, .int .i64 opens, .int .i64 closes, .int .i64 start, .int .i64 step, .int .i64 extend, .int .i64 last, .int .i64 floor, .int .i64 fall, .int .i64 count, .int .i64 rule] _ HUR.out Tryz.underlying33 rfl (by kernel_rfl) ?_))
    obtain ⟨V, hV⟩ : ∃ V, V = U.alloc (.cells #[.int .i64 kind, .int .i64 opens, .int .i64 closes, .int .i64 start, .int .i64 step, .int .i64 extend, .int .i64 last, .int .i64 floor, .int .i64 fall, .int .i64 count, .int .i64 rule, .int .i64 clo, .bool cld, .int .i64 pr, .int .i64 (-1), .int .i64 ns] 119) := ⟨_, rfl⟩
    have hbV : Below U.heap.size U V := by rw [hV]; exact (Below.refl _ _).alloc (Nat.le_refl _) _
    have HV := Lib.hid (show Ac.Blk V U.heap.size 119 #[.int .i64 kind, .int .i64 opens, .int .i64 closes, .int .i64 start, .int .i64 step, .int .i64 extend, .int .i64 last, .int .i64 floor, .int .i64 fall, .int .i64 count, .int .i64 rule, .int .i64 clo, .bool cld, .int .i64 pr, .int .i64 (-1), .int .i64 ns] by rw [hV]; exact Blk.new U _ _)
    have HXV := Lib.hid (HXU.out.grow hbV)
    have HZV := Lib.hid (HZU.out.grow hbV)
    have HBV := Lib.hid (HBU.out.trans (hbV.mono HBU.out.size))
    have HSV := Lib.hid (show U.heap.size < V.heap.size by rw [hV]; simp)
    have HNE := Lib.hid (show ¬ W.heap.size + 1 = U.heap.size by omega)
    have HNZ := Lib.hid (show ¬ W.heap.size = U.heap.size by omega)
    have HLE := Lib.hid (show W.heap.size ≤ U.heap.size by omega)
    have v6 := (hbV.cell (p := ⟨r, 6, none⟩) rlU).trans d6
    have rlV := Nat.lt_of_lt_of_le rlU hbV.size
    obtain ⟨_, _, _, _, v14, v16, _, vr⟩ := HCELLS.out V HXV.out
    have hvl := HV.out.lt
    have HVR := Lib.hid vr
    clear hbV vr
    rw [← hV]
    clear hV
    have hv14 := HV.out.cell 14
    have hv14f := HV.out.frozen 14
    have hv13 := (HV.out.set_ 14 (.int .i64 ld)).cell 13
    have hv13f := (HV.out.set_ 14 (.int .i64 ld)).frozen 13
    refine wp_region_F (fun w => w.cell? ⟨W.heap.size + 1, 14, none⟩ = some (.int .i64 ld) ∧ w.cell? ⟨W.heap.size + 1, 16, none⟩ = some (.int .i64 rp)) [9] (by kernel_rfl) ⟨v14, v16⟩ (fun hS => ?_)
    refine wpAnyF_take (i := 0) (oi := ⟨some 43, .fieldAddr 127 (.tmp 6) 4, 0, "ref.go:473", #[], none⟩) (v := ?_) rfl (by kernel_rfl) (by kernel_rfl) (by kernel_rfl) (by kernel_rfl) (fun _ _ _ h => h) (Or.inl ⟨by rfl, ?_⟩) hS ?_
    rotate_left
    · intro w' _; go_simp; try with_reducible rfl
    try simp only [Act.put, pb, pz, ps]
    refine wpAnyF_take (i := 1) (oi := ⟨some 44, .fieldAddr 125 (.tmp 43) 0, 0, "ref.go:473", #[⟨0, .data⟩], none⟩) (v := ?_) rfl (by kernel_rfl) (by kernel_rfl) (by kernel_rfl) (by kernel_rfl) (fun _ _ _ h => h) (Or.inl ⟨by rfl, ?_⟩) hS ?_
    rotate_left
    · intro w' _; go_simp; try with_reducible rfl
    try simp only [Act.put, pb, pz, ps]
    refine wpAnyF_take (i := 2) (oi := ⟨some 45, .load 3 (.tmp 44), 3, "ref.go:473", #[⟨1, .data⟩], none⟩) (v := ?_) rfl (by kernel_rfl) (by kernel_rfl) (by kernel_rfl) (by kernel_rfl) (fun _ _ _ h => h) (Or.inl ⟨by rfl, ?_⟩) hS ?_
    rotate_left
    · intro w' hSw; have q14 := hSw.1; have q16 := hSw.2; go_simp; try with_reducible rfl
    try simp only [Act.put, pb, pz, ps]
    refine wpAnyF_take (i := 3) (oi := ⟨some 46, .fieldAddr 127 (.tmp 6) 4, 0, "ref.go:473", #[⟨7, .gcOnly .lateStores⟩], none⟩) (v := ?_) rfl (by kernel_rfl) (by kernel_rfl) (by kernel_rfl) (by kernel_rfl) (fun _ _ _ h => h) (Or.inl ⟨by rfl, ?_⟩) hS ?_
    rotate_left
    · intro w' _; go_simp; try with_reducible rfl
    try simp only [Act.put, pb, pz, ps]
    refine wpAnyF_take (i := 4) (oi := ⟨some 47, .fieldAddr 125 (.tmp 46) 2, 0, "ref.go:473", #[⟨3, .data⟩, ⟨7, .gcOnly .lateStores⟩], none⟩) (v := ?_) rfl (by kernel_rfl) (by kernel_rfl) (by kernel_rfl) (by kernel_rfl) (fun _ _ _ h => h) (Or.inl ⟨by rfl, ?_⟩) hS ?_
    rotate_left
    · intro w' _; go_simp; try with_reducible rfl
    try simp only [Act.put, pb, pz, ps]
    refine wpAnyF_take (i := 5) (oi := ⟨some 48, .load 2 (.tmp 47), 2, "ref.go:473", #[⟨4, .data⟩, ⟨7, .gcOnly .lateStores⟩], none⟩) (v := ?_) rfl (by kernel_rfl) (by kernel_rfl) (by kernel_rfl) (by kernel_rfl) (fun _ _ _ h => h) (Or.inl ⟨by rfl, ?_⟩) hS ?_
    rotate_left
    · intro w' hSw; have q14 := hSw.1; have q16 := hSw.2; go_simp; try with_reducible rfl
    try simp only [Act.put, pb, pz, ps]
    refine wpAnyF_take (i := 6) (oi := ⟨some 49, .fieldAddr 119 (.tmp 7) 4, 0, "ref.go:473", #[⟨0, .phase⟩, ⟨1, .phase⟩, ⟨2, .phase⟩, ⟨3, .textOnly .lateStores⟩, ⟨4, .textOnly .lateStores⟩, ⟨5, .textOnly .lateStores⟩], none⟩) (v := ?_) rfl (by kernel_rfl) (by kernel_rfl) (by kernel_rfl) (by kernel_rfl) (fun _ _ _ h => h) (Or.inl ⟨by rfl, ?_⟩) hS ?_
    rotate_left
    · intro w' _; go_simp; try with_reducible rfl
    try simp only [Act.put, pb, pz, ps]
    refine wpAnyF_ready (rs := [7]) (by kernel_rfl) (by simp) ?_
    refine AllReadyF.cons (o := ⟨none, .store 3 (.tmp 49) (.tmp 45), 0, "ref.go:473", #[⟨6, .data⟩, ⟨2, .data⟩, ⟨0, .phase⟩, ⟨1, .phase⟩, ⟨2, .phase⟩, ⟨3, .textOnly .lateStores⟩, ⟨4, .textOnly .lateStores⟩, ⟨5, .textOnly .lateStores⟩], none⟩) rfl (by rfl) (fun K hK => ?_) ?_
    · go_simp
      refine hK.out _ _ ?_ (fun hS => ?_)
      · have hc := Chg.set V ⟨U.heap.size, 14, none⟩ (.int .i64 ld); exact ⟨(hc.cell (p := ⟨W.heap.size + 1, 14, none⟩) HXV.out.lt HNE.out).trans v14, (hc.cell (p := ⟨W.heap.size + 1, 16, none⟩) HXV.out.lt HNE.out).trans v16⟩
      clear hK K
      try simp only [Act.put, pb, pz, ps]
      refine wpAnyF_take (i := 8) (oi := ⟨some 50, .fieldAddr 119 (.tmp 7) 3, 0, "ref.go:473", #[⟨0, .phase⟩, ⟨1, .phase⟩, ⟨2, .phase⟩, ⟨3, .phase⟩, ⟨4, .phase⟩, ⟨5, .phase⟩, ⟨6, .phase⟩, ⟨7, .phase⟩], none⟩) (v := ?_) rfl (by kernel_rfl) (by kernel_rfl) (by kernel_rfl) (by kernel_rfl) (fun _ _ _ h => h) (Or.inl ⟨by rfl, ?_⟩) hS ?_
      rotate_left
      · intro w' _; go_simp; try with_reducible rfl
      try simp only [Act.put, pb, pz, ps]
      refine wpAnyF_ready (rs := [9]) (by kernel_rfl) (by simp) ?_
      refine AllReadyF.fin (o := ⟨none, .store 2 (.tmp 50) (.tmp 48), 0, "ref.go:473", #[⟨8, .data⟩, ⟨5, .data⟩, ⟨7, .chain⟩, ⟨0, .phase⟩, ⟨1, .phase⟩, ⟨2, .phase⟩, ⟨3, .phase⟩, ⟨4, .phase⟩, ⟨5, .phase⟩, ⟨6, .phase⟩, ⟨7, .phase⟩], none⟩) rfl (by rfl) (fun K hK => ?_) ?_
      · go_simp
        refine hK.out _ _ ?_
        clear hK K
        try simp only [Act.put, pb, pz, ps]
        refine wpAnyF_done (by kernel_rfl) ?_ _
        clear hS
        go_wp2_with (first
          | (refine wpList_load_row rfl 119 (.tmp 7) rfl U.heap.size rfl 119 #[.int .i64 kind, .int .i64 opens, .int .i64 closes, .int .i64 start, .int .i64 step, .int .i64 extend, .int .i64 last, .int .i64 floor, .int .i64 fall, .int .i64 count, .int .i64 rule, .int .i64 clo, .bool cld, .int .i64 rp, .int .i64 ld, .int .i64 ns] (0, 0) _ ((HV.out.set_ 14 _).set_ 13 _) Tryz.underlying119 rfl (by kernel_rfl) ?_)
          | (refine wpList_store_row rfl 119 (.tmp 4) (.tmp 68) rfl W.heap.size #[.int .i64 kind, .int .i64 opens, .int .i64 closes, .int .i64 start, .int .i64 step, .int .i64 extend, .int .i64 last, .int .i64 floor, .int .i64 fall, .int .i64 count, .int .i64 rule, .int .i64 clo, .bool cld, .int .i64 rp, .int .i64 ld, .int .i64 ns] rfl rfl 119 #[.int .i64 0, .int .i64 0, .int .i64 0, .int .i64 0, .int .i64 0, .int .i64 0, .int .i64 0, .int .i64 0, .int .i64 0, .int .i64 0, .int .i64 0, .int .i64 0, .bool false, .int .i64 0, .int .i64 0, .int .i64 0] ((HZV.out.far HNZ.out _).far HNZ.out _) (by kernel_rfl) rfl (by kernel_rfl) ?_))
        refine bodyPost_ret (results_cell_row2 rfl _ _ W.heap.size 119 #[.int .i64 kind, .int .i64 opens, .int .i64 closes, .int .i64 start, .int .i64 step, .int .i64 extend, .int .i64 last, .int .i64 floor, .int .i64 fall, .int .i64 count, .int .i64 rule, .int .i64 clo, .bool cld, .int .i64 rp, .int .i64 ld, .int .i64 ns] (0, 0) _ rfl (setRow_heap _ _ _ _ _ _ ((HZV.out.far HNZ.out _).far HNZ.out _)) Tryz.underlying119 rfl (by kernel_rfl)) rfl ⟨by (rw [HE.out]; try rfl), ?_⟩
        exact below_setRow ((HBV.out.setCell (p := ⟨U.heap.size, 14, none⟩) HLE.out _).setCell (p := ⟨U.heap.size, 13, none⟩) HLE.out _).drew (Nat.le_refl _) _
      exact AllReadyF.nil
    exact AllReadyF.nil
  · have k1 : (kind == 1) = false := by simp [hk1]
    have K1 := Lib.hid hk1
    clear hk1
    by_cases hk2 : kind = 2
    · have k2 : (kind == 2) = true := by simp [hk2]
      cases cld
      · have HPV := Lib.hid (HP2.out hk2 rfl)
        have HF := Lib.hid (HFB.out hk2)
        clear hk2
        have HE := Lib.hid (show lnv = #[.int .i64 kind, .int .i64 opens, .int .i64 closes, .int .i64 start, .int .i64 step, .int .i64 extend, .int .i64 last, .int .i64 floor, .int .i64 fall, .int .i64 count, .int .i64 rule, .int .i64 clo, .bool false, .int .i64 pv, .int .i64 (-1), .int .i64 ns] by rw [HLN.out, if_neg K1.out])
        go_enter Tryz.func50, Tryz.ntmps50
        go_wp2_with (first
          | (refine wpList_load_mid rfl 127 (.tmp 25) rfl q (off + i * 19) rfl [.int .i64 kind, .int .i64 opens, .int .i64 closes, .int .i64 start, .int .i64 step, .int .i64 extend, .int .i64 last, .int .i64 floor, .int .i64 fall, .int .i64 count, .int .i64 rule, .int .i64 clo, .bool false, .slice sA ns sc, .int .i64 ld, .int .i64 lm, .int .i64 rp, .int .i64 rc, .int .i64 pr] _ (by rw [← hW1]; exact HRG.out) Tryz.underlying127 rfl (by kernel_rfl) ?_)
          | (refine wpList_store_row rfl 127 (.tmp 6) (.tmp 26) rfl (W.heap.size + 1) #[.int .i64 kind, .int .i64 opens, .int .i64 closes, .int .i64 start, .int .i64 step, .int .i64 extend, .int .i64 last, .int .i64 floor, .int .i64 fall, .int .i64 count, .int .i64 rule, .int .i64 clo, .bool false, .slice sA ns sc, .int .i64 ld, .int .i64 lm, .int .i64 rp, .int .i64 rc, .int .i64 pr] rfl rfl 127 #[.int .i64 0, .int .i64 0, .int .i64 0, .int .i64 0, .int .i64 0, .int .i64 0, .int .i64 0, .int .i64 0, .int .i64 0, .int .i64 0, .int .i64 0, .int .i64 0, .bool false, .slice none 0 0, .int .i64 0, .int .i64 0, .int .i64 0, .int .i64 0, .int .i64 0] (Blk.new' _ _ (by simp)) (by kernel_rfl) rfl (by kernel_rfl) ?_; rw [← hU]; clear hU)
          | (refine wpList_load_mid rfl 33 (.tmp 27) rfl (W.heap.size + 1) 0 rfl [.int .i64 kind, .int .i64 opens, .int .i64 closes, .int .i64 start, .int .i64 step, .int .i64 extend, .int .i64 last, .int .i64 floor, .int .i64 fall, .int .i64 count, .int .i64 rule] _ HUR.out Tryz.underlying33 rfl (by kernel_rfl) ?_))
        obtain ⟨V, hV⟩ : ∃ V, V = U.alloc (.cells #[.int .i64 kind, .int .i64 opens, .int .i64 closes, .int .i64 start, .int .i64 step, .int .i64 extend, .int .i64 last, .int .i64 floor, .int .i64 fall, .int .i64 count, .int .i64 rule, .int .i64 clo, .bool false, .int .i64 pr, .int .i64 (-1), .int .i64 ns] 119) := ⟨_, rfl⟩
        have hbV : Below U.heap.size U V := by rw [hV]; exact (Below.refl _ _).alloc (Nat.le_refl _) _
        have HV := Lib.hid (show Ac.Blk V U.heap.size 119 #[.int .i64 kind, .int .i64 opens, .int .i64 closes, .int .i64 start, .int .i64 step, .int .i64 extend, .int .i64 last, .int .i64 floor, .int .i64 fall, .int .i64 count, .int .i64 rule, .int .i64 clo, .bool false, .int .i64 pr, .int .i64 (-1), .int .i64 ns] by rw [hV]; exact Blk.new U _ _)
        have HXV := Lib.hid (HXU.out.grow hbV)
        have HZV := Lib.hid (HZU.out.grow hbV)
        have HBV := Lib.hid (HBU.out.trans (hbV.mono HBU.out.size))
        have HSV := Lib.hid (show U.heap.size < V.heap.size by rw [hV]; simp)
        have HNE := Lib.hid (show ¬ W.heap.size + 1 = U.heap.size by omega)
        have HNZ := Lib.hid (show ¬ W.heap.size = U.heap.size by omega)
        have HLE := Lib.hid (show W.heap.size ≤ U.heap.size by omega)
        have v6 := (hbV.cell (p := ⟨r, 6, none⟩) rlU).trans d6
        have rlV := Nat.lt_of_lt_of_le rlU hbV.size
        obtain ⟨_, _, _, _, v14, v16, _, vr⟩ := HCELLS.out V HXV.out
        have hvl := HV.out.lt
        have HVR := Lib.hid vr
        clear hbV vr
        rw [← hV]
        clear hV
        refine wp_region_F (Below V.heap.size V) [8] (by kernel_rfl) ((Below.refl _ _).drew) (fun hS => ?_)
        refine wpAnyF_take (i := 0) (oi := ⟨some 60, .fieldAddr 127 (.tmp 6) 0, 0, "ref.go:476", #[], none⟩) (v := ?_) rfl (by kernel_rfl) (by kernel_rfl) (by kernel_rfl) (by kernel_rfl) (fun _ _ _ h => h) (Or.inl ⟨by rfl, ?_⟩) hS ?_
        rotate_left
        · intro w' _; go_simp; try with_reducible rfl
        try simp only [Act.put, pb, pz, ps]
        refine wpAnyF_take (i := 1) (oi := ⟨some 61, .load 33 (.tmp 60), 33, "ref.go:476", #[⟨0, .data⟩], none⟩) (v := ?_) rfl (by kernel_rfl) (by kernel_rfl) (by kernel_rfl) (by kernel_rfl) (fun _ _ _ h => h) (Or.inl ⟨by rfl, ?_⟩) hS ?_
        rotate_left
        · intro w' hSw; refine Eq.trans (exec_load_mid 33 (.tmp 60) (by rfl) (W.heap.size + 1) 0 (by rfl) [.int .i64 kind, .int .i64 opens, .int .i64 closes, .int .i64 start, .int .i64 step, .int .i64 extend, .int .i64 last, .int .i64 floor, .int .i64 fall, .int .i64 count, .int .i64 rule] _ (fun j v hj => (hSw.cell (p := ⟨W.heap.size + 1, 0 + j, none⟩) HXV.out.lt).trans (HVR.out j v hj)) Tryz.underlying33 rfl (by kernel_rfl)) ?_; with_reducible rfl
        try simp only [Act.put, pb, pz, ps]
        refine wpAnyF_take (i := 2) (oi := ⟨some 62, .move (.tmp 0), 47, "ref.go:476", #[], none⟩) (v := ?_) rfl (by kernel_rfl) (by kernel_rfl) (by kernel_rfl) (by kernel_rfl) (fun _ _ _ h => h) (Or.inl ⟨by rfl, ?_⟩) hS ?_
        rotate_left
        · intro w' _; go_simp; try with_reducible rfl
        try simp only [Act.put, pb, pz, ps]
        refine wpAnyF_take (i := 3) (oi := ⟨some 63, .nilCheck (.tmp 62), 0, "ref.go:476", #[⟨2, .data⟩], none⟩) (v := ?_) rfl (by kernel_rfl) (by kernel_rfl) (by kernel_rfl) (by kernel_rfl) (fun _ _ _ h => h) (Or.inl ⟨by rfl, ?_⟩) hS ?_
        rotate_left
        · intro w' _; go_simp; try with_reducible rfl
        try simp only [Act.put, pb, pz, ps]
        refine wpAnyF_take (i := 4) (oi := ⟨some 64, .fieldAddr 52 (.tmp 63) 6, 0, "ref.go:476", #[⟨3, .data⟩], none⟩) (v := ?_) rfl (by kernel_rfl) (by kernel_rfl) (by kernel_rfl) (by kernel_rfl) (fun _ _ _ h => h) (Or.inl ⟨by rfl, ?_⟩) hS ?_
        rotate_left
        · intro w' _; go_simp; try with_reducible rfl
        try simp only [Act.put, pb, pz, ps]
        refine wpAnyF_take (i := 5) (oi := ⟨some 65, .load 2 (.tmp 64), 2, "ref.go:476", #[⟨4, .data⟩], none⟩) (v := ?_) rfl (by kernel_rfl) (by kernel_rfl) (by kernel_rfl) (by kernel_rfl) (fun _ _ _ h => h) (Or.inl ⟨by rfl, ?_⟩) hS ?_
        rotate_left
        · intro w' hSw; have q6 := (hSw.cell (p := ⟨r, 6, none⟩) rlV).trans v6; go_simp; try with_reducible rfl
        try simp only [Act.put, pb, pz, ps]
        refine wpAnyF_ready (rs := [6]) (by kernel_rfl) (by simp) ?_
        refine AllReadyF.cons (o := ⟨some 66, .call { callee := .value (.func 102), args := #[.tmp 61, .tmp 65], argTypes := #[33, 2] }, 2, "ref.go:476", #[⟨1, .data⟩, ⟨5, .data⟩], none⟩) rfl (by rfl) (fun K hK => ?_) ?_
        · go_simp
          refine (rfalls_any (w := V.drew) HF.out HNW.out).mono ?_
          rintro e W4 ⟨rfl, hb4⟩
          rw [← HPV.out]
          have hb4 : Below V.heap.size V W4 := (Below.refl _ _).drew.trans (hb4.mono (Nat.le_refl _))
          have HV4 := Lib.hid (HV.out.grow hb4)
          have HZ4 := Lib.hid (HZV.out.grow hb4)
          have HB4 := Lib.hid (HBV.out.trans (hb4.mono HBV.out.size))
          have hv13 := HV4.out.cell 13
          have hv13f := HV4.out.frozen 13
          have HB34 := Lib.hid hb4
          clear hb4
          refine hK.out _ _ ?_ (fun hS => ?_)
          · exact HB34.out
          clear hK K
          try simp only [Act.put, pb, pz, ps]
          refine wpAnyF_take (i := 7) (oi := ⟨some 67, .fieldAddr 119 (.tmp 7) 3, 0, "ref.go:476", #[⟨0, .phase⟩, ⟨1, .phase⟩, ⟨2, .phase⟩, ⟨3, .phase⟩, ⟨4, .phase⟩, ⟨5, .phase⟩, ⟨6, .phase⟩], none⟩) (v := ?_) rfl (by kernel_rfl) (by kernel_rfl) (by kernel_rfl) (by kernel_rfl) (fun _ _ _ h => h) (Or.inl ⟨by rfl, ?_⟩) hS ?_
          rotate_left
          · intro w' _; go_simp; try with_reducible rfl
          try simp only [Act.put, pb, pz, ps]
          refine wpAnyF_ready (rs := [8]) (by kernel_rfl) (by simp) ?_
          refine AllReadyF.fin (o := ⟨none, .store 2 (.tmp 67) (.tmp 66), 0, "ref.go:476", #[⟨7, .data⟩, ⟨6, .data⟩, ⟨6, .chain⟩, ⟨0, .phase⟩, ⟨1, .phase⟩, ⟨2, .phase⟩, ⟨3, .phase⟩, ⟨4, .phase⟩, ⟨5, .phase⟩, ⟨6, .phase⟩], none⟩) rfl (by rfl) (fun K hK => ?_) ?_
          · go_simp
            refine hK.out _ _ ?_
            clear hK K
            try simp only [Act.put, pb, pz, ps]
            refine wpAnyF_done (by kernel_rfl) ?_ _
            clear hS
            go_wp2_with (first
              | (refine wpList_load_row rfl 119 (.tmp 7) rfl U.heap.size rfl 119 #[.int .i64 kind, .int .i64 opens, .int .i64 closes, .int .i64 start, .int .i64 step, .int .i64 extend, .int .i64 last, .int .i64 floor, .int .i64 fall, .int .i64 count, .int .i64 rule, .int .i64 clo, .bool false, .int .i64 pv, .int .i64 (-1), .int .i64 ns] (0, 0) _ (HV4.out.set_ 13 _) Tryz.underlying119 rfl (by kernel_rfl) ?_)
              | (refine wpList_store_row rfl 119 (.tmp 4) (.tmp 68) rfl W.heap.size #[.int .i64 kind, .int .i64 opens, .int .i64 closes, .int .i64 start, .int .i64 step, .int .i64 extend, .int .i64 last, .int .i64 floor, .int .i64 fall, .int .i64 count, .int .i64 rule, .int .i64 clo, .bool false, .int .i64 pv, .int .i64 (-1), .int .i64 ns] rfl rfl 119 #[.int .i64 0, .int .i64 0, .int .i64 0, .int .i64 0, .int .i64 0, .int .i64 0, .int .i64 0, .int .i64 0, .int .i64 0, .int .i64 0, .int .i64 0, .int .i64 0, .bool false, .int .i64 0, .int .i64 0, .int .i64 0] (HZ4.out.far HNZ.out _) (by kernel_rfl) rfl (by kernel_rfl) ?_))
            refine bodyPost_ret (results_cell_row2 rfl _ _ W.heap.size 119 #[.int .i64 kind, .int .i64 opens, .int .i64 closes, .int .i64 start, .int .i64 step, .int .i64 extend, .int .i64 last, .int .i64 floor, .int .i64 fall, .int .i64 count, .int .i64 rule, .int .i64 clo, .bool false, .int .i64 pv, .int .i64 (-1), .int .i64 ns] (0, 0) _ rfl (setRow_heap _ _ _ _ _ _ (HZ4.out.far HNZ.out _)) Tryz.underlying119 rfl (by kernel_rfl)) rfl ⟨by (rw [HE.out]; try rfl), ?_⟩
            exact below_setRow (HB4.out.setCell (p := ⟨U.heap.size, 13, none⟩) HLE.out _) (Nat.le_refl _) _
          exact AllReadyF.nil
        exact AllReadyF.nil
      · have K2 := Lib.hid (show ¬ kind = 2 ∨ true = true from Or.inr rfl)
        clear hk2
        have HE := Lib.hid (show lnv = #[.int .i64 kind, .int .i64 opens, .int .i64 closes, .int .i64 start, .int .i64 step, .int .i64 extend, .int .i64 last, .int .i64 floor, .int .i64 fall, .int .i64 count, .int .i64 rule, .int .i64 clo, .bool true, .int .i64 pr, .int .i64 (-1), .int .i64 ns] by rw [HLN.out, if_neg K1.out, HP3.out K1.out K2.out])
        go_enter Tryz.func50, Tryz.ntmps50
        go_wp2_with (first
          | (refine wpList_load_mid rfl 127 (.tmp 25) rfl q (off + i * 19) rfl [.int .i64 kind, .int .i64 opens, .int .i64 closes, .int .i64 start, .int .i64 step, .int .i64 extend, .int .i64 last, .int .i64 floor, .int .i64 fall, .int .i64 count, .int .i64 rule, .int .i64 clo, .bool true, .slice sA ns sc, .int .i64 ld, .int .i64 lm, .int .i64 rp, .int .i64 rc, .int .i64 pr] _ (by rw [← hW1]; exact HRG.out) Tryz.underlying127 rfl (by kernel_rfl) ?_)
          | (refine wpList_store_row rfl 127 (.tmp 6) (.tmp 26) rfl (W.heap.size + 1) #[.int .i64 kind, .int .i64 opens, .int .i64 closes, .int .i64 start, .int .i64 step, .int .i64 extend, .int .i64 last, .int .i64 floor, .int .i64 fall, .int .i64 count, .int .i64 rule, .int .i64 clo, .bool true, .slice sA ns sc, .int .i64 ld, .int .i64 lm, .int .i64 rp, .int .i64 rc, .int .i64 pr] rfl rfl 127 #[.int .i64 0, .int .i64 0, .int .i64 0, .int .i64 0, .int .i64 0, .int .i64 0, .int .i64 0, .int .i64 0, .int .i64 0, .int .i64 0, .int .i64 0, .int .i64 0, .bool false, .slice none 0 0, .int .i64 0, .int .i64 0, .int .i64 0, .int .i64 0, .int .i64 0] (Blk.new' _ _ (by simp)) (by kernel_rfl) rfl (by kernel_rfl) ?_; rw [← hU]; clear hU)
          | (refine wpList_load_mid rfl 33 (.tmp 27) rfl (W.heap.size + 1) 0 rfl [.int .i64 kind, .int .i64 opens, .int .i64 closes, .int .i64 start, .int .i64 step, .int .i64 extend, .int .i64 last, .int .i64 floor, .int .i64 fall, .int .i64 count, .int .i64 rule] _ HUR.out Tryz.underlying33 rfl (by kernel_rfl) ?_)
          | (refine wpList_load_row rfl 119 (.tmp 7) rfl U.heap.size rfl 119 #[.int .i64 kind, .int .i64 opens, .int .i64 closes, .int .i64 start, .int .i64 step, .int .i64 extend, .int .i64 last, .int .i64 floor, .int .i64 fall, .int .i64 count, .int .i64 rule, .int .i64 clo, .bool true, .int .i64 pr, .int .i64 (-1), .int .i64 ns] (0, 0) _ (Blk.new U _ _) Tryz.underlying119 rfl (by kernel_rfl) ?_)
          | (refine wpList_store_row rfl 119 (.tmp 4) (.tmp 68) rfl W.heap.size #[.int .i64 kind, .int .i64 opens, .int .i64 closes, .int .i64 start, .int .i64 step, .int .i64 extend, .int .i64 last, .int .i64 floor, .int .i64 fall, .int .i64 count, .int .i64 rule, .int .i64 clo, .bool true, .int .i64 pr, .int .i64 (-1), .int .i64 ns] rfl rfl 119 #[.int .i64 0, .int .i64 0, .int .i64 0, .int .i64 0, .int .i64 0, .int .i64 0, .int .i64 0, .int .i64 0, .int .i64 0, .int .i64 0, .int .i64 0, .int .i64 0, .bool false, .int .i64 0, .int .i64 0, .int .i64 0] (HZU.out.grow ((Below.refl _ _).alloc (Nat.le_refl _) _)) (by kernel_rfl) rfl (by kernel_rfl) ?_))
        refine bodyPost_ret (results_cell_row2 rfl _ _ W.heap.size 119 #[.int .i64 kind, .int .i64 opens, .int .i64 closes, .int .i64 start, .int .i64 step, .int .i64 extend, .int .i64 last, .int .i64 floor, .int .i64 fall, .int .i64 count, .int .i64 rule, .int .i64 clo, .bool true, .int .i64 pr, .int .i64 (-1), .int .i64 ns] (0, 0) _ rfl (setRow_heap _ _ _ _ _ _ (HZU.out.grow ((Below.refl _ _).alloc (Nat.le_refl _) _))) Tryz.underlying119 rfl (by kernel_rfl)) rfl ⟨by (rw [HE.out]; try rfl), ?_⟩
        exact below_setRow (HBU.out.alloc HBU.out.size _) (Nat.le_refl _) _
    · have k2 : (kind == 2) = false := by simp [hk2]
      have K2 := Lib.hid (show ¬ kind = 2 ∨ cld = true from Or.inl hk2)
      clear hk2
      have HE := Lib.hid (show lnv = #[.int .i64 kind, .int .i64 opens, .int .i64 closes, .int .i64 start, .int .i64 step, .int .i64 extend, .int .i64 last, .int .i64 floor, .int .i64 fall, .int .i64 count, .int .i64 rule, .int .i64 clo, .bool cld, .int .i64 pr, .int .i64 (-1), .int .i64 ns] by rw [HLN.out, if_neg K1.out, HP3.out K1.out K2.out])
      go_enter Tryz.func50, Tryz.ntmps50
      go_wp2_with (first
        | (refine wpList_load_mid rfl 127 (.tmp 25) rfl q (off + i * 19) rfl [.int .i64 kind, .int .i64 opens, .int .i64 closes, .int .i64 start, .int .i64 step, .int .i64 extend, .int .i64 last, .int .i64 floor, .int .i64 fall, .int .i64 count, .int .i64 rule, .int .i64 clo, .bool cld, .slice sA ns sc, .int .i64 ld, .int .i64 lm, .int .i64 rp, .int .i64 rc, .int .i64 pr] _ (by rw [← hW1]; exact HRG.out) Tryz.underlying127 rfl (by kernel_rfl) ?_)
        | (refine wpList_store_row rfl 127 (.tmp 6) (.tmp 26) rfl (W.heap.size + 1) #[.int .i64 kind, .int .i64 opens, .int .i64 closes, .int .i64 start, .int .i64 step, .int .i64 extend, .int .i64 last, .int .i64 floor, .int .i64 fall, .int .i64 count, .int .i64 rule, .int .i64 clo, .bool cld, .slice sA ns sc, .int .i64 ld, .int .i64 lm, .int .i64 rp, .int .i64 rc, .int .i64 pr] rfl rfl 127 #[.int .i64 0, .int .i64 0, .int .i64 0, .int .i64 0, .int .i64 0, .int .i64 0, .int .i64 0, .int .i64 0, .int .i64 0, .int .i64 0, .int .i64 0, .int .i64 0, .bool false, .slice none 0 0, .int .i64 0, .int .i64 0, .int .i64 0, .int .i64 0, .int .i64 0] (Blk.new' _ _ (by simp)) (by kernel_rfl) rfl (by kernel_rfl) ?_; rw [← hU]; clear hU)
        | (refine wpList_load_mid rfl 33 (.tmp 27) rfl (W.heap.size + 1) 0 rfl [.int .i64 kind, .int .i64 opens, .int .i64 closes, .int .i64 start, .int .i64 step, .int .i64 extend, .int .i64 last, .int .i64 floor, .int .i64 fall, .int .i64 count, .int .i64 rule] _ HUR.out Tryz.underlying33 rfl (by kernel_rfl) ?_)
        | (refine wpList_load_row rfl 119 (.tmp 7) rfl U.heap.size rfl 119 #[.int .i64 kind, .int .i64 opens, .int .i64 closes, .int .i64 start, .int .i64 step, .int .i64 extend, .int .i64 last, .int .i64 floor, .int .i64 fall, .int .i64 count, .int .i64 rule, .int .i64 clo, .bool cld, .int .i64 pr, .int .i64 (-1), .int .i64 ns] (0, 0) _ (Blk.new U _ _) Tryz.underlying119 rfl (by kernel_rfl) ?_)
        | (refine wpList_store_row rfl 119 (.tmp 4) (.tmp 68) rfl W.heap.size #[.int .i64 kind, .int .i64 opens, .int .i64 closes, .int .i64 start, .int .i64 step, .int .i64 extend, .int .i64 last, .int .i64 floor, .int .i64 fall, .int .i64 count, .int .i64 rule, .int .i64 clo, .bool cld, .int .i64 pr, .int .i64 (-1), .int .i64 ns] rfl rfl 119 #[.int .i64 0, .int .i64 0, .int .i64 0, .int .i64 0, .int .i64 0, .int .i64 0, .int .i64 0, .int .i64 0, .int .i64 0, .int .i64 0, .int .i64 0, .int .i64 0, .bool false, .int .i64 0, .int .i64 0, .int .i64 0] (HZU.out.grow ((Below.refl _ _).alloc (Nat.le_refl _) _)) (by kernel_rfl) rfl (by kernel_rfl) ?_))
      refine bodyPost_ret (results_cell_row2 rfl _ _ W.heap.size 119 #[.int .i64 kind, .int .i64 opens, .int .i64 closes, .int .i64 start, .int .i64 step, .int .i64 extend, .int .i64 last, .int .i64 floor, .int .i64 fall, .int .i64 count, .int .i64 rule, .int .i64 clo, .bool cld, .int .i64 pr, .int .i64 (-1), .int .i64 ns] (0, 0) _ rfl (setRow_heap _ _ _ _ _ _ (HZU.out.grow ((Below.refl _ _).alloc (Nat.le_refl _) _))) Tryz.underlying119 rfl (by kernel_rfl)) rfl ⟨by (rw [HE.out]; try rfl), ?_⟩
      exact below_setRow (HBU.out.alloc HBU.out.size _) (Nat.le_refl _) _
end Go.Proofs.YthoaidfpgijbfaaGreat.Ho
namespace Go.Proofs.YthoaidfpgijbfaaGreat.Ho
open Go.RowKit
open Go.Proofs.YthoaidfpgijbfaaGreat.Vb Go.Proofs.YthoaidfpgijbfaaGreat.Ac
theorem RowAt.self {W : World} {R : Nat → Prop} {e : TypeId} {sz n : Nat} {v : Value} {xs : List Value} (h : RowAt W R e sz v n xs) : RowAt W (fun b => v.ownBlock = some b) e sz v n xs := ⟨h.own, fun _ hb => hb⟩
def FreshS (W : World) (lo : Nat) (v : Value) (ss : List Stand) : Prop :=
  ∃ vo, RowAt W (fun b => lo ≤ b) 103 3 v ss.length (standCells ss vo) ∧ ∀ k s, ss[k]? = some s → Offs W (fun b => lo ≤ b ∧ ¬ v.ownBlock = some b) (vo k) s.offers
theorem FreshS.nil (W : World) (lo : Nat) : FreshS W lo (.slice none 0 0) [] := ⟨fun _ => .nilFunc, RowAt.nil, fun k s h => by simp at h⟩
set_option maxRecDepth 100000 in
set_option maxHeartbeats 8000000 in
theorem copied_any {W : World} {T : Nat → Part} {j b : Nat} {l : LotS} (hL : LotAt W T j b l) (hn : l.stands.length ≤ 1000000) (ho : ∀ s ∈ l.stands, s.offers.length ≤ 1099511627776) :
    Calls Tryz.prog 56 #[.pointer (some ⟨b, 0, none⟩)] W fun e W' => ∃ A c, e = .returned (.slice A l.stands.length c) ∧ FreshS W' W.heap.size (.slice A l.stands.length c) l.stands ∧ Below W.heap.size W W' := by
  obtain ⟨v, htb, hblk, hst⟩ := hL
  obtain ⟨sA, sc, hsv⟩ := hst.form
  subst hsv
  obtain ⟨n, hnn⟩ : ∃ z, z = l.stands.length := ⟨_, rfl⟩
  rw [← hnn] at hst hblk hn ⊢
  have l14 : W.cell? ⟨b, 14, none⟩ = some (.slice sA n sc) := hblk.cell 14
  have lb := hblk.lt
  have HTB := Lib.hid htb
  have HBLK := Lib.hid hblk
  have HST := Lib.hid hst
  have HO := Lib.hid ho
  have HNN := Lib.hid hnn
  clear htb hblk hst ho hnn
  go_enter Tryz.func56, Tryz.ntmps56
  go_wp2_with fail
  have e4 : (0 : Int) ≤ (n : Int) := by omega
  go_loopw [3, 11] (fun t i wr => ∃ (k : Nat) (A' : Option Addr) (c' : Nat), k ≤ n ∧ i = .int .i64 k ∧ t = .slice A' k c' ∧ FreshS wr W.heap.size (.slice A' k c') (l.stands.take k) ∧ Below W.heap.size W wr) (fun _ i _ => n - (intOf i).toNat)
  case atStart => exact ⟨0, none, 0, Nat.zero_le _, rfl, rfl, FreshS.nil _ _, Below.refl _ _⟩
  case round =>
    obtain ⟨k, A', c', hk, rfl, rfl, hfr, hb⟩ := hrel
    by_cases hlt : k < n
    · obtain ⟨s, hs⟩ : ∃ s, l.stands[k]? = some s := ⟨_, List.getElem?_eq_getElem (by rw [← HNN.out]; exact hlt)⟩
      obtain ⟨sq, scap, uA, uc, hsv, _, hsq, d0, d1, d2, hof⟩ := StandsAt.at_ (HST.out.step (T' := T) (Chg.of (fun _ => False) hb) (fun _ _ => id) fun _ _ => rfl) hs
      injection hsv with hv1 hv2 hv3
      subst hv1 hv3
      clear hv2
      have hol := HO.out s (List.mem_of_getElem? hs)
      have HTL := Lib.hid (show (l.stands.take k).length = k by rw [List.length_take, ← HNN.out]; omega)
      obtain ⟨vo, hrow0, hoff0⟩ := hfr
      rw [HTL.out] at hrow0
      obtain ⟨sb, hsb⟩ : ∃ z, z = s.bidder := ⟨_, rfl⟩
      obtain ⟨sh, hsh⟩ : ∃ z, z = s.held := ⟨_, rfl⟩
      obtain ⟨un, hun⟩ : ∃ z, z = s.offers.length := ⟨_, rfl⟩
      rw [← hsb] at d0
      rw [← hun] at d1 hof
      rw [← hsh] at d2
      obtain ⟨w1, hw1⟩ : ∃ w1, w1 = wr.alloc (.cells #[.int .i64 sb, .slice uA un uc, .int .i64 sh] 103) := ⟨_, rfl⟩
      have hb1 : Below wr.heap.size wr w1 := by rw [hw1]; exact (Below.refl _ _).alloc (Nat.le_refl _) _
      have hx1 : Ac.Blk w1 wr.heap.size 103 #[.int .i64 sb, .slice uA un uc, .int .i64 sh] := by rw [hw1]; exact Blk.new _ _ _
      have hsz1 := hx1.lt
      have HX1 := Lib.hid hx1
      have HB0 := Lib.hid hb
      have HB1 := Lib.hid hb1
      have HCL := Lib.hid (clone_offs (Offs.grow (hun ▸ hof) hb1) hol)
      have HROW0 := Lib.hid hrow0
      have HOFF0 := Lib.hid hoff0
      have HUN := Lib.hid hun
      have HSK := Lib.hid (show l.stands.take (k + 1) = l.stands.take k ++ [s] from take_succ' hs)
      have HSB := Lib.hid hsb
      have HSH := Lib.hid hsh
      have e5 : (0 : Int) ≤ (k : Int) := by omega
      have e6 : (k : Int) < (n : Int) := by omega
      have hwr : IntKind.i64.wrap ((k : Int) + 1) = (k : Int) + 1 := IntWalk.i64_in _ (by omega)
      rw [← hun] at HCL
      clear hb hs hsb hsh hun hof hb1 hx1 hol hrow0 hoff0
      go_wp2_with fail
      rw [← hw1]
      clear hw1
      refine HCL.out.mono ?_
      rintro e w2 ⟨A2, c2, rfl, ho2, hb2⟩
      have hx2 := HX1.out.grow hb2
      have f1 := hx2.frozen 1
      have y0 := hx2.cell 0
      have y1 := hx2.cell 1
      have y2 := hx2.cell 2
      have hb12 : Below wr.heap.size wr w2 := HB1.out.trans (hb2.mono HB1.out.size)
      have hbW2 : Below W.heap.size W w2 := HB0.out.trans (hb12.mono HB0.out.size)
      have hsz2 := hb2.size
      obtain ⟨w3, hw3⟩ : ∃ w3, w3 = w2.setCell ⟨wr.heap.size, 1, none⟩ (.slice A2 un c2) := ⟨_, rfl⟩
      have hs3 : w3.heap.size = w2.heap.size := by rw [hw3]; simp [World.setCell]
      have hc3 : Chg (· = wr.heap.size) w2 w3 := by rw [hw3]; exact Chg.set w2 ⟨wr.heap.size, 1, none⟩ _
      have HX3 := Lib.hid (show Ac.Blk w3 wr.heap.size 103 #[.int .i64 sb, .slice A2 un c2, .int .i64 sh] by rw [hw3]; exact hx2.set_ 1 _)
      have HB3 := Lib.hid (show Below W.heap.size W w3 from hbW2.trans (hc3.below hbW2.size fun x hx e => by have := HB0.out.size; omega))
      have HROW3 := Lib.hid ((HROW0.out.grow hb12).chgB hc3 (fun b hb e => by have := HROW0.out.lt hb; omega))
      have HOFF3 := Lib.hid (show ∀ i s, (l.stands.take k)[i]? = some s → Offs w3 (fun b => W.heap.size ≤ b ∧ b < wr.heap.size ∧ ¬ (Value.slice A' k c').ownBlock = some b) (vo i) s.offers from fun i s hi => Offs.chg (Offs.grow (Offs.mono (HOFF0.out i s hi) (fun b hb hr => ⟨hr.1, hb, hr.2⟩)) hb12) hc3 (fun b _ hr e => by omega))
      have HON := Lib.hid (show Offs w3 (fun b => w1.heap.size ≤ b) (.slice A2 un c2) s.offers from Offs.chg ho2 hc3 (fun b _ hr e => by omega))
      have HS3 := Lib.hid hs3
      have HS2 := Lib.hid hsz2
      clear ho2 hb2 hx2 hb12 hbW2 hc3 hs3
      subst hw3
      go_wp2_with (at_builtin; go_must (refine wpList_row _ (.tmp 19) (.tmp 21) rfl et_stand rfl (.slice A' k c') k (standCells (l.stands.take k) vo) rfl (RowAt.self (HROW3.out.grow ((Below.refl _ _).alloc (Nat.le_refl _) _))) (.slice (some ⟨w2.heap.size, 0, none⟩) 1 1) 1 [.int .i64 sb, .slice A2 un c2, .int .i64 sh] rfl (Sl.lit1 (Blk.new' 103 #[.int .i64 sb, .slice A2 un c2, .int .i64 sh] (by simp [World.setCell])) rfl) (by simp [Value.oneCell']) (by omega) (by unfold maxLen; omega) ?_); intro A3 c3 Z hrZ hcZ; have HRZ := Lib.hid hrZ; have HCZ := Lib.hid hcZ; clear hrZ hcZ)
      go_roundw
      case rel =>
        obtain ⟨w3, hw3⟩ : ∃ w3, w3 = w2.setCell ⟨wr.heap.size, 1, none⟩ (.slice A2 un c2) := ⟨_, rfl⟩
        rw [← hw3] at HRZ HCZ HS3 HON HOFF3 HROW3 HB3 HX3
        have hcz := HCZ.out
        have hsz3 := HB0.out.size
        have hown3 : ∀ b, (Value.slice A' k c').ownBlock = some b → b < wr.heap.size := fun b hb => HROW0.out.lt hb
        obtain ⟨w4, hw4⟩ : ∃ w4, w4 = w3.alloc (.cells #[.int .i64 sb, .slice A2 un c2, .int .i64 sh] 103) := ⟨_, rfl⟩
        have hs4 : w4.heap.size = w3.heap.size + 1 := by rw [hw4]; simp
        have hb4 : Below w3.heap.size w3 w4 := by rw [hw4]; exact (Below.refl _ _).alloc (Nat.le_refl _) _
        rw [← hw4] at HRZ HCZ hcz
        have hzown : ∀ b, (Value.slice A3 (k + 1) c3).ownBlock = some b → b < wr.heap.size ∨ b = w4.heap.size := fun b hb => (HRZ.out.blk b hb).elim (fun e => .inl (hown3 b e)) .inr
        have hzown2 : ∀ b, (Value.slice A3 (k + 1) c3).ownBlock = some b → (Value.slice A' k c').ownBlock = some b ∨ b = w4.heap.size := fun b hb => HRZ.out.blk b hb
        have hs32 := HS3.out
        have hs22 := HS2.out
        refine ⟨k + 1, A3, c3, by omega, by go_num, rfl, ⟨fun i => if i = k then .slice A2 un c2 else vo i, ?_, fun i s' hi => ?_⟩, ?_⟩
        · rw [HSK.out]
          have := standCells_snoc (l.stands.take k) s vo (.slice A2 un c2)
          rw [HTL.out] at this
          rw [this, List.length_append, List.length_singleton, HTL.out]
          have hcs : s.cells (.slice A2 un c2) = [.int .i64 sb, .slice A2 un c2, .int .i64 sh] := by rw [HSB.out, HSH.out]; rfl
          rw [hcs]
          exact HRZ.out.mono fun b _ hb => hb.elim (fun e => HROW0.out.blk b e) (fun e => by omega)
        · rw [HSK.out] at hi
          by_cases hik : i = k
          · subst hik
            have hil : ((l.stands.take i) ++ [s])[i]? = some s := by rw [List.getElem?_append_right (by rw [HTL.out]; omega), HTL.out]; simp
            rw [hil] at hi
            cases hi
            simp only [if_true]
            refine Offs.mono (Offs.chg (Offs.grow (Offs.mono HON.out (R' := fun b => w1.heap.size ≤ b ∧ b < w3.heap.size) fun b hb hr => ⟨hr, hb⟩) hb4) hcz fun b _ hr e => ?_) fun b _ hr => ⟨by omega, fun e => ?_⟩
            · have := hown3 b e; omega
            · rcases hzown b e with h1 | h1 <;> omega
          · have hil : (l.stands.take k)[i]? = some s' := by
              have hlt2 : i < k := by
                have := (List.getElem?_eq_some_iff.1 hi).1
                rw [List.length_append, HTL.out] at this
                simp at this
                omega
              rwa [List.getElem?_append_left (by rw [HTL.out]; exact hlt2)] at hi
            simp only
            rw [if_neg hik]
            refine Offs.mono (Offs.chg (Offs.grow (HOFF3.out i s' hil) hb4) hcz fun b _ hr e => hr.2.2 e) fun b _ hr => ⟨hr.1, fun e => ?_⟩
            rcases hzown2 b e with h1 | h1
            · exact hr.2.2 h1
            · omega
        · exact (HB3.out.trans (hb4.mono HB3.out.size)).trans (hcz.below (by have := HB3.out.size; omega) fun b hb e => by have := HROW0.out.blk b e; omega)
      case measure => simp [intOf]; omega
    · obtain rfl : k = n := by omega
      have hall : l.stands.take k = l.stands := List.take_of_length_le (by have := HNN.out; omega)
      rw [hall] at hfr
      have HFR := Lib.hid hfr
      have HB := Lib.hid hb
      clear hfr hb hall hlt hk e4
      go_wp2_with fail
      go_ret
      exact ⟨A', c', rfl, HFR.out, HB.out⟩
theorem hstands_err {W : World} {T : Nat → Part} {h K : Nat} {H : House} (hH : HouseIn W T h K H) {x : Int} (hx : x < 0 ∨ (H.lots.length : Int) ≤ x) :
    Calls Tryz.prog 40 #[.pointer (some ⟨h, 0, none⟩), .int .i64 x] W fun e W' => e = .returned (.tuple #[.slice none 0 0, .int .i64 4]) ∧ W' = W := by
  have HL := Lib.hid (hlot_err hH hx)
  clear hH hx
  go_enter Tryz.func40, Tryz.ntmps40
  go_wp2_with fail
  refine HL.out.mono ?_
  rintro e W2 ⟨rfl, rfl⟩
  go_wp2_with fail
  go_ret2
  exact ⟨rfl, rfl⟩
theorem hstands_ok {W : World} {T : Nat → Part} {h K : Nat} {H : House} (hH : HouseIn W T h K H) {i : Nat} {l : LotS} (hi : H.lots[i]? = some l) (hn : l.stands.length ≤ 1000000) (ho : ∀ s ∈ l.stands, s.offers.length ≤ 1099511627776) :
    Calls Tryz.prog 40 #[.pointer (some ⟨h, 0, none⟩), .int .i64 i] W fun e W' => ∃ A c, e = .returned (.tuple #[.slice A l.stands.length c, .int .i64 0]) ∧ FreshS W' W.heap.size (.slice A l.stands.length c) l.stands ∧ Below W.heap.size W W' := by
  have HL := Lib.hid (hlot_ok hH hi)
  have HN := Lib.hid hn
  have HO := Lib.hid ho
  clear hH hi hn ho
  go_enter Tryz.func40, Tryz.ntmps40
  go_wp2_with fail
  refine HL.out.mono ?_
  rintro e W2 ⟨⟨b, rfl, hat⟩, rfl⟩
  have HC := Lib.hid (copied_any hat HN.out HO.out)
  clear hat
  go_wp2_with fail
  refine HC.out.mono ?_
  rintro e W3 ⟨A, c, rfl, hfr, hb⟩
  have HF := Lib.hid hfr
  clear hfr
  go_wp2_with fail
  go_ret2
  exact ⟨A, c, rfl, HF.out, hb⟩
end Go.Proofs.YthoaidfpgijbfaaGreat.Ho
namespace Go.Proofs.YthoaidfpgijbfaaGreat.Ho
open Go.RowKit
open Go.Proofs.YthoaidfpgijbfaaGreat.Vb Go.Proofs.YthoaidfpgijbfaaGreat.Ac
theorem same_nil (A B : Option Addr) (c d : Nat) (W : World) : Calls Tryz.prog 51 #[.slice A 0 c, .slice B 0 d] W fun e W' => e = .returned (.bool true) ∧ Below W.heap.size W W' := by
  go_enter Tryz.func51, Tryz.ntmps51
  go_wp2_with fail
  go_loopw [5] (fun i wr => i = .int .i64 0 ∧ wr = W) (fun _ _ => 0)
  case atStart => exact ⟨rfl, rfl⟩
  case round =>
    obtain ⟨rfl, rfl⟩ := hrel
    go_wp2_with fail
    try rw [Exit.noGoto_ret]
    go_ret
    exact ⟨rfl, Below.refl _ _⟩
abbrev Tells (W : World) (F : FuncId) (args : Array Value) (v : Value) : Prop := ∀ V, Below W.heap.size W V → Calls Tryz.prog F args V fun e W' => e = .returned v ∧ Below V.heap.size V W'
set_option maxRecDepth 100000 in
set_option maxHeartbeats 8000000 in
theorem one_4 {W : World} {h r : Nat} {x0 x1 x2 x3 x4 x5 x6 x7 x8 x9 x10 x11 y0 y1 y2 : Int} {bb : Bool}
    (hB : Tells W 22 #[.pointer (some ⟨h, 0, none⟩), .int .i64 0] (.tuple #[bidderV { data := #[] } 0 0 0, .int .i64 4]))
    (hB2 : Tells W 48 #[.pointer (some ⟨r, 0, none⟩), .int .i64 0] (.tuple #[bidderV { data := #[] } 0 0 0, .int .i64 4]))
    (hL : Tells W 49 #[.pointer (some ⟨h, 0, none⟩), .int .i64 0] (.tuple #[.agg #[.int .i64 x0, .int .i64 x1, .int .i64 x2, .int .i64 x3, .int .i64 x4, .int .i64 x5, .int .i64 x6, .int .i64 x7, .int .i64 x8, .int .i64 x9, .int .i64 x10, .int .i64 x11, .bool bb, .int .i64 y0, .int .i64 y1, .int .i64 y2], .int .i64 4]))
    (hL2 : Tells W 50 #[.pointer (some ⟨r, 0, none⟩), .int .i64 0] (.tuple #[.agg #[.int .i64 x0, .int .i64 x1, .int .i64 x2, .int .i64 x3, .int .i64 x4, .int .i64 x5, .int .i64 x6, .int .i64 x7, .int .i64 x8, .int .i64 x9, .int .i64 x10, .int .i64 x11, .bool bb, .int .i64 y0, .int .i64 y1, .int .i64 y2], .int .i64 4]))
    (hS : ∀ V, Below W.heap.size W V → Calls Tryz.prog 40 #[.pointer (some ⟨h, 0, none⟩), .int .i64 0] V fun e W' => ∃ A c, e = .returned (.tuple #[.slice A 0 c, .int .i64 4]) ∧ Below V.heap.size V W') :
    Calls Tryz.prog 17 #[.pointer (some ⟨h, 0, none⟩), .pointer (some ⟨r, 0, none⟩), .int .i64 0] W fun e W' => e = .returned (.bool true) ∧ Below W.heap.size W W' := by
  have hBH := Lib.hid hB
  have hB2H := Lib.hid hB2
  have hLH := Lib.hid hL
  have hL2H := Lib.hid hL2
  have hSH := Lib.hid hS
  clear hB hB2 hL hL2 hS
  have HB0 := Lib.hid (Below.refl W.heap.size W)
  go_enter Tryz.func17, Tryz.ntmps17
  go_wp2_with fail
  refine (hBH.out _ HB0.out).mono ?_
  rintro e W1 ⟨rfl, hb⟩
  have HC1 := Lib.hid (HB0.out.trans (hb.mono HB0.out.size))
  clear hb
  go_wp2_with (refine wpList_store_row rfl 62 (.tmp 7) (.tmp 28) rfl W1.heap.size #[.string { data := #[] }, .int .i64 0, .int .i64 0, .int .i64 0] rfl rfl 62 _ (Blk.new W1 _ _) (by kernel_rfl) rfl (by kernel_rfl) ?_)
  generalize hV : World.setRow _ _ _ = V1
  have hb : Below W1.heap.size W1 V1 := by rw [← hV]; exact below_setRow ((Below.refl _ _).alloc (Nat.le_refl _) _) (Nat.le_refl _) _
  have HB1 := Lib.hid (HC1.out.trans (hb.mono HC1.out.size))
  have HX1 := Lib.hid (show Ac.Blk V1 W1.heap.size 62 #[.string { data := #[] }, .int .i64 0, .int .i64 0, .int .i64 0] by rw [← hV]; exact Blk.setRow (Blk.new W1 _ _) _)
  clear hV hb
  refine (hB2H.out _ HB1.out).mono ?_
  rintro e W2 ⟨rfl, hb⟩
  have HC2 := Lib.hid (HB1.out.trans (hb.mono HB1.out.size))
  replace HX1 := Lib.hid (HX1.out.grow hb)
  clear hb
  go_wp2_with (refine wpList_store_row rfl 62 (.tmp 9) (.tmp 34) rfl W2.heap.size #[.string { data := #[] }, .int .i64 0, .int .i64 0, .int .i64 0] rfl rfl 62 _ (Blk.new W2 _ _) (by kernel_rfl) rfl (by kernel_rfl) ?_)
  generalize hV : World.setRow _ _ _ = V2
  have hb : Below W2.heap.size W2 V2 := by rw [← hV]; exact below_setRow ((Below.refl _ _).alloc (Nat.le_refl _) _) (Nat.le_refl _) _
  have HB2 := Lib.hid (HC2.out.trans (hb.mono HC2.out.size))
  have HX2 := Lib.hid (show Ac.Blk V2 W2.heap.size 62 #[.string { data := #[] }, .int .i64 0, .int .i64 0, .int .i64 0] by rw [← hV]; exact Blk.setRow (Blk.new W2 _ _) _)
  replace HX1 := Lib.hid (HX1.out.grow hb)
  clear hV hb
  refine (hLH.out _ HB2.out).mono ?_
  rintro e W3 ⟨rfl, hb⟩
  have HC3 := Lib.hid (HB2.out.trans (hb.mono HB2.out.size))
  replace HX1 := Lib.hid (HX1.out.grow hb)
  replace HX2 := Lib.hid (HX2.out.grow hb)
  clear hb
  go_wp2_with (refine wpList_store_row rfl 119 (.tmp 11) (.tmp 40) rfl W3.heap.size #[.int .i64 x0, .int .i64 x1, .int .i64 x2, .int .i64 x3, .int .i64 x4, .int .i64 x5, .int .i64 x6, .int .i64 x7, .int .i64 x8, .int .i64 x9, .int .i64 x10, .int .i64 x11, .bool bb, .int .i64 y0, .int .i64 y1, .int .i64 y2] rfl rfl 119 _ (Blk.new W3 _ _) (by kernel_rfl) rfl (by kernel_rfl) ?_)
  generalize hV : World.setRow _ _ _ = V3
  have hb : Below W3.heap.size W3 V3 := by rw [← hV]; exact below_setRow ((Below.refl _ _).alloc (Nat.le_refl _) _) (Nat.le_refl _) _
  have HB3 := Lib.hid (HC3.out.trans (hb.mono HC3.out.size))
  have HX3 := Lib.hid (show Ac.Blk V3 W3.heap.size 119 #[.int .i64 x0, .int .i64 x1, .int .i64 x2, .int .i64 x3, .int .i64 x4, .int .i64 x5, .int .i64 x6, .int .i64 x7, .int .i64 x8, .int .i64 x9, .int .i64 x10, .int .i64 x11, .bool bb, .int .i64 y0, .int .i64 y1, .int .i64 y2] by rw [← hV]; exact Blk.setRow (Blk.new W3 _ _) _)
  replace HX1 := Lib.hid (HX1.out.grow hb)
  replace HX2 := Lib.hid (HX2.out.grow hb)
  clear hV hb
  refine (hL2H.out _ HB3.out).mono ?_
  rintro e W4 ⟨rfl, hb⟩
  have HC4 := Lib.hid (HB3.out.trans (hb.mono HB3.out.size))
  replace HX1 := Lib.hid (HX1.out.grow hb)
  replace HX2 := Lib.hid (HX2.out.grow hb)
  replace HX3 := Lib.hid (HX3.out.grow hb)
  clear hb
  go_wp2_with (refine wpList_store_row rfl 119 (.tmp 13) (.tmp 46) rfl W4.heap.size #[.int .i64 x0, .int .i64 x1, .int .i64 x2, .int .i64 x3, .int .i64 x4, .int .i64 x5, .int .i64 x6, .int .i64 x7, .int .i64 x8, .int .i64 x9, .int .i64 x10, .int .i64 x11, .bool bb, .int .i64 y0, .int .i64 y1, .int .i64 y2] rfl rfl 119 _ (Blk.new W4 _ _) (by kernel_rfl) rfl (by kernel_rfl) ?_)
  generalize hV : World.setRow _ _ _ = V4
  have hb : Below W4.heap.size W4 V4 := by rw [← hV]; exact below_setRow ((Below.refl _ _).alloc (Nat.le_refl _) _) (Nat.le_refl _) _
  have HB4 := Lib.hid (HC4.out.trans (hb.mono HC4.out.size))
  have HX4 := Lib.hid (show Ac.Blk V4 W4.heap.size 119 #[.int .i64 x0, .int .i64 x1, .int .i64 x2, .int .i64 x3, .int .i64 x4, .int .i64 x5, .int .i64 x6, .int .i64 x7, .int .i64 x8, .int .i64 x9, .int .i64 x10, .int .i64 x11, .bool bb, .int .i64 y0, .int .i64 y1, .int .i64 y2] by rw [← hV]; exact Blk.setRow (Blk.new W4 _ _) _)
  replace HX1 := Lib.hid (HX1.out.grow hb)
  replace HX2 := Lib.hid (HX2.out.grow hb)
  replace HX3 := Lib.hid (HX3.out.grow hb)
  clear hV hb
  refine (hSH.out _ HB4.out).mono ?_
  rintro e W5 ⟨A5, c5, rfl, hb⟩
  have HB5 := Lib.hid (HB4.out.trans (hb.mono HB4.out.size))
  replace HX1 := Lib.hid (HX1.out.grow hb)
  replace HX2 := Lib.hid (HX2.out.grow hb)
  replace HX3 := Lib.hid (HX3.out.grow hb)
  replace HX4 := Lib.hid (HX4.out.grow hb)
  clear hb
  go_wp2_with fail
  refine (hSH.out _ HB5.out).mono ?_
  rintro e W6 ⟨A6, c6, rfl, hb⟩
  have HB6 := Lib.hid (HB5.out.trans (hb.mono HB5.out.size))
  replace HX1 := Lib.hid (HX1.out.grow hb)
  replace HX2 := Lib.hid (HX2.out.grow hb)
  replace HX3 := Lib.hid (HX3.out.grow hb)
  replace HX4 := Lib.hid (HX4.out.grow hb)
  clear hb
  have z3_0 := HX3.out.cell 0
  have z3_1 := HX3.out.cell 1
  have z3_2 := HX3.out.cell 2
  have z3_3 := HX3.out.cell 3
  have z3_4 := HX3.out.cell 4
  have z3_5 := HX3.out.cell 5
  have z3_6 := HX3.out.cell 6
  have z3_7 := HX3.out.cell 7
  have z3_8 := HX3.out.cell 8
  have z3_9 := HX3.out.cell 9
  have z3_10 := HX3.out.cell 10
  have z3_11 := HX3.out.cell 11
  have z3_12 := HX3.out.cell 12
  have z3_13 := HX3.out.cell 13
  have z3_14 := HX3.out.cell 14
  have z3_15 := HX3.out.cell 15
  have z4_0 := HX4.out.cell 0
  have z4_1 := HX4.out.cell 1
  have z4_2 := HX4.out.cell 2
  have z4_3 := HX4.out.cell 3
  have z4_4 := HX4.out.cell 4
  have z4_5 := HX4.out.cell 5
  have z4_6 := HX4.out.cell 6
  have z4_7 := HX4.out.cell 7
  have z4_8 := HX4.out.cell 8
  have z4_9 := HX4.out.cell 9
  have z4_10 := HX4.out.cell 10
  have z4_11 := HX4.out.cell 11
  have z4_12 := HX4.out.cell 12
  have z4_13 := HX4.out.cell 13
  have z4_14 := HX4.out.cell 14
  have z4_15 := HX4.out.cell 15
  go_wp2_with (first
    | (refine wpList_load_row rfl 62 (.tmp 7) rfl W1.heap.size rfl 62 #[.string { data := #[] }, .int .i64 0, .int .i64 0, .int .i64 0] (0, 0) _ HX1.out Tryz.underlying62 rfl (by kernel_rfl) ?_)
    | (refine wpList_load_row rfl 62 (.tmp 9) rfl W2.heap.size rfl 62 #[.string { data := #[] }, .int .i64 0, .int .i64 0, .int .i64 0] (0, 0) _ HX2.out Tryz.underlying62 rfl (by kernel_rfl) ?_)
    | (refine wpList_load_row rfl 119 (.tmp 11) rfl W3.heap.size rfl 119 #[.int .i64 x0, .int .i64 x1, .int .i64 x2, .int .i64 x3, .int .i64 x4, .int .i64 x5, .int .i64 x6, .int .i64 x7, .int .i64 x8, .int .i64 x9, .int .i64 x10, .int .i64 x11, .bool bb, .int .i64 y0, .int .i64 y1, .int .i64 y2] (0, 0) _ HX3.out Tryz.underlying119 rfl (by kernel_rfl) ?_)
    | (refine wpList_load_row rfl 119 (.tmp 13) rfl W4.heap.size rfl 119 #[.int .i64 x0, .int .i64 x1, .int .i64 x2, .int .i64 x3, .int .i64 x4, .int .i64 x5, .int .i64 x6, .int .i64 x7, .int .i64 x8, .int .i64 x9, .int .i64 x10, .int .i64 x11, .bool bb, .int .i64 y0, .int .i64 y1, .int .i64 y2] (0, 0) _ HX4.out Tryz.underlying119 rfl (by kernel_rfl) ?_))
  clear z3_0 z3_1 z3_2 z3_3 z3_4 z3_5 z3_6 z3_7 z3_8 z3_9 z3_10 z3_11 z3_12 z3_13 z3_14 z3_15 z4_0 z4_1 z4_2 z4_3 z4_4 z4_5 z4_6 z4_7 z4_8 z4_9 z4_10 z4_11 z4_12 z4_13 z4_14 z4_15
  refine (same_nil A5 none c5 0 W6).mono ?_
  rintro e W7 ⟨rfl, hb⟩
  have HB7 := Lib.hid (HB6.out.trans (hb.mono HB6.out.size))
  clear hb
  go_wp2_with fail
  go_loopw [22] (fun i wr => i = .int .i64 0 ∧ wr = W7) (fun _ _ => 0)
  case atStart => exact ⟨rfl, rfl⟩
  case round =>
    obtain ⟨rfl, rfl⟩ := hrel
    go_wp2_with fail
    refine (same_nil A6 none c6 0 _).mono ?_
    rintro e W8 ⟨rfl, hb⟩
    have HB8 := Lib.hid (HB7.out.trans (hb.mono HB7.out.size))
    clear hb
    go_wp2_with fail
    try rw [Exit.noGoto_ret]
    go_ret
    exact ⟨rfl, HB8.out⟩
set_option maxRecDepth 100000 in
set_option maxHeartbeats 8000000 in
theorem one_0 {W : World} {h r : Nat} {x0 x1 x2 x3 x4 x5 x6 x7 x8 x9 x10 x11 y0 y1 y2 : Int} {bb : Bool} {q off nl cl sc : Nat} {sA : Option Addr} (hnl : 0 < nl) (h3 : W.cell? ⟨r, 3, none⟩ = some (.slice (some ⟨q, off, none⟩) nl cl)) (h13 : W.cell? ⟨q, off + 13, none⟩ = some (.slice sA 0 sc))
    (hB : Tells W 22 #[.pointer (some ⟨h, 0, none⟩), .int .i64 0] (.tuple #[bidderV { data := #[] } 0 0 0, .int .i64 4]))
    (hB2 : Tells W 48 #[.pointer (some ⟨r, 0, none⟩), .int .i64 0] (.tuple #[bidderV { data := #[] } 0 0 0, .int .i64 4]))
    (hL : Tells W 49 #[.pointer (some ⟨h, 0, none⟩), .int .i64 0] (.tuple #[.agg #[.int .i64 x0, .int .i64 x1, .int .i64 x2, .int .i64 x3, .int .i64 x4, .int .i64 x5, .int .i64 x6, .int .i64 x7, .int .i64 x8, .int .i64 x9, .int .i64 x10, .int .i64 x11, .bool bb, .int .i64 y0, .int .i64 y1, .int .i64 y2], .int .i64 0]))
    (hL2 : Tells W 50 #[.pointer (some ⟨r, 0, none⟩), .int .i64 0] (.tuple #[.agg #[.int .i64 x0, .int .i64 x1, .int .i64 x2, .int .i64 x3, .int .i64 x4, .int .i64 x5, .int .i64 x6, .int .i64 x7, .int .i64 x8, .int .i64 x9, .int .i64 x10, .int .i64 x11, .bool bb, .int .i64 y0, .int .i64 y1, .int .i64 y2], .int .i64 0]))
    (hS : ∀ V, Below W.heap.size W V → Calls Tryz.prog 40 #[.pointer (some ⟨h, 0, none⟩), .int .i64 0] V fun e W' => ∃ A c, e = .returned (.tuple #[.slice A 0 c, .int .i64 0]) ∧ Below V.heap.size V W') :
    Calls Tryz.prog 17 #[.pointer (some ⟨h, 0, none⟩), .pointer (some ⟨r, 0, none⟩), .int .i64 0] W fun e W' => e = .returned (.bool true) ∧ Below W.heap.size W W' := by
  have hBH := Lib.hid hB
  have hB2H := Lib.hid hB2
  have hLH := Lib.hid hL
  have hL2H := Lib.hid hL2
  have hSH := Lib.hid hS
  have h3l := block_lt_of_cell h3
  have h13l := block_lt_of_cell h13
  have H3 := Lib.hid h3
  have H13 := Lib.hid h13
  clear h3 h13
  clear hB hB2 hL hL2 hS
  have HB0 := Lib.hid (Below.refl W.heap.size W)
  go_enter Tryz.func17, Tryz.ntmps17
  go_wp2_with fail
  refine (hBH.out _ HB0.out).mono ?_
  rintro e W1 ⟨rfl, hb⟩
  have HC1 := Lib.hid (HB0.out.trans (hb.mono HB0.out.size))
  clear hb
  go_wp2_with (refine wpList_store_row rfl 62 (.tmp 7) (.tmp 28) rfl W1.heap.size #[.string { data := #[] }, .int .i64 0, .int .i64 0, .int .i64 0] rfl rfl 62 _ (Blk.new W1 _ _) (by kernel_rfl) rfl (by kernel_rfl) ?_)
  generalize hV : World.setRow _ _ _ = V1
  have hb : Below W1.heap.size W1 V1 := by rw [← hV]; exact below_setRow ((Below.refl _ _).alloc (Nat.le_refl _) _) (Nat.le_refl _) _
  have HB1 := Lib.hid (HC1.out.trans (hb.mono HC1.out.size))
  have HX1 := Lib.hid (show Ac.Blk V1 W1.heap.size 62 #[.string { data := #[] }, .int .i64 0, .int .i64 0, .int .i64 0] by rw [← hV]; exact Blk.setRow (Blk.new W1 _ _) _)
  clear hV hb
  refine (hB2H.out _ HB1.out).mono ?_
  rintro e W2 ⟨rfl, hb⟩
  have HC2 := Lib.hid (HB1.out.trans (hb.mono HB1.out.size))
  replace HX1 := Lib.hid (HX1.out.grow hb)
  clear hb
  go_wp2_with (refine wpList_store_row rfl 62 (.tmp 9) (.tmp 34) rfl W2.heap.size #[.string { data := #[] }, .int .i64 0, .int .i64 0, .int .i64 0] rfl rfl 62 _ (Blk.new W2 _ _) (by kernel_rfl) rfl (by kernel_rfl) ?_)
  generalize hV : World.setRow _ _ _ = V2
  have hb : Below W2.heap.size W2 V2 := by rw [← hV]; exact below_setRow ((Below.refl _ _).alloc (Nat.le_refl _) _) (Nat.le_refl _) _
  have HB2 := Lib.hid (HC2.out.trans (hb.mono HC2.out.size))
  have HX2 := Lib.hid (show Ac.Blk V2 W2.heap.size 62 #[.string { data := #[] }, .int .i64 0, .int .i64 0, .int .i64 0] by rw [← hV]; exact Blk.setRow (Blk.new W2 _ _) _)
  replace HX1 := Lib.hid (HX1.out.grow hb)
  clear hV hb
  refine (hLH.out _ HB2.out).mono ?_
  rintro e W3 ⟨rfl, hb⟩
  have HC3 := Lib.hid (HB2.out.trans (hb.mono HB2.out.size))
  replace HX1 := Lib.hid (HX1.out.grow hb)
  replace HX2 := Lib.hid (HX2.out.grow hb)
  clear hb
  go_wp2_with (refine wpList_store_row rfl 119 (.tmp 11) (.tmp 40) rfl W3.heap.size #[.int .i64 x0, .int .i64 x1, .int .i64 x2, .int .i64 x3, .int .i64 x4, .int .i64 x5, .int .i64 x6, .int .i64 x7, .int .i64 x8, .int .i64 x9, .int .i64 x10, .int .i64 x11, .bool bb, .int .i64 y0, .int .i64 y1, .int .i64 y2] rfl rfl 119 _ (Blk.new W3 _ _) (by kernel_rfl) rfl (by kernel_rfl) ?_)
  generalize hV : World.setRow _ _ _ = V3
  have hb : Below W3.heap.size W3 V3 := by rw [← hV]; exact below_setRow ((Below.refl _ _).alloc (Nat.le_refl _) _) (Nat.le_refl _) _
  have HB3 := Lib.hid (HC3.out.trans (hb.mono HC3.out.size))
  have HX3 := Lib.hid (show Ac.Blk V3 W3.heap.size 119 #[.int .i64 x0, .int .i64 x1, .int .i64 x2, .int .i64 x3, .int .i64 x4, .int .i64 x5, .int .i64 x6, .int .i64 x7, .int .i64 x8, .int .i64 x9, .int .i64 x10, .int .i64 x11, .bool bb, .int .i64 y0, .int .i64 y1, .int .i64 y2] by rw [← hV]; exact Blk.setRow (Blk.new W3 _ _) _)
  replace HX1 := Lib.hid (HX1.out.grow hb)
  replace HX2 := Lib.hid (HX2.out.grow hb)
  clear hV hb
  refine (hL2H.out _ HB3.out).mono ?_
  rintro e W4 ⟨rfl, hb⟩
  have HC4 := Lib.hid (HB3.out.trans (hb.mono HB3.out.size))
  replace HX1 := Lib.hid (HX1.out.grow hb)
  replace HX2 := Lib.hid (HX2.out.grow hb)
  replace HX3 := Lib.hid (HX3.out.grow hb)
  clear hb
  go_wp2_with (refine wpList_store_row rfl 119 (.tmp 13) (.tmp 46) rfl W4.heap.size #[.int .i64 x0, .int .i64 x1, .int .i64 x2, .int .i64 x3, .int .i64 x4, .int .i64 x5, .int .i64 x6, .int .i64 x7, .int .i64 x8, .int .i64 x9, .int .i64 x10, .int .i64 x11, .bool bb, .int .i64 y0, .int .i64 y1, .int .i64 y2] rfl rfl 119 _ (Blk.new W4 _ _) (by kernel_rfl) rfl (by kernel_rfl) ?_)
  generalize hV : World.setRow _ _ _ = V4
  have hb : Below W4.heap.size W4 V4 := by rw [← hV]; exact below_setRow ((Below.refl _ _).alloc (Nat.le_refl _) _) (Nat.le_refl _) _
  have HB4 := Lib.hid (HC4.out.trans (hb.mono HC4.out.size))
  have HX4 := Lib.hid (show Ac.Blk V4 W4.heap.size 119 #[.int .i64 x0, .int .i64 x1, .int .i64 x2, .int .i64 x3, .int .i64 x4, .int .i64 x5, .int .i64 x6, .int .i64 x7, .int .i64 x8, .int .i64 x9, .int .i64 x10, .int .i64 x11, .bool bb, .int .i64 y0, .int .i64 y1, .int .i64 y2] by rw [← hV]; exact Blk.setRow (Blk.new W4 _ _) _)
  replace HX1 := Lib.hid (HX1.out.grow hb)
  replace HX2 := Lib.hid (HX2.out.grow hb)
  replace HX3 := Lib.hid (HX3.out.grow hb)
  clear hV hb
  refine (hSH.out _ HB4.out).mono ?_
  rintro e W5 ⟨A5, c5, rfl, hb⟩
  have HB5 := Lib.hid (HB4.out.trans (hb.mono HB4.out.size))
  replace HX1 := Lib.hid (HX1.out.grow hb)
  replace HX2 := Lib.hid (HX2.out.grow hb)
  replace HX3 := Lib.hid (HX3.out.grow hb)
  replace HX4 := Lib.hid (HX4.out.grow hb)
  clear hb
  go_wp2_with fail
  refine (hSH.out _ HB5.out).mono ?_
  rintro e W6 ⟨A6, c6, rfl, hb⟩
  have HB6 := Lib.hid (HB5.out.trans (hb.mono HB5.out.size))
  replace HX1 := Lib.hid (HX1.out.grow hb)
  replace HX2 := Lib.hid (HX2.out.grow hb)
  replace HX3 := Lib.hid (HX3.out.grow hb)
  replace HX4 := Lib.hid (HX4.out.grow hb)
  clear hb
  have q3 := (HB6.out.cell (p := ⟨r, 3, none⟩) h3l).trans H3.out
  have q13 := (HB6.out.cell (p := ⟨q, off + 13, none⟩) h13l).trans H13.out
  have e1 : (0 : Int) < (nl : Int) := by omega
  have z3_0 := HX3.out.cell 0
  have z3_1 := HX3.out.cell 1
  have z3_2 := HX3.out.cell 2
  have z3_3 := HX3.out.cell 3
  have z3_4 := HX3.out.cell 4
  have z3_5 := HX3.out.cell 5
  have z3_6 := HX3.out.cell 6
  have z3_7 := HX3.out.cell 7
  have z3_8 := HX3.out.cell 8
  have z3_9 := HX3.out.cell 9
  have z3_10 := HX3.out.cell 10
  have z3_11 := HX3.out.cell 11
  have z3_12 := HX3.out.cell 12
  have z3_13 := HX3.out.cell 13
  have z3_14 := HX3.out.cell 14
  have z3_15 := HX3.out.cell 15
  have z4_0 := HX4.out.cell 0
  have z4_1 := HX4.out.cell 1
  have z4_2 := HX4.out.cell 2
  have z4_3 := HX4.out.cell 3
  have z4_4 := HX4.out.cell 4
  have z4_5 := HX4.out.cell 5
  have z4_6 := HX4.out.cell 6
  have z4_7 := HX4.out.cell 7
  have z4_8 := HX4.out.cell 8
  have z4_9 := HX4.out.cell 9
  have z4_10 := HX4.out.cell 10
  have z4_11 := HX4.out.cell 11
  have z4_12 := HX4.out.cell 12
  have z4_13 := HX4.out.cell 13
  have z4_14 := HX4.out.cell 14
  have z4_15 := HX4.out.cell 15
  go_wp2_with (first
    | (refine wpList_load_row rfl 62 (.tmp 7) rfl W1.heap.size rfl 62 #[.string { data := #[] }, .int .i64 0, .int .i64 0, .int .i64 0] (0, 0) _ HX1.out Tryz.underlying62 rfl (by kernel_rfl) ?_)
    | (refine wpList_load_row rfl 62 (.tmp 9) rfl W2.heap.size rfl 62 #[.string { data := #[] }, .int .i64 0, .int .i64 0, .int .i64 0] (0, 0) _ HX2.out Tryz.underlying62 rfl (by kernel_rfl) ?_)
    | (refine wpList_load_row rfl 119 (.tmp 11) rfl W3.heap.size rfl 119 #[.int .i64 x0, .int .i64 x1, .int .i64 x2, .int .i64 x3, .int .i64 x4, .int .i64 x5, .int .i64 x6, .int .i64 x7, .int .i64 x8, .int .i64 x9, .int .i64 x10, .int .i64 x11, .bool bb, .int .i64 y0, .int .i64 y1, .int .i64 y2] (0, 0) _ HX3.out Tryz.underlying119 rfl (by kernel_rfl) ?_)
    | (refine wpList_load_row rfl 119 (.tmp 13) rfl W4.heap.size rfl 119 #[.int .i64 x0, .int .i64 x1, .int .i64 x2, .int .i64 x3, .int .i64 x4, .int .i64 x5, .int .i64 x6, .int .i64 x7, .int .i64 x8, .int .i64 x9, .int .i64 x10, .int .i64 x11, .bool bb, .int .i64 y0, .int .i64 y1, .int .i64 y2] (0, 0) _ HX4.out Tryz.underlying119 rfl (by kernel_rfl) ?_))
  clear z3_0 z3_1 z3_2 z3_3 z3_4 z3_5 z3_6 z3_7 z3_8 z3_9 z3_10 z3_11 z3_12 z3_13 z3_14 z3_15 z4_0 z4_1 z4_2 z4_3 z4_4 z4_5 z4_6 z4_7 z4_8 z4_9 z4_10 z4_11 z4_12 z4_13 z4_14 z4_15
  refine (same_nil A5 sA c5 sc W6).mono ?_
  rintro e W7 ⟨rfl, hb⟩
  have HB7 := Lib.hid (HB6.out.trans (hb.mono HB6.out.size))
  clear hb
  go_wp2_with fail
  go_loopw [22] (fun i wr => i = .int .i64 0 ∧ wr = W7) (fun _ _ => 0)
  case atStart => exact ⟨rfl, rfl⟩
  case round =>
    obtain ⟨rfl, rfl⟩ := hrel
    go_wp2_with fail
    refine (same_nil A6 sA c6 sc _).mono ?_
    rintro e W8 ⟨rfl, hb⟩
    have HB8 := Lib.hid (HB7.out.trans (hb.mono HB7.out.size))
    clear hb
    go_wp2_with fail
    try rw [Exit.noGoto_ret]
    go_ret
    exact ⟨rfl, HB8.out⟩
end Go.Proofs.YthoaidfpgijbfaaGreat.Ho
namespace Go.Proofs.YthoaidfpgijbfaaGreat.Vb
open Go.RowKit
structure Sec where
  b : Int
  c : Int
def Sec.wf (s : Sec) : Prop := (-9223372036854775808 ≤ s.b ∧ s.b ≤ 9223372036854775807) ∧ -9223372036854775808 ≤ s.c ∧ s.c ≤ 9223372036854775807
def Sec.cells (s : Sec) : List Value := [.int .i64 s.b, .int .i64 s.c]
def Sec.all (l : List Sec) : List Value := l.flatMap Sec.cells
theorem Sec.all_fst : ∀ (l : List Sec) (k : Nat) (o : Sec), l[k]? = some o → (Sec.all l)[k * 2]? = some (.int .i64 o.b)
  | [], k, o, h => by simp at h
  | x :: l, 0, o, h => by simp at h; subst h; rfl
  | x :: l, k + 1, o, h => by
    have := Sec.all_fst l k o (by simpa using h)
    simp only [Sec.all, List.flatMap_cons, Sec.cells] at *
    rw [show (k + 1) * 2 = k * 2 + 2 from by omega]
    simpa using this
theorem Sec.all_snd : ∀ (l : List Sec) (k : Nat) (o : Sec), l[k]? = some o → (Sec.all l)[k * 2 + 1]? = some (.int .i64 o.c)
  | [], k, o, h => by simp at h
  | x :: l, 0, o, h => by simp at h; subst h; rfl
  | x :: l, k + 1, o, h => by
    have := Sec.all_snd l k o (by simpa using h)
    simp only [Sec.all, List.flatMap_cons, Sec.cells] at *
    rw [show (k + 1) * 2 + 1 = k * 2 + 1 + 2 from by omega]
    simpa using this
theorem Sec.all_app (l : List Sec) (s : Sec) : Sec.all l ++ [.int .i64 s.b, .int .i64 s.c] = Sec.all (l ++ [s]) := by simp [Sec.all, Sec.cells]
def Secs (w : World) (R : Nat → Prop) (v : Value) (l : List Sec) : Prop := Sl w R v l.length 2 (Sec.all l) ∧ ∀ o ∈ l, o.wf
theorem Secs.grow {w w' : World} {R : Nat → Prop} {v : Value} {l : List Sec} (h : Secs w R v l) (hb : Below w.heap.size w w') : Secs w' R v l := ⟨h.1.grow hb, h.2⟩
theorem Secs.alloc {w : World} {R : Nat → Prop} {v : Value} {l : List Sec} (h : Secs w R v l) (o : Obj) : Secs (w.alloc o) R v l := ⟨h.1.alloc o, h.2⟩
def coinB (x : Int) : Bool := decide (0 ≤ x) && decide (x ≤ 1099511627776)
set_option maxHeartbeats 400000 in
theorem coins_any (x : Int) (w : World) : Calls Tryz.prog 285 #[.int .i64 x] w fun e w' => e = .returned (.bool (coinB x)) ∧ w = w' := by
  by_cases h0 : 0 ≤ x
  · go_enter Tryz.func285, Tryz.ntmps285
    go_wp2
    go_ret
    exact ⟨by simp [coinB, h0], rfl⟩
  · go_enter Tryz.func285, Tryz.ntmps285
    go_wp2
    go_ret
    exact ⟨by simp [coinB]; omega, rfl⟩
def secBad (s : Sec) : Bool := decide (s.b < 0) || !coinB s.c
set_option maxHeartbeats 400000 in
theorem secBad_any (s : Sec) (w : World) : Calls Tryz.prog 284 #[.agg #[.int .i64 s.b, .int .i64 s.c]] w fun e w' => e = .returned (.bool (secBad s)) ∧ Below w.heap.size w w' := by
  obtain ⟨b, c⟩ := s
  by_cases h0 : b < 0
  · go_enter Tryz.func284, Tryz.ntmps284
    go_wp2
    go_ret
    exact ⟨by simp [secBad, h0], (Below.refl _ _).alloc (Nat.le_refl _) _⟩
  · go_enter Tryz.func284, Tryz.ntmps284
    go_wp2_with (go_at_call 285; refine (coins_any _ _).mono ?_; rintro e w1 ⟨rfl, rfl⟩)
    go_ret
    exact ⟨by simp [secBad]; intro h; omega, (Below.refl _ _).alloc (Nat.le_refl _) _⟩
def secAt : List Sec → Option Nat
  | [] => none
  | o :: l => if secBad o then some 0 else (secAt l).map (· + 1)
def secInt (l : List Sec) : Int := match secAt l with | some k => k | none => -1
theorem secAt_none : ∀ l : List Sec, (∀ o ∈ l, secBad o = false) → secAt l = none
  | [], _ => rfl
  | o :: l, h => by simp [secAt, h o (by simp), secAt_none l (fun x hx => h x (by simp [hx]))]
theorem secAt_some : ∀ (l : List Sec) (k : Nat) (o : Sec), l[k]? = some o → secBad o = true → (∀ j x, j < k → l[j]? = some x → secBad x = false) → secAt l = some k
  | [], k, o, h, _, _ => by simp at h
  | x :: l, 0, o, h, hb, _ => by simp at h; subst h; simp [secAt, hb]
  | x :: l, k + 1, o, h, hb, hn => by
    have h0 := hn 0 x (by omega) rfl
    have := secAt_some l k o (by simpa using h) hb (fun j y hj hy => hn (j + 1) y (by omega) (by simpa using hy))
    simp [secAt, h0, this]
theorem secInt_ge (l : List Sec) : decide (0 ≤ secInt l) = l.any secBad := by
  unfold secInt
  induction l with
  | nil => rfl
  | cons o l ih =>
    cases hb : secBad o with
    | true => simp [secAt, hb]
    | false =>
      simp only [secAt, hb, List.any_cons, Bool.false_or]
      rw [← ih]
      cases secAt l with
      | none => rfl
      | some k => simp; omega
set_option maxHeartbeats 400000 in
theorem indexSec_any (l : List Sec) (v : Value) (R : Nat → Prop) (w : World) (hl : Secs w R v l) :
    Calls Tryz.prog 288 #[v, .func (.func 284) #[] #[]] w fun e w' => e = .returned (.int .i64 (secInt l)) ∧ Below w.heap.size w w' := by
  obtain ⟨⟨_, A, cap, rfl, hncap, hcap, hcells⟩, hwf⟩ := hl
  unfold maxLen at hcap
  have HC := Lib.hid hcells
  have HW := Lib.hid hwf
  clear hcells hwf
  go_enter Tryz.func288, Tryz.ntmps288
  go_wp2
  go_loopw [8] (fun i wr => ∃ k : Nat, k ≤ l.length ∧ i = .int .i64 k ∧ Below w.heap.size w wr ∧ ∀ j x, j < k → l[j]? = some x → secBad x = false) (fun i _ => l.length - (intOf i).toNat)
  case atStart => exact ⟨0, Nat.zero_le _, rfl, Below.refl _ _, fun j x hj => by omega⟩
  case round =>
    obtain ⟨k, hk, rfl, hb, hno⟩ := hrel
    have HN := Lib.hid hno
    have HB := Lib.hid hb
    clear hno
    by_cases hlt : k < l.length
    · obtain ⟨bb, off, rfl, _, hbb, hcs⟩ := HC.out (by omega)
      obtain ⟨o, ho⟩ : ∃ o, l[k]? = some o := ⟨_, List.getElem?_eq_getElem hlt⟩
      have c0 : wr.cell? ⟨bb, off + k * 2, none⟩ = some (.int .i64 o.b) := (hb.cell hbb).trans (hcs _ _ (Sec.all_fst l k o ho))
      have c1 : wr.cell? ⟨bb, off + k * 2 + 1, none⟩ = some (.int .i64 o.c) := (hb.cell hbb).trans (hcs _ _ (Sec.all_snd l k o ho))
      have HO := Lib.hid ho
      clear hcs hb ho
      cases hbad : secBad o with
      | true =>
        have HBAD := Lib.hid hbad
        clear hbad
        go_wp2_with (go_at_call 284; refine (secBad_any o _).mono ?_; rintro e w1 ⟨rfl, hb1⟩; rw [HBAD.out]; have HB1 := Lib.hid hb1; clear hb1)
        go_ret
        refine ⟨ret_int ?_, HB.out.trans (HB1.out.mono HB.out.size)⟩
        unfold secInt
        rw [secAt_some l k o HO.out HBAD.out HN.out]
      | false =>
        have HBAD := Lib.hid hbad
        clear hbad
        go_wp2_with (go_at_call 284; refine (secBad_any o _).mono ?_; rintro e w1 ⟨rfl, hb1⟩; rw [HBAD.out]; have HB1 := Lib.hid hb1; clear hb1)
        go_roundw
        case rel =>
          refine ⟨k + 1, by omega, by go_num, HB.out.trans (HB1.out.mono HB.out.size), fun j x hj hx => ?_⟩
          by_cases hjk : j < k
          · exact HN.out j x hjk hx
          · obtain rfl : j = k := by omega
            rw [HO.out] at hx
            cases hx
            exact HBAD.out
        case measure => simp [intOf]; omega
    · clear hb
      go_wp2
      go_ret
      refine ⟨ret_int ?_, HB.out⟩
      unfold secInt
      rw [secAt_none l (fun o ho => ?_)]
      obtain ⟨j, hj, rfl⟩ := List.getElem_of_mem ho
      exact HN.out j _ (by omega) (List.getElem?_eq_getElem hj)
set_option maxHeartbeats 400000 in
theorem containsSec_any (l : List Sec) (v : Value) (R : Nat → Prop) (w : World) (hl : Secs w R v l) :
    Calls Tryz.prog 286 #[v, .func (.func 284) #[] #[]] w fun e w' => e = .returned (.bool (l.any secBad)) ∧ Below w.heap.size w w' := by
  have hg := secInt_ge l
  rw [← hg]
  clear hg
  go_enter Tryz.func286, Tryz.ntmps286
  go_wp2_with (go_at_call 288; refine (indexSec_any l v R _ hl).mono ?_; rintro e w1 ⟨rfl, hb1⟩; have HB1 := Lib.hid hb1; clear hb1)
  go_ret
  exact ⟨rfl, HB1.out⟩
end Go.Proofs.YthoaidfpgijbfaaGreat.Vb
namespace Go.Proofs.YthoaidfpgijbfaaGreat.Vb
open Go.RowKit
def beats (a : Option (Nat × Int)) (c : Int) : Bool := match a with | none => true | some (_, c0) => decide (c0 < c)
def bstep (floor but : Int) (i : Nat) (s : Sec) (a : Option (Nat × Int)) : Option (Nat × Int) := if decide ((i : Int) ≠ but) && decide (floor ≤ s.c) && beats a s.c then some (i, s.c) else a
def bestK (floor but : Int) (l : List Sec) : Nat → Option (Nat × Int)
  | 0 => none
  | k + 1 => match l[k]? with | some s => bstep floor but k s (bestK floor but l k) | none => bestK floor but l k
def atI (a : Option (Nat × Int)) : Int := match a with | none => -1 | some (j, _) => j
theorem bestK_succ {floor but : Int} {l : List Sec} {k : Nat} {s : Sec} (h : l[k]? = some s) : bestK floor but l (k + 1) = bstep floor but k s (bestK floor but l k) := by simp [bestK, h]
theorem bestK_get {floor but : Int} {l : List Sec} : ∀ {k j : Nat} {c : Int}, bestK floor but l k = some (j, c) → j < k ∧ ∃ s, l[j]? = some s ∧ s.c = c
  | 0, j, c, h => by simp [bestK] at h
  | k + 1, j, c, h => by
    simp only [bestK] at h
    cases hl : l[k]? with
    | none =>
      rw [hl] at h
      obtain ⟨h1, h2⟩ := bestK_get h
      exact ⟨by omega, h2⟩
    | some s =>
      rw [hl] at h
      simp only [bstep] at h
      split at h
      · simp only [Option.some.injEq, Prod.mk.injEq] at h
        obtain ⟨rfl, rfl⟩ := h
        exact ⟨by omega, s, hl, rfl⟩
      · obtain ⟨h1, h2⟩ := bestK_get h
        exact ⟨by omega, h2⟩
set_option maxRecDepth 100000 in
set_option maxHeartbeats 1600000 in
theorem best_any' (floor but : Int) (l : List Sec) (v : Value) (R : Nat → Prop) (w : World) (hl : Secs w R v l) :
    Calls Tryz.prog 289 #[.int .i64 floor, v, .int .i64 but] w fun e w' => e = .returned (.int .i64 (atI (bestK floor but l l.length))) ∧ Below w.heap.size w w' := by
  obtain ⟨⟨_, A, cap, rfl, hncap, hcap, hcells⟩, hwf⟩ := hl
  unfold maxLen at hcap
  have HC := Lib.hid hcells
  clear hcells hwf
  go_enter Tryz.func289, Tryz.ntmps289
  go_wp2_with fail
  go_loopw [7, 12] (fun a i wr => ∃ k : Nat, k ≤ l.length ∧ i = .int .i64 k ∧ a = .int .i64 (atI (bestK floor but l k)) ∧ Below w.heap.size w wr) (fun _ i _ => l.length - (intOf i).toNat)
  case atStart => exact ⟨0, Nat.zero_le _, rfl, rfl, Below.refl _ _⟩
  case round =>
    obtain ⟨k, hk, rfl, rfl, hb⟩ := hrel
    have HB := Lib.hid hb
    by_cases hlt : k < l.length
    · obtain ⟨bb, off, rfl, _, hbb, hcs⟩ := HC.out (by omega)
      obtain ⟨o, ho⟩ : ∃ o, l[k]? = some o := ⟨_, List.getElem?_eq_getElem hlt⟩
      have c0 : wr.cell? ⟨bb, off + k * 2, none⟩ = some (.int .i64 o.b) := (hb.cell hbb).trans (hcs _ _ (Sec.all_fst l k o ho))
      have c1 : wr.cell? ⟨bb, off + k * 2 + 1, none⟩ = some (.int .i64 o.c) := (hb.cell hbb).trans (hcs _ _ (Sec.all_snd l k o ho))
      have hsu := bestK_succ (floor := floor) (but := but) ho
      have HSU := Lib.hid hsu
      have e1 : (0 : Int) ≤ (k : Int) := by omega
      have e2 : (k : Int) < (l.length : Int) := by omega
      have hbl : ∀ q, Below w.heap.size w ((wr.alloc (.cells #[.int .i64 o.b, .int .i64 o.c] 374)).drewN q) := fun q => below_drewN (HB.out.alloc HB.out.size _) q
      have HBL := Lib.hid hbl
      clear hb ho hsu hbl
      by_cases hk1 : (k : Int) = but
      · have hn : bestK floor but l (k + 1) = bestK floor but l k := by rw [HSU.out, bstep]; simp [hk1]
        have HN := Lib.hid hn
        have hne : ((k : Int) != but) = false := by simpa using hk1
        have HK := Lib.hid hk1
        clear hn hk1 hcs
        go_wp2_with fail
        go_quiet (fail)
        go_wp2_with fail
        go_roundw
        case rel => exact ⟨k + 1, by omega, by go_num, by rw [HN.out], HBL.out _⟩
        case measure => simp [intOf]; omega
      · have hne : ((k : Int) != but) = true := by simpa using hk1
        have HK := Lib.hid hk1
        clear hk1
        by_cases hf : floor ≤ o.c
        · cases hbk : bestK floor but l k with
          | none =>
            have hn : bestK floor but l (k + 1) = some (k, o.c) := by rw [HSU.out, hbk, bstep]; simp [beats, hf]; intro h; exact absurd h HK.out
            have HN := Lib.hid hn
            have hat : atI none = -1 := rfl
            clear hn hcs hbk
            rw [hat]
            go_wp2_with fail
            go_quiet (fail)
            go_wp2_with fail
            go_roundw
            case rel => exact ⟨k + 1, by omega, by go_num, by rw [HN.out]; rfl, HBL.out _⟩
            case measure => simp [intOf]; omega
          | some p =>
            obtain ⟨j, c⟩ := p
            obtain ⟨hjk, s, hs, hsc⟩ := bestK_get hbk
            have d1 : wr.cell? ⟨bb, off + j * 2 + 1, none⟩ = some (.int .i64 c) := by rw [← hsc]; exact (HB.out.cell hbb).trans (hcs _ _ (Sec.all_snd l j s hs))
            have d2 := cellAlloc d1 (.cells #[.int .i64 o.b, .int .i64 o.c] 374)
            have hat : atI (some (j, c)) = (j : Int) := rfl
            have e3 : (0 : Int) ≤ (j : Int) := by omega
            have e4 : (j : Int) < (l.length : Int) := by omega
            rw [hat]
            by_cases hlt2 : c < o.c
            · have hn : bestK floor but l (k + 1) = some (k, o.c) := by rw [HSU.out, hbk, bstep]; simp [beats, hf, hlt2]; intro h; exact absurd h HK.out
              have HN := Lib.hid hn
              clear hn hcs hbk hs hsc hat
              go_wp2_with fail
              go_quiet (fail)
              go_wp2_with fail
              go_roundw
              case rel => exact ⟨k + 1, by omega, by go_num, by rw [HN.out]; rfl, HBL.out _⟩
              case measure => simp [intOf]; omega
            · have hn : bestK floor but l (k + 1) = some (j, c) := by rw [HSU.out, hbk, bstep]; simp [beats, hlt2]
              have HN := Lib.hid hn
              clear hn hcs hbk hs hsc hat
              go_wp2_with fail
              go_quiet (fail)
              go_wp2_with fail
              go_roundw
              case rel => exact ⟨k + 1, by omega, by go_num, by rw [HN.out]; rfl, HBL.out _⟩
              case measure => simp [intOf]; omega
        · have hn : bestK floor but l (k + 1) = bestK floor but l k := by rw [HSU.out, bstep]; simp [hf]
          have HN := Lib.hid hn
          have hfd : decide (floor ≤ o.c) = false := by simpa using hf
          clear hn hcs hf
          go_wp2_with fail
          go_quiet (fail)
          go_wp2_with fail
          go_roundw
          case rel => exact ⟨k + 1, by omega, by go_num, by rw [HN.out], HBL.out _⟩
          case measure => simp [intOf]; omega
    · obtain rfl : k = l.length := by omega
      clear hb
      go_wp2_with fail
      go_ret
      exact ⟨rfl, HB.out⟩
end Go.Proofs.YthoaidfpgijbfaaGreat.Vb
namespace Go.Proofs.YthoaidfpgijbfaaGreat.Vb
open Go.RowKit
def Small (bs : List (List Off)) : Prop := bs.length ≤ 64 ∧ ∀ l ∈ bs, l.length ≤ 64
def OwnBuys (w : World) (lo : Nat) (v : Value) (bs : List (List Off)) : Prop :=
  ∃ vs : List Value, w.ownsRow lo 34 1 v bs.length vs ∧ ∀ (k : Nat) (l : List Off), bs[k]? = some l → ∃ u, vs[k]? = some u ∧ Offs w (fun b => lo ≤ b ∧ v.ownBlock ≠ some b) u l
end Go.Proofs.YthoaidfpgijbfaaGreat.Vb
namespace Go.Proofs.YthoaidfpgijbfaaGreat.Vb
open Go.RowKit
def withE (n : Int) (bs : List (List Off)) (buyer : Int) (l : List Off) : Int :=
  if instE n bs ≠ 0 then instE n bs else if buyer < 0 ∨ (bs.length : Int) ≤ buyer then 2 else checkE n l
end Go.Proofs.YthoaidfpgijbfaaGreat.Vb

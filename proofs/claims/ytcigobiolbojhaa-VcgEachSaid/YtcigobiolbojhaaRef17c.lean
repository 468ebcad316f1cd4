/- The reference of layer 17: Costs. -/
import Derived.Test.YtcigobiolbojhaaRef17b
import Derived.Deep.CutRange
import Derived.Deep.RegionWith
namespace Go.Proofs.Ytcigobiolbojhaa.Vb
open Go.RowKit

theorem two_blk' {w w1 : World} {cs ds : Array Value} {t u : TypeId} (hb : Below ((w.alloc (.cells cs t)).alloc (.cells ds u)).heap.size ((w.alloc (.cells cs t)).alloc (.cells ds u)) w1) :
    Blk w1 w.heap.size t cs ∧ Blk w1 (w.heap.size + 1) u ds ∧ w.heap.size + 2 ≤ w1.heap.size ∧ Below w.heap.size w w1 := by
  have hb' := hb.mono (B' := w.heap.size + 2) (by simp)
  have hs := hb'.size
  simp at hs
  exact ⟨(two_blk hb').1, (two_blk hb').2, hs, (((Below.refl _ _).alloc (Nat.le_refl _) _).alloc (by simp) _).trans (hb'.mono (by omega))⟩

theorem own_alloc {w : World} {base : Nat} {e : TypeId} {sz n : Nat} {v : Value} {xs : List Value} (h : w.ownsRow base e sz v n xs) (o : Obj) : (w.alloc o).ownsRow base e sz v n xs :=
  own_grow h ((Below.refl _ _).alloc (Nat.le_refl _) o)
theorem three_own {w : World} {base : Nat} {e t : TypeId} {sz n g : Nat} {v a b c : Value} {xs : List Value} {cs : Array Value} (h : w.ownsRow base e sz v n xs) (hb : Blk w g t cs) (he : e ≠ t) :
    (((w.setCell ⟨g, 0, none⟩ a).setCell ⟨g, 1, none⟩ b).setCell ⟨g, 2, none⟩ c).ownsRow base e sz v n xs := by
  have hne := own_ne_blk h hb he
  have hr : ∀ x, some g = some x → v.ownBlock ≠ some x := fun x e => by injection e with e; subst e; exact hne
  exact own_far (own_far (own_far h (grownBy_setCell w ⟨g, 0, none⟩ a) hr) (grownBy_setCell _ ⟨g, 1, none⟩ b) hr) (grownBy_setCell _ ⟨g, 2, none⟩ c) hr

/-- what stands behind the making of the answer -/
def PaidCut (n : Int) (bs : List (List Off)) (w1 wr : World) (p : Value) : Prop := ∃ (gp : Nat) (A1 : Option Addr) (c1 : Nat), p = .pointer (some ⟨gp, 0, none⟩) ∧ w1.heap.size ≤ gp ∧
    Blk wr gp 36 #[.slice A1 bs.length c1, .int .i64 (W bs (allOf n)), .slice none 0 0] ∧ wr.ownsRow w1.heap.size 3 1 (.slice A1 bs.length c1) bs.length (ints (bestC n bs)) ∧ Below w1.heap.size w1 wr
section
variable {n : Int} {bs : List (List Off)} {w1 w2 w3 : World} {A1 : Option Addr} {c1 : Nat}
theorem paidCut_c (hown : w2.ownsRow w1.drew.heap.size 3 1 (.slice A1 bs.length c1) bs.length (ints (bestC n bs))) (hb2 : Below w1.drew.heap.size w1.drew w2) (hb3 : Below w2.heap.size w2 w3) :
    PaidCut n bs w1 (w3.alloc (.cells #[.slice A1 bs.length c1, .int .i64 (W bs (allOf n)), .slice none 0 0] 36)) (.pointer (some ⟨w3.heap.size, 0, none⟩)) := by
  have h2 : w1.heap.size ≤ w2.heap.size := by have := hb2.size; simpa using this
  have h3 := hb3.size
  exact ⟨w3.heap.size, A1, c1, rfl, by omega, Blk.new w3 _ _, own_alloc (own_grow hown hb3) _, (((Below.refl _ _).drew.trans hb2).trans (hb3.mono h2)).alloc (by simp; omega) _⟩
theorem paidCut_b (hown : w2.ownsRow w1.drew.heap.size 3 1 (.slice A1 bs.length c1) bs.length (ints (bestC n bs))) (hb2 : Below w1.drew.heap.size w1.drew w2)
    (hb3 : Below (w2.alloc (.cells #[.slice none 0 0, .int .i64 0, .slice none 0 0] 36)).heap.size (w2.alloc (.cells #[.slice none 0 0, .int .i64 0, .slice none 0 0] 36)) w3) (hp3 : Blk w3 w2.heap.size 36 #[.slice none 0 0, .int .i64 0, .slice none 0 0]) :
    PaidCut n bs w1 (((w3.setCell ⟨w2.heap.size, 0, none⟩ (.slice A1 bs.length c1)).setCell ⟨w2.heap.size, 1, none⟩ (.int .i64 (W bs (allOf n)))).setCell ⟨w2.heap.size, 2, none⟩ (.slice none 0 0)) (.pointer (some ⟨w2.heap.size, 0, none⟩)) := by
  have h2 : w1.heap.size ≤ w2.heap.size := by have := hb2.size; simpa using this
  refine ⟨w2.heap.size, A1, c1, rfl, h2, ((hp3.set_ 0 _).set_ 1 _).set_ 2 _, three_own (own_grow (own_alloc hown _) hb3) hp3 (by decide), ?_⟩
  exact ((((((Below.refl _ _).drew.trans hb2).alloc h2 _).trans (hb3.mono (by simp; omega))).setCell (p := ⟨w2.heap.size, 0, none⟩) h2 _).setCell (p := ⟨w2.heap.size, 1, none⟩) h2 _).setCell (p := ⟨w2.heap.size, 2, none⟩) h2 _
theorem paidCut_a (hown : w2.ownsRow (w1.alloc (.cells #[.slice none 0 0, .int .i64 0, .slice none 0 0] 36)).drew.heap.size 3 1 (.slice A1 bs.length c1) bs.length (ints (bestC n bs)))
    (hb2 : Below (w1.alloc (.cells #[.slice none 0 0, .int .i64 0, .slice none 0 0] 36)).drew.heap.size (w1.alloc (.cells #[.slice none 0 0, .int .i64 0, .slice none 0 0] 36)).drew w2) (hb3 : Below w2.heap.size w2 w3) (hp3 : Blk w3 w1.heap.size 36 #[.slice none 0 0, .int .i64 0, .slice none 0 0]) :
    PaidCut n bs w1 (((w3.setCell ⟨w1.heap.size, 0, none⟩ (.slice A1 bs.length c1)).setCell ⟨w1.heap.size, 1, none⟩ (.int .i64 (W bs (allOf n)))).setCell ⟨w1.heap.size, 2, none⟩ (.slice none 0 0)) (.pointer (some ⟨w1.heap.size, 0, none⟩)) := by
  have h2 : w1.heap.size + 1 ≤ w2.heap.size := by have := hb2.size; simpa using this
  refine ⟨w1.heap.size, A1, c1, rfl, Nat.le_refl _, ((hp3.set_ 0 _).set_ 1 _).set_ 2 _, own_mono (three_own (own_grow hown hb3) hp3 (by decide)) (by simp), ?_⟩
  exact ((((((Below.refl _ _).alloc (Nat.le_refl _) _).drew.trans (hb2.mono (by simp))).trans (hb3.mono (by omega))).setCell (p := ⟨w1.heap.size, 0, none⟩) (Nat.le_refl _) _).setCell (p := ⟨w1.heap.size, 1, none⟩) (Nat.le_refl _) _).setCell (p := ⟨w1.heap.size, 2, none⟩) (Nat.le_refl _) _
end

set_option maxRecDepth 100000 in
set_option maxHeartbeats 3200000 in
theorem refCosts_ok (n : Int) (bs : List (List Off)) (v : Value) (R : Nat → Prop) (w : World) (hl : Buys w R v bs) (hi : instE n bs = 0) :
    Calls Try.prog 17 #[.agg #[.int .i64 n, v]] w fun e w' => ∃ A1 c1 A2 c2, e = .returned (.tuple #[.agg #[.slice A1 bs.length c1, .int .i64 (W bs (allOf n)), .slice A2 bs.length c2], .int .i64 0]) ∧
      w'.ownsRow w.heap.size 3 1 (.slice A1 bs.length c1) bs.length (ints (bestC n bs)) ∧ w'.ownsRow w.heap.size 2 1 (.slice A2 bs.length c2) bs.length (ints (paysC n bs)) ∧ Below w.heap.size w w' := by
  obtain ⟨vs, ⟨_, A, cap, rfl, hnc, hcm, hcs⟩, hvs⟩ := id hl
  have hwf := hl.wf
  have HB := Lib.hid hl
  have HI := Lib.hid hi
  have HCS := Lib.hid hcs
  have HVS := Lib.hid hvs
  have HWF := Lib.hid hwf
  have hl32 := (instE_zero hi).2.2.1
  clear hl hi hcs hvs hcm hwf
  go_enter Try.func17, Try.ntmps17
  go_wp2_with (go_at_call 30; refine (refInstance_any n bs _ R _ ((HB.out.alloc _).alloc _)).mono ?_; rintro e w1 ⟨rfl, hb1⟩; rw [HI.out]; obtain ⟨hX, hP, hs1, hbw⟩ := two_blk' hb1; have x0 : w1.cell? ⟨w.heap.size, 0, none⟩ = some (.int .i64 n) := hX.cell 0; have x1 : w1.cell? ⟨w.heap.size, 1, none⟩ = some (.slice A bs.length cap) := hX.cell 1; have HX := Lib.hid hX; have HP := Lib.hid hP; have HBW := Lib.hid hbw; clear hX hP hb1 hbw)
  go_cut [5] from 16 to 20 (fun p wr => PaidCut n bs w1 wr p)
  case first =>
    have x0' := cellAlloc x0
    have x1' := cellAlloc x1
    go_region_with (first
      | (go_at_call 80; refine (refBest_any n bs _ R w1.drew (HB.out.grow HBW.out).drew HI.out).mono ?_; rintro e w2 ⟨A1, c1, rfl, hown, hb2⟩; obtain ⟨e0, e1⟩ : w2.cell? ⟨w.heap.size, 0, none⟩ = some (.int .i64 n) ∧ w2.cell? ⟨w.heap.size, 1, none⟩ = some (.slice A bs.length cap) := ⟨(hb2.cell (p := ⟨w.heap.size, 0, none⟩) (by simp; omega)).trans x0, (hb2.cell (p := ⟨w.heap.size, 1, none⟩) (by simp; omega)).trans x1⟩; have e0' := cellAlloc e0; have e1' := cellAlloc e1)
      | (go_at_call 80; refine (refBest_any n bs _ R (w1.alloc (.cells #[.slice none 0 0, .int .i64 0, .slice none 0 0] 36)).drew ((HB.out.grow HBW.out).alloc _).drew HI.out).mono ?_; rintro e w2 ⟨A1, c1, rfl, hown, hb2⟩; obtain ⟨e0, e1, hp2⟩ : w2.cell? ⟨w.heap.size, 0, none⟩ = some (.int .i64 n) ∧ w2.cell? ⟨w.heap.size, 1, none⟩ = some (.slice A bs.length cap) ∧ Blk w2 w1.heap.size 36 #[.slice none 0 0, .int .i64 0, .slice none 0 0] := ⟨(hb2.cell (p := ⟨w.heap.size, 0, none⟩) (by simp; omega)).trans (x0' _), (hb2.cell (p := ⟨w.heap.size, 1, none⟩) (by simp; omega)).trans (x1' _), (Blk.new w1 _ _).drew.grow hb2⟩)
      | (go_at_call 81; refine (refW_any n bs _ R w2 ((show Buys (w1.alloc (.cells #[.slice none 0 0, .int .i64 0, .slice none 0 0] 36)).drew R _ _ from ((HB.out.grow HBW.out).alloc _).drew).grow hb2) HI.out).mono ?_; rintro e w3 ⟨rfl, hb3⟩; have hp3 := hp2.grow hb3; obtain ⟨p0, p1, p2⟩ : w3.cell? ⟨w1.heap.size, 0, none⟩ = some (.slice none 0 0) ∧ w3.cell? ⟨w1.heap.size, 1, none⟩ = some (.int .i64 0) ∧ w3.cell? ⟨w1.heap.size, 2, none⟩ = some (.slice none 0 0) := ⟨hp3.cell 0, hp3.cell 1, hp3.cell 2⟩; have pf := hp3.frozen)
      | (go_at_call 81; refine (refW_any n bs _ R w2 ((show Buys w1.drew R _ _ from (HB.out.grow HBW.out).drew).grow hb2) HI.out).mono ?_; rintro e w3 ⟨rfl, hb3⟩)
      | (go_at_call 81; refine (refW_any n bs _ R (w2.alloc (.cells #[.slice none 0 0, .int .i64 0, .slice none 0 0] 36)) (((show Buys w1.drew R _ _ from (HB.out.grow HBW.out).drew).grow hb2).alloc _) HI.out).mono ?_; rintro e w3 ⟨rfl, hb3⟩; have hp3 := (Blk.new w2 _ _).grow hb3; obtain ⟨p0, p1, p2⟩ : w3.cell? ⟨w2.heap.size, 0, none⟩ = some (.slice none 0 0) ∧ w3.cell? ⟨w2.heap.size, 1, none⟩ = some (.int .i64 0) ∧ w3.cell? ⟨w2.heap.size, 2, none⟩ = some (.slice none 0 0) := ⟨hp3.cell 0, hp3.cell 1, hp3.cell 2⟩; have pf := hp3.frozen))
    all_goals (go_wp2_with fail; go_meet)
    all_goals first
      | exact paidCut_a hown hb2 hb3 (hp2.grow hb3)
      | exact paidCut_b hown hb2 hb3 hp3
      | exact paidCut_c hown hb2 hb3
  case rest =>
    obtain ⟨gp, A1, c1, rfl, hgp, hP0, hC0, hb0⟩ := hcut
    go_wp2_with fail
    go_loopw [6] (fun i wr => ∃ (k : Nat) (A' : Option Addr) (cap' : Nat), k ≤ bs.length ∧ i = .int .i64 k ∧ Blk wr gp 36 #[.slice A1 bs.length c1, .int .i64 (W bs (allOf n)), .slice A' k cap'] ∧
        wr.ownsRow w1.heap.size 2 1 (.slice A' k cap') k (ints ((paysC n bs).take k)) ∧ wr.ownsRow w1.heap.size 3 1 (.slice A1 bs.length c1) bs.length (ints (bestC n bs)) ∧ Below w1.heap.size w1 wr)
      (fun i _ => bs.length - (intOf i).toNat)
    case atStart => exact ⟨0, none, 0, Nat.zero_le _, rfl, hP0, World.ownsRow_nil _ _ _ _, hC0, hb0⟩
    case round =>
      obtain ⟨k, A', cap', hk, rfl, hP1, hown, hch, hbr⟩ := hrel
      have hX1 := HX.out.grow hbr
      have hbw := HBW.out.trans (hbr.mono (by omega))
      have x0 : wr.cell? ⟨w.heap.size, 0, none⟩ = some (.int .i64 n) := hX1.cell 0
      have x1 : wr.cell? ⟨w.heap.size, 1, none⟩ = some (.slice A bs.length cap) := hX1.cell 1
      have hszr := hbr.size
      have HX3 := Lib.hid hX1
      have HP3 := Lib.hid hP1
      have HO3 := Lib.hid hown
      have HC3 := Lib.hid hch
      have HB1 := Lib.hid hbr
      have HBW1 := Lib.hid hbw
      have HBY := Lib.hid (HB.out.grow hbw)
      clear hP0 hC0 hb0
      by_cases hlt : k < bs.length
      · obtain ⟨c, hc⟩ : ∃ c, (bestC n bs)[k]? = some c := ⟨_, List.getElem?_eq_getElem (by rw [bestC, choose_length]; exact hlt)⟩
        have hpg := paysC_get hc
        have hlC : (bestC n bs).length = bs.length := by rw [bestC, choose_length]
        obtain ⟨gC, capC, hAC, hgC, hgC2⟩ := World.ownsRow.form hch (by omega)
        injection hAC with hAC _ hcC
        subst hAC hcC
        have hgood := choose_get bs (allOf n) k c hc
        obtain ⟨hw0, hw1⟩ := woW_bd HWF.out HI.out k
        have hok := (okb_of HWF.out HI.out).1
        have hW0 := W_nonneg bs (allOf n)
        have hW1 : W bs (allOf n) ≤ 35184372088832 := by simpa using hok.W_le 0 (allOf n)
        have hcoin : 0 ≤ coinAt bs k c ∧ coinAt bs k c ≤ 1099511627776 := by
          rcases hgood with rfl | ⟨j, l, o, rfl, h1, h2⟩
          · rw [coinAt_neg (by decide)]; omega
          · rw [coinAt_some h1 h2]
            obtain ⟨_, _, h3, h4⟩ := hok.offer h1 h2
            omega
        have hpay : payAt n bs k c = if c < 0 then 0 else woW n bs k - (W bs (allOf n) - coinAt bs k c) := by
          unfold payAt
          split
          · rfl
          · omega
        rw [hpay] at hpg
        generalize hgc : coinAt bs k c = co at *
        have hsub1 : IntKind.i64.wrap (W bs (allOf n) - co) = W bs (allOf n) - co := IntWalk.i64_in _ (by omega)
        have hsub2 : IntKind.i64.wrap (woW n bs k - (W bs (allOf n) - co)) = woW n bs k - (W bs (allOf n) - co) := IntWalk.i64_in _ (by omega)
        have hcell : ∀ W' : World, Below wr.heap.size wr W' → W'.cell? ⟨w.heap.size, 0, none⟩ = some (.int .i64 n) ∧ W'.cell? ⟨w.heap.size, 1, none⟩ = some (.slice A bs.length cap) ∧ W'.cell? ⟨gp, 1, none⟩ = some (.int .i64 (W bs (allOf n))) ∧
            W'.cell? ⟨gp, 0, none⟩ = some (.slice (some ⟨gC, 0, none⟩) bs.length c1) ∧ W'.cell? ⟨gC, k, none⟩ = some (.int .i64 c) ∧ W'.cell? ⟨gp, 2, none⟩ = some (.slice A' k cap') := fun W' hb => by
          refine ⟨(hX1.grow hb).cell 0, (hX1.grow hb).cell 1, (hP1.grow hb).cell 1, (hP1.grow hb).cell 0, ?_, (hP1.grow hb).cell 2⟩
          rw [(own_grow hch hb).cellAt k (by omega)]
          simp [ints, hc]
        have HSL : Hid (∀ W' : World, Below wr.heap.size wr W' → Sl W' (fun _ => True) (.slice (some ⟨gC, 0, none⟩) bs.length c1) (bestC n bs).length 1 (ints (bestC n bs))) := fun W' hb => by
          rw [hlC]
          exact (Sl.of_own (own_grow hch hb)).mono fun _ _ _ => trivial
        have HCELL := Lib.hid hcell
        have HPG := Lib.hid hpg
        have HC := Lib.hid hc
        have HGOOD := Lib.hid hgood
        have HGC := Lib.hid hgc
        clear hX1 hP1 hown hch hbr hbw hc hpg hgood hgc hcell hpay hlC
        go_wp2_with (go_at_call 25; refine (refWithout_any n bs (k : Nat) _ R _ HBY.out).mono ?_; rintro e w3 ⟨rfl, hb3⟩; obtain ⟨y0, y1, y2, y3, y4, y5⟩ := HCELL.out w3 hb3; have HB3 := Lib.hid hb3; clear hb3)
        go_region_held3 (fun w' => w'.cell? ⟨gp, 1, none⟩ = some (.int .i64 (W bs (allOf n))) ∧ w'.cell? ⟨w.heap.size, 0, none⟩ = some (.int .i64 n) ∧ w'.cell? ⟨w.heap.size, 1, none⟩ = some (.slice A bs.length cap) ∧ w'.cell? ⟨gp, 0, none⟩ = some (.slice (some ⟨gC, 0, none⟩) bs.length c1)) (go_keep)
          ((go_at_call 82; refine (refWon_any n bs (bestC n bs) _ _ R _ k c _ _ (HBY.out.grow HB3.out).drew (HSL.out w3 HB3.out).drew HC.out rfl HGOOD.out).mono ?_; rintro e w4 ⟨rfl, hb4⟩; rw [HGC.out]; have hb34 := HB3.out.trans ((Below.refl _ _).drew.trans (hb4.mono (by have := HB3.out.size; simpa using this))); obtain ⟨z0, z1, z2, z3, z4, z5⟩ := HCELL.out w4 (hb34.mono (Nat.le_refl _)); have HB4 := Lib.hid hb34; clear hb4 hb34))
        have HP4 := Lib.hid (HP3.out.grow HB4.out)
        have HO4 := Lib.hid (own_grow HO3.out HB4.out)
        have HC4 := Lib.hid (own_grow HC3.out HB4.out)
        have HBB4 := Lib.hid (HB1.out.trans (HB4.out.mono hszr))
        have hsz4 : wr.heap.size ≤ w4.heap.size := HB4.out.size
        clear y0 y1 y2 y3 y4 y5 x0 x1
        by_cases hc0 : c < 0
        · have HC0 := Lib.hid hc0
          have g2a := cellAlloc z5 (.cells #[.int .i64 0] 2)
          go_wp2_with (at_builtin; refine wpList_app _ rfl (.tmp 51) (.tmp 53) et_i64 rfl w1.heap.size (.slice A' k cap') k (ints ((paysC n bs).take k)) rfl (HO4.out.alloc _) _ _ 1 _ rfl (Sl.new w4 #[.int .i64 0] _ 1 1 (by unfold maxLen; omega) rfl) (by simp [Value.oneCell']) (by omega) (by unfold maxLen; omega) (by simp; omega) ?_; intro A3 cap3 w5 hown5 hg5 hloc5; have hp5 : Blk w5 gp 36 #[.slice (some ⟨gC, 0, none⟩) bs.length c1, .int .i64 (W bs (allOf n)), .slice A' k cap'] := (HP4.out.alloc _).grown hg5 (fun e => own_ne_blk HO4.out HP4.out (by decide) e.symm); have k0 : w5.cell? ⟨gp, 2, none⟩ = some (.slice A' k cap') := hp5.cell 2; have k1 := hp5.frozen 2; have HP5 := Lib.hid hp5; have HG5 := Lib.hid hg5; have HO5 := Lib.hid hown5; clear hp5 hg5 hown5 hloc5)
          go_roundw
          case rel =>
            have hro : ∀ g, (Value.slice A' k cap').ownBlock = some g → w1.heap.size ≤ g := fun g e => (HO4.out.lt g e).1
            have hs5 := HG5.out.size
            simp at hs5
            refine ⟨k + 1, A3, cap3, by omega, by go_num, HP5.out.set_ 2 _, ?_, ?_, ?_⟩
            · have h1 := own_far HO5.out (grownBy_setCell _ ⟨gp, 2, none⟩ (.slice A3 (k + 1) cap3)) (fun g e => by simp at e; subst e; exact own_ne_blk HO5.out HP5.out (by decide))
              rw [List.take_add_one, HPG.out, if_pos HC0.out]
              simpa [ints] using h1
            · have h1 := own_far (HC4.out.alloc (.cells #[.int .i64 0] 2)) HG5.out (fun g e => own_ne (HO4.out.alloc (.cells #[.int .i64 0] 2)) (HC4.out.alloc (.cells #[.int .i64 0] 2)) (by decide) e)
              exact own_far h1 (grownBy_setCell _ ⟨gp, 2, none⟩ _) (fun g e => by simp at e; subst e; exact own_ne_blk h1 HP5.out (by decide))
            · exact ((HBB4.out.alloc (by omega) _).grown HG5.out (by simp; omega) (fun g e => hro g e)).setCell (p := ⟨gp, 2, none⟩) hgp _
          case measure => simp [intOf]; omega
        · have HC0 := Lib.hid hc0
          have g2a := cellAlloc z5 (.cells #[.int .i64 (woW n bs k - (W bs (allOf n) - co))] 2)
          go_wp2_with (at_builtin; refine wpList_app _ rfl (.tmp 51) (.tmp 53) et_i64 rfl w1.heap.size (.slice A' k cap') k (ints ((paysC n bs).take k)) rfl (HO4.out.alloc _) _ _ 1 _ rfl (Sl.new w4 #[.int .i64 (woW n bs k - (W bs (allOf n) - co))] _ 1 1 (by unfold maxLen; omega) rfl) (by simp [Value.oneCell']) (by omega) (by unfold maxLen; omega) (by simp; omega) ?_; intro A3 cap3 w5 hown5 hg5 hloc5; have hp5 : Blk w5 gp 36 #[.slice (some ⟨gC, 0, none⟩) bs.length c1, .int .i64 (W bs (allOf n)), .slice A' k cap'] := (HP4.out.alloc _).grown hg5 (fun e => own_ne_blk HO4.out HP4.out (by decide) e.symm); have k0 : w5.cell? ⟨gp, 2, none⟩ = some (.slice A' k cap') := hp5.cell 2; have k1 := hp5.frozen 2; have HP5 := Lib.hid hp5; have HG5 := Lib.hid hg5; have HO5 := Lib.hid hown5; clear hp5 hg5 hown5 hloc5)
          go_roundw
          case rel =>
            have hro : ∀ g, (Value.slice A' k cap').ownBlock = some g → w1.heap.size ≤ g := fun g e => (HO4.out.lt g e).1
            have hs5 := HG5.out.size
            simp at hs5
            refine ⟨k + 1, A3, cap3, by omega, by go_num, HP5.out.set_ 2 _, ?_, ?_, ?_⟩
            · have h1 := own_far HO5.out (grownBy_setCell _ ⟨gp, 2, none⟩ (.slice A3 (k + 1) cap3)) (fun g e => by simp at e; subst e; exact own_ne_blk HO5.out HP5.out (by decide))
              rw [List.take_add_one, HPG.out, if_neg HC0.out]
              simpa [ints] using h1
            · have h1 := own_far (HC4.out.alloc (.cells #[.int .i64 (woW n bs k - (W bs (allOf n) - co))] 2)) HG5.out (fun g e => own_ne (HO4.out.alloc (.cells #[.int .i64 (woW n bs k - (W bs (allOf n) - co))] 2)) (HC4.out.alloc (.cells #[.int .i64 (woW n bs k - (W bs (allOf n) - co))] 2)) (by decide) e)
              exact own_far h1 (grownBy_setCell _ ⟨gp, 2, none⟩ _) (fun g e => by simp at e; subst e; exact own_ne_blk h1 HP5.out (by decide))
            · exact ((HBB4.out.alloc (by omega) _).grown HG5.out (by simp; omega) (fun g e => hro g e)).setCell (p := ⟨gp, 2, none⟩) hgp _
          case measure => simp [intOf]; omega
      · obtain rfl : k = bs.length := by omega
        have p0 := hP1.cell 0
        have p1 := hP1.cell 1
        have p2 := hP1.cell 2
        have hR := HP.out.grow hbr
        have r0 := hR.cell 0
        have r1 := hR.cell 1
        have r2 := hR.cell 2
        have rf := hR.frozen
        simp at p0 p1 p2 r0 r1 r2
        have htk : (paysC n bs).take bs.length = paysC n bs := List.take_of_length_le (by rw [paysC_length]; exact Nat.le_refl _)
        rw [htk] at hown
        have HO := Lib.hid hown
        have hq := ((hR.set_ 0 (.slice A1 bs.length c1)).set_ 1 (.int .i64 (W bs (allOf n)))).set_ 2 (.slice A' bs.length cap')
        have q0 := hq.cell 0
        have q1 := hq.cell 1
        have q2 := hq.cell 2
        simp at q0 q1 q2
        clear hX1 hP1 hown hch hbr hbw htk hq hR
        go_wp2_with fail
        refine bodyPost_ret (v := .tuple #[.agg #[.slice A1 bs.length c1, .int .i64 (W bs (allOf n)), .slice A' bs.length cap'], .int .i64 0]) (by simp [results, Try.results17, go_sem, q0, q1, q2]) rfl ⟨A1, c1, A', cap', rfl, ?_, ?_, ?_⟩
        · exact own_mono (ownsRow_setCell_below (ownsRow_setCell_below (ownsRow_setCell_below HC3.out (a := ⟨w.heap.size + 1, 0, none⟩) (by simp; omega) _) (a := ⟨w.heap.size + 1, 1, none⟩) (by simp; omega) _) (a := ⟨w.heap.size + 1, 2, none⟩) (by simp; omega) _) (by omega)
        · exact own_mono (ownsRow_setCell_below (ownsRow_setCell_below (ownsRow_setCell_below HO.out (a := ⟨w.heap.size + 1, 0, none⟩) (by simp; omega) _) (a := ⟨w.heap.size + 1, 1, none⟩) (by simp; omega) _) (a := ⟨w.heap.size + 1, 2, none⟩) (by simp; omega) _) (by omega)
        · exact ((HBW1.out.setCell (p := ⟨w.heap.size + 1, 0, none⟩) (by simp) _).setCell (p := ⟨w.heap.size + 1, 1, none⟩) (by simp) _).setCell (p := ⟨w.heap.size + 1, 2, none⟩) (by simp) _
end Go.Proofs.Ytcigobiolbojhaa.Vb

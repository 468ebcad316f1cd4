/- Joined by program: Ref17c Plain17 Ref17d Ref17e Ref17f Law1 Each1 Works Works2 Tru1 Tru2 Giv Given Stays All17 Asks CostsW PlainH PlainS. -/
import Derived.Test.YtcigobiolbojhaaGreatZc
import Derived.Deep.CutRange
import Derived.Deep.RegionWith
import Derived.Deep.RegionHeld3
import Derived.Test.YtcigobiolbojhaaGreatZb
import Derived.Test.YtcigobiolbojhaaGreatZa
/- The reference of layer 17: Costs. -/
namespace Go.Proofs.YtcigobiolbojhaaGreat.Vb
open Go.RowKit

theorem two_blk' {w w1 : World} {cs ds : Array Value} {t u : TypeId} (hb : Below ((w.alloc (.cells cs t)).alloc (.cells ds u)).heap.size ((w.alloc (.cells cs t)).alloc (.cells ds u)) w1) :
    Blk w1 w.heap.size t cs ∧ Blk w1 (w.heap.size + 1) u ds ∧ w.heap.size + 2 ≤ w1.heap.size ∧ Below w.heap.size w w1 := by
  have hb' := hb.mono (B' := w.heap.size + 2) (by simp)
  have hs := hb'.size
  simp at hs
  exact ⟨(two_blk hb').1, (two_blk hb').2, hs, (((Below.refl _ _).alloc (Nat.le_refl _) _).alloc (by simp) _).trans (hb'.mono (by omega))⟩

theorem own_alloc {w : World} {base : Nat} {e : TypeId} {sz n : Nat} {v : Value} {xs : List Value} (h : w.ownsRow base e sz v n xs) (o : Obj) : (w.alloc o).ownsRow base e sz v n xs :=
  own_grow h ((Below.refl _ _).alloc (Nat.le_refl _) o)
theorem three_own {w : World} {base : Nat} {e t : TypeId} {sz n g : Nat} {v a b c : Value} {xs : List Value} {cs : Array Value} (h : w.ownsRow base e sz v n xs) (hb : Blk w g t cs) (he : e ≠ t) :
    (((w.setCell ⟨g, 0, none⟩ a).setCell ⟨g, 1, none⟩ b).setCell ⟨g, 2, none⟩ c).ownsRow base e sz v n xs := by
  have hne := own_ne_blk h hb he
  have hr : ∀ x, some g = some x → v.ownBlock ≠ some x := fun x e => by injection e with e; subst e; exact hne
  exact own_far (own_far (own_far h (grownBy_setCell w ⟨g, 0, none⟩ a) hr) (grownBy_setCell _ ⟨g, 1, none⟩ b) hr) (grownBy_setCell _ ⟨g, 2, none⟩ c) hr

/-- what stands behind the making of the answer -/
def PaidCut (n : Int) (bs : List (List Off)) (w1 wr : World) (p : Value) : Prop := ∃ (gp : Nat) (A1 : Option Addr) (c1 : Nat), p = .pointer (some ⟨gp, 0, none⟩) ∧ w1.heap.size ≤ gp ∧
    Blk wr gp 81 #[.slice A1 bs.length c1, .int .i64 (W bs (allOf n)), .slice none 0 0] ∧ wr.ownsRow w1.heap.size 3 1 (.slice A1 bs.length c1) bs.length (ints (bestC n bs)) ∧ Below w1.heap.size w1 wr
section
variable {n : Int} {bs : List (List Off)} {w1 w2 w3 : World} {A1 : Option Addr} {c1 : Nat}
theorem paidCut_c (hown : w2.ownsRow w1.drew.heap.size 3 1 (.slice A1 bs.length c1) bs.length (ints (bestC n bs))) (hb2 : Below w1.drew.heap.size w1.drew w2) (hb3 : Below w2.heap.size w2 w3) :
    PaidCut n bs w1 (w3.alloc (.cells #[.slice A1 bs.length c1, .int .i64 (W bs (allOf n)), .slice none 0 0] 81)) (.pointer (some ⟨w3.heap.size, 0, none⟩)) := by
  have h2 : w1.heap.size ≤ w2.heap.size := by have := hb2.size; simpa using this
  have h3 := hb3.size
  exact ⟨w3.heap.size, A1, c1, rfl, by omega, Blk.new w3 _ _, own_alloc (own_grow hown hb3) _, (((Below.refl _ _).drew.trans hb2).trans (hb3.mono h2)).alloc (by simp; omega) _⟩
theorem paidCut_b (hown : w2.ownsRow w1.drew.heap.size 3 1 (.slice A1 bs.length c1) bs.length (ints (bestC n bs))) (hb2 : Below w1.drew.heap.size w1.drew w2)
    (hb3 : Below (w2.alloc (.cells #[.slice none 0 0, .int .i64 0, .slice none 0 0] 81)).heap.size (w2.alloc (.cells #[.slice none 0 0, .int .i64 0, .slice none 0 0] 81)) w3) (hp3 : Blk w3 w2.heap.size 81 #[.slice none 0 0, .int .i64 0, .slice none 0 0]) :
    PaidCut n bs w1 (((w3.setCell ⟨w2.heap.size, 0, none⟩ (.slice A1 bs.length c1)).setCell ⟨w2.heap.size, 1, none⟩ (.int .i64 (W bs (allOf n)))).setCell ⟨w2.heap.size, 2, none⟩ (.slice none 0 0)) (.pointer (some ⟨w2.heap.size, 0, none⟩)) := by
  have h2 : w1.heap.size ≤ w2.heap.size := by have := hb2.size; simpa using this
  refine ⟨w2.heap.size, A1, c1, rfl, h2, ((hp3.set_ 0 _).set_ 1 _).set_ 2 _, three_own (own_grow (own_alloc hown _) hb3) hp3 (by decide), ?_⟩
  exact ((((((Below.refl _ _).drew.trans hb2).alloc h2 _).trans (hb3.mono (by simp; omega))).setCell (p := ⟨w2.heap.size, 0, none⟩) h2 _).setCell (p := ⟨w2.heap.size, 1, none⟩) h2 _).setCell (p := ⟨w2.heap.size, 2, none⟩) h2 _
theorem paidCut_a (hown : w2.ownsRow (w1.alloc (.cells #[.slice none 0 0, .int .i64 0, .slice none 0 0] 81)).drew.heap.size 3 1 (.slice A1 bs.length c1) bs.length (ints (bestC n bs)))
    (hb2 : Below (w1.alloc (.cells #[.slice none 0 0, .int .i64 0, .slice none 0 0] 81)).drew.heap.size (w1.alloc (.cells #[.slice none 0 0, .int .i64 0, .slice none 0 0] 81)).drew w2) (hb3 : Below w2.heap.size w2 w3) (hp3 : Blk w3 w1.heap.size 81 #[.slice none 0 0, .int .i64 0, .slice none 0 0]) :
    PaidCut n bs w1 (((w3.setCell ⟨w1.heap.size, 0, none⟩ (.slice A1 bs.length c1)).setCell ⟨w1.heap.size, 1, none⟩ (.int .i64 (W bs (allOf n)))).setCell ⟨w1.heap.size, 2, none⟩ (.slice none 0 0)) (.pointer (some ⟨w1.heap.size, 0, none⟩)) := by
  have h2 : w1.heap.size + 1 ≤ w2.heap.size := by have := hb2.size; simpa using this
  refine ⟨w1.heap.size, A1, c1, rfl, Nat.le_refl _, ((hp3.set_ 0 _).set_ 1 _).set_ 2 _, own_mono (three_own (own_grow hown hb3) hp3 (by decide)) (by simp), ?_⟩
  exact ((((((Below.refl _ _).alloc (Nat.le_refl _) _).drew.trans (hb2.mono (by simp))).trans (hb3.mono (by omega))).setCell (p := ⟨w1.heap.size, 0, none⟩) (Nat.le_refl _) _).setCell (p := ⟨w1.heap.size, 1, none⟩) (Nat.le_refl _) _).setCell (p := ⟨w1.heap.size, 2, none⟩) (Nat.le_refl _) _
end

set_option maxRecDepth 100000 in
set_option maxHeartbeats 3200000 in
theorem refCosts_ok (n : Int) (bs : List (List Off)) (v : Value) (R : Nat → Prop) (w : World) (hl : Buys w R v bs) (hi : instE n bs = 0) :
    Calls Tryz.prog 38 #[.agg #[.int .i64 n, v]] w fun e w' => ∃ A1 c1 A2 c2, e = .returned (.tuple #[.agg #[.slice A1 bs.length c1, .int .i64 (W bs (allOf n)), .slice A2 bs.length c2], .int .i64 0]) ∧
      w'.ownsRow w.heap.size 3 1 (.slice A1 bs.length c1) bs.length (ints (bestC n bs)) ∧ w'.ownsRow w.heap.size 2 1 (.slice A2 bs.length c2) bs.length (ints (paysC n bs)) ∧ Below w.heap.size w w' := by
  obtain ⟨vs, ⟨_, A, cap, rfl, hnc, hcm, hcs⟩, hvs⟩ := id hl
  have hwf := hl.wf
  have HB := Lib.hid hl
  have HI := Lib.hid hi
  have HCS := Lib.hid hcs
  have HVS := Lib.hid hvs
  have HWF := Lib.hid hwf
  have hl32 := (instE_zero hi).2.2.1
  clear hl hi hcs hvs hcm hwf
  go_enter Tryz.func38, Tryz.ntmps38
  go_wp2_with (go_at_call 35; refine (refInstance_any n bs _ R _ ((HB.out.alloc _).alloc _)).mono ?_; rintro e w1 ⟨rfl, hb1⟩; rw [HI.out]; obtain ⟨hX, hP, hs1, hbw⟩ := two_blk' hb1; have x0 : w1.cell? ⟨w.heap.size, 0, none⟩ = some (.int .i64 n) := hX.cell 0; have x1 : w1.cell? ⟨w.heap.size, 1, none⟩ = some (.slice A bs.length cap) := hX.cell 1; have HX := Lib.hid hX; have HP := Lib.hid hP; have HBW := Lib.hid hbw; clear hX hP hb1 hbw)
  go_cut [5] from 16 to 20 (fun p wr => PaidCut n bs w1 wr p)
  case first =>
    have x0' := cellAlloc x0
    have x1' := cellAlloc x1
    go_region_with (first
      | (go_at_call 59; refine (refBest_any n bs _ R w1.drew (HB.out.grow HBW.out).drew HI.out).mono ?_; rintro e w2 ⟨A1, c1, rfl, hown, hb2⟩; obtain ⟨e0, e1⟩ : w2.cell? ⟨w.heap.size, 0, none⟩ = some (.int .i64 n) ∧ w2.cell? ⟨w.heap.size, 1, none⟩ = some (.slice A bs.length cap) := ⟨(hb2.cell (p := ⟨w.heap.size, 0, none⟩) (by simp; omega)).trans x0, (hb2.cell (p := ⟨w.heap.size, 1, none⟩) (by simp; omega)).trans x1⟩; have e0' := cellAlloc e0; have e1' := cellAlloc e1)
      | (go_at_call 59; refine (refBest_any n bs _ R (w1.alloc (.cells #[.slice none 0 0, .int .i64 0, .slice none 0 0] 81)).drew ((HB.out.grow HBW.out).alloc _).drew HI.out).mono ?_; rintro e w2 ⟨A1, c1, rfl, hown, hb2⟩; obtain ⟨e0, e1, hp2⟩ : w2.cell? ⟨w.heap.size, 0, none⟩ = some (.int .i64 n) ∧ w2.cell? ⟨w.heap.size, 1, none⟩ = some (.slice A bs.length cap) ∧ Blk w2 w1.heap.size 81 #[.slice none 0 0, .int .i64 0, .slice none 0 0] := ⟨(hb2.cell (p := ⟨w.heap.size, 0, none⟩) (by simp; omega)).trans (x0' _), (hb2.cell (p := ⟨w.heap.size, 1, none⟩) (by simp; omega)).trans (x1' _), (Blk.new w1 _ _).drew.grow hb2⟩)
      | (go_at_call 60; refine (refW_any n bs _ R w2 ((show Buys (w1.alloc (.cells #[.slice none 0 0, .int .i64 0, .slice none 0 0] 81)).drew R _ _ from ((HB.out.grow HBW.out).alloc _).drew).grow hb2) HI.out).mono ?_; rintro e w3 ⟨rfl, hb3⟩; have hp3 := hp2.grow hb3; obtain ⟨p0, p1, p2⟩ : w3.cell? ⟨w1.heap.size, 0, none⟩ = some (.slice none 0 0) ∧ w3.cell? ⟨w1.heap.size, 1, none⟩ = some (.int .i64 0) ∧ w3.cell? ⟨w1.heap.size, 2, none⟩ = some (.slice none 0 0) := ⟨hp3.cell 0, hp3.cell 1, hp3.cell 2⟩; have pf := hp3.frozen)
      | (go_at_call 60; refine (refW_any n bs _ R w2 ((show Buys w1.drew R _ _ from (HB.out.grow HBW.out).drew).grow hb2) HI.out).mono ?_; rintro e w3 ⟨rfl, hb3⟩)
      | (go_at_call 60; refine (refW_any n bs _ R (w2.alloc (.cells #[.slice none 0 0, .int .i64 0, .slice none 0 0] 81)) (((show Buys w1.drew R _ _ from (HB.out.grow HBW.out).drew).grow hb2).alloc _) HI.out).mono ?_; rintro e w3 ⟨rfl, hb3⟩; have hp3 := (Blk.new w2 _ _).grow hb3; obtain ⟨p0, p1, p2⟩ : w3.cell? ⟨w2.heap.size, 0, none⟩ = some (.slice none 0 0) ∧ w3.cell? ⟨w2.heap.size, 1, none⟩ = some (.int .i64 0) ∧ w3.cell? ⟨w2.heap.size, 2, none⟩ = some (.slice none 0 0) := ⟨hp3.cell 0, hp3.cell 1, hp3.cell 2⟩; have pf := hp3.frozen))
    all_goals (go_wp2_with fail; go_meet)
    all_goals first
      | exact paidCut_a hown hb2 hb3 (hp2.grow hb3)
      | exact paidCut_b hown hb2 hb3 hp3
      | exact paidCut_c hown hb2 hb3
  case rest =>
    obtain ⟨gp, A1, c1, rfl, hgp, hP0, hC0, hb0⟩ := hcut
    go_wp2_with fail
    go_loopw [6] (fun i wr => ∃ (k : Nat) (A' : Option Addr) (cap' : Nat), k ≤ bs.length ∧ i = .int .i64 k ∧ Blk wr gp 81 #[.slice A1 bs.length c1, .int .i64 (W bs (allOf n)), .slice A' k cap'] ∧
        wr.ownsRow w1.heap.size 2 1 (.slice A' k cap') k (ints ((paysC n bs).take k)) ∧ wr.ownsRow w1.heap.size 3 1 (.slice A1 bs.length c1) bs.length (ints (bestC n bs)) ∧ Below w1.heap.size w1 wr)
      (fun i _ => bs.length - (intOf i).toNat)
    case atStart => exact ⟨0, none, 0, Nat.zero_le _, rfl, hP0, World.ownsRow_nil _ _ _ _, hC0, hb0⟩
    case round =>
      obtain ⟨k, A', cap', hk, rfl, hP1, hown, hch, hbr⟩ := hrel
      have hX1 := HX.out.grow hbr
      have hbw := HBW.out.trans (hbr.mono (by omega))
      have x0 : wr.cell? ⟨w.heap.size, 0, none⟩ = some (.int .i64 n) := hX1.cell 0
      have x1 : wr.cell? ⟨w.heap.size, 1, none⟩ = some (.slice A bs.length cap) := hX1.cell 1
      have hszr := hbr.size
      have HX3 := Lib.hid hX1
      have HP3 := Lib.hid hP1
      have HO3 := Lib.hid hown
      have HC3 := Lib.hid hch
      have HB1 := Lib.hid hbr
      have HBW1 := Lib.hid hbw
      have HBY := Lib.hid (HB.out.grow hbw)
      clear hP0 hC0 hb0
      by_cases hlt : k < bs.length
      · obtain ⟨c, hc⟩ : ∃ c, (bestC n bs)[k]? = some c := ⟨_, List.getElem?_eq_getElem (by rw [bestC, choose_length]; exact hlt)⟩
        have hpg := paysC_get hc
        have hlC : (bestC n bs).length = bs.length := by rw [bestC, choose_length]
        obtain ⟨gC, capC, hAC, hgC, hgC2⟩ := World.ownsRow.form hch (by omega)
        injection hAC with hAC _ hcC
        subst hAC hcC
        have hgood := choose_get bs (allOf n) k c hc
        obtain ⟨hw0, hw1⟩ := woW_bd HWF.out HI.out k
        have hok := (okb_of HWF.out HI.out).1
        have hW0 := W_nonneg bs (allOf n)
        have hW1 : W bs (allOf n) ≤ 35184372088832 := by simpa using hok.W_le 0 (allOf n)
        have hcoin : 0 ≤ coinAt bs k c ∧ coinAt bs k c ≤ 1099511627776 := by
          rcases hgood with rfl | ⟨j, l, o, rfl, h1, h2⟩
          · rw [coinAt_neg (by decide)]; omega
          · rw [coinAt_some h1 h2]
            obtain ⟨_, _, h3, h4⟩ := hok.offer h1 h2
            omega
        have hpay : payAt n bs k c = if c < 0 then 0 else woW n bs k - (W bs (allOf n) - coinAt bs k c) := by
          unfold payAt
          split
          · rfl
          · omega
        rw [hpay] at hpg
        generalize hgc : coinAt bs k c = co at *
        have hsub1 : IntKind.i64.wrap (W bs (allOf n) - co) = W bs (allOf n) - co := IntWalk.i64_in _ (by omega)
        have hsub2 : IntKind.i64.wrap (woW n bs k - (W bs (allOf n) - co)) = woW n bs k - (W bs (allOf n) - co) := IntWalk.i64_in _ (by omega)
        have hcell : ∀ W' : World, Below wr.heap.size wr W' → W'.cell? ⟨w.heap.size, 0, none⟩ = some (.int .i64 n) ∧ W'.cell? ⟨w.heap.size, 1, none⟩ = some (.slice A bs.length cap) ∧ W'.cell? ⟨gp, 1, none⟩ = some (.int .i64 (W bs (allOf n))) ∧
            W'.cell? ⟨gp, 0, none⟩ = some (.slice (some ⟨gC, 0, none⟩) bs.length c1) ∧ W'.cell? ⟨gC, k, none⟩ = some (.int .i64 c) ∧ W'.cell? ⟨gp, 2, none⟩ = some (.slice A' k cap') := fun W' hb => by
          refine ⟨(hX1.grow hb).cell 0, (hX1.grow hb).cell 1, (hP1.grow hb).cell 1, (hP1.grow hb).cell 0, ?_, (hP1.grow hb).cell 2⟩
          rw [(own_grow hch hb).cellAt k (by omega)]
          simp [ints, hc]
        have HSL : Hid (∀ W' : World, Below wr.heap.size wr W' → Sl W' (fun _ => True) (.slice (some ⟨gC, 0, none⟩) bs.length c1) (bestC n bs).length 1 (ints (bestC n bs))) := fun W' hb => by
          rw [hlC]
          exact (Sl.of_own (own_grow hch hb)).mono fun _ _ _ => trivial
        have HCELL := Lib.hid hcell
        have HPG := Lib.hid hpg
        have HC := Lib.hid hc
        have HGOOD := Lib.hid hgood
        have HGC := Lib.hid hgc
        clear hX1 hP1 hown hch hbr hbw hc hpg hgood hgc hcell hpay hlC
        go_wp2_with (go_at_call 61; refine (refWithout_any n bs (k : Nat) _ R _ HBY.out).mono ?_; rintro e w3 ⟨rfl, hb3⟩; obtain ⟨y0, y1, y2, y3, y4, y5⟩ := HCELL.out w3 hb3; have HB3 := Lib.hid hb3; clear hb3)
        go_region_held3 (fun w' => w'.cell? ⟨gp, 1, none⟩ = some (.int .i64 (W bs (allOf n))) ∧ w'.cell? ⟨w.heap.size, 0, none⟩ = some (.int .i64 n) ∧ w'.cell? ⟨w.heap.size, 1, none⟩ = some (.slice A bs.length cap) ∧ w'.cell? ⟨gp, 0, none⟩ = some (.slice (some ⟨gC, 0, none⟩) bs.length c1)) (go_keep)
          ((go_at_call 62; refine (refWon_any n bs (bestC n bs) _ _ R _ k c _ _ (HBY.out.grow HB3.out).drew (HSL.out w3 HB3.out).drew HC.out rfl HGOOD.out).mono ?_; rintro e w4 ⟨rfl, hb4⟩; rw [HGC.out]; have hb34 := HB3.out.trans ((Below.refl _ _).drew.trans (hb4.mono (by have := HB3.out.size; simpa using this))); obtain ⟨z0, z1, z2, z3, z4, z5⟩ := HCELL.out w4 (hb34.mono (Nat.le_refl _)); have HB4 := Lib.hid hb34; clear hb4 hb34))
        have HP4 := Lib.hid (HP3.out.grow HB4.out)
        have HO4 := Lib.hid (own_grow HO3.out HB4.out)
        have HC4 := Lib.hid (own_grow HC3.out HB4.out)
        have HBB4 := Lib.hid (HB1.out.trans (HB4.out.mono hszr))
        have hsz4 : wr.heap.size ≤ w4.heap.size := HB4.out.size
        clear y0 y1 y2 y3 y4 y5 x0 x1
        by_cases hc0 : c < 0
        · have HC0 := Lib.hid hc0
          have g2a := cellAlloc z5 (.cells #[.int .i64 0] 2)
          go_wp2_with (at_builtin; refine wpList_app _ rfl (.tmp 51) (.tmp 53) et_i64 rfl w1.heap.size (.slice A' k cap') k (ints ((paysC n bs).take k)) rfl (HO4.out.alloc _) _ _ 1 _ rfl (Sl.new w4 #[.int .i64 0] _ 1 1 (by unfold maxLen; omega) rfl) (by simp [Value.oneCell']) (by omega) (by unfold maxLen; omega) (by simp; omega) ?_; intro A3 cap3 w5 hown5 hg5 hloc5; have hp5 : Blk w5 gp 81 #[.slice (some ⟨gC, 0, none⟩) bs.length c1, .int .i64 (W bs (allOf n)), .slice A' k cap'] := (HP4.out.alloc _).grown hg5 (fun e => own_ne_blk HO4.out HP4.out (by decide) e.symm); have k0 : w5.cell? ⟨gp, 2, none⟩ = some (.slice A' k cap') := hp5.cell 2; have k1 := hp5.frozen 2; have HP5 := Lib.hid hp5; have HG5 := Lib.hid hg5; have HO5 := Lib.hid hown5; clear hp5 hg5 hown5 hloc5)
          go_roundw
          case rel =>
            have hro : ∀ g, (Value.slice A' k cap').ownBlock = some g → w1.heap.size ≤ g := fun g e => (HO4.out.lt g e).1
            have hs5 := HG5.out.size
            simp at hs5
            refine ⟨k + 1, A3, cap3, by omega, by go_num, HP5.out.set_ 2 _, ?_, ?_, ?_⟩
            · have h1 := own_far HO5.out (grownBy_setCell _ ⟨gp, 2, none⟩ (.slice A3 (k + 1) cap3)) (fun g e => by simp at e; subst e; exact own_ne_blk HO5.out HP5.out (by decide))
              rw [List.take_add_one, HPG.out, if_pos HC0.out]
              simpa [ints] using h1
            · have h1 := own_far (HC4.out.alloc (.cells #[.int .i64 0] 2)) HG5.out (fun g e => own_ne (HO4.out.alloc (.cells #[.int .i64 0] 2)) (HC4.out.alloc (.cells #[.int .i64 0] 2)) (by decide) e)
              exact own_far h1 (grownBy_setCell _ ⟨gp, 2, none⟩ _) (fun g e => by simp at e; subst e; exact own_ne_blk h1 HP5.out (by decide))
            · exact ((HBB4.out.alloc (by omega) _).grown HG5.out (by simp; omega) (fun g e => hro g e)).setCell (p := ⟨gp, 2, none⟩) hgp _
          case measure => simp [intOf]; omega
        · have HC0 := Lib.hid hc0
          have g2a := cellAlloc z5 (.cells #[.int .i64 (woW n bs k - (W bs (allOf n) - co))] 2)
          go_wp2_with (at_builtin; refine wpList_app _ rfl (.tmp 51) (.tmp 53) et_i64 rfl w1.heap.size (.slice A' k cap') k (ints ((paysC n bs).take k)) rfl (HO4.out.alloc _) _ _ 1 _ rfl (Sl.new w4 #[.int .i64 (woW n bs k - (W bs (allOf n) - co))] _ 1 1 (by unfold maxLen; omega) rfl) (by simp [Value.oneCell']) (by omega) (by unfold maxLen; omega) (by simp; omega) ?_; intro A3 cap3 w5 hown5 hg5 hloc5; have hp5 : Blk w5 gp 81 #[.slice (some ⟨gC, 0, none⟩) bs.length c1, .int .i64 (W bs (allOf n)), .slice A' k cap'] := (HP4.out.alloc _).grown hg5 (fun e => own_ne_blk HO4.out HP4.out (by decide) e.symm); have k0 : w5.cell? ⟨gp, 2, none⟩ = some (.slice A' k cap') := hp5.cell 2; have k1 := hp5.frozen 2; have HP5 := Lib.hid hp5; have HG5 := Lib.hid hg5; have HO5 := Lib.hid hown5; clear hp5 hg5 hown5 hloc5)
          go_roundw
          case rel =>
            have hro : ∀ g, (Value.slice A' k cap').ownBlock = some g → w1.heap.size ≤ g := fun g e => (HO4.out.lt g e).1
            have hs5 := HG5.out.size
            simp at hs5
            refine ⟨k + 1, A3, cap3, by omega, by go_num, HP5.out.set_ 2 _, ?_, ?_, ?_⟩
            · have h1 := own_far HO5.out (grownBy_setCell _ ⟨gp, 2, none⟩ (.slice A3 (k + 1) cap3)) (fun g e => by simp at e; subst e; exact own_ne_blk HO5.out HP5.out (by decide))
              rw [List.take_add_one, HPG.out, if_neg HC0.out]
              simpa [ints] using h1
            · have h1 := own_far (HC4.out.alloc (.cells #[.int .i64 (woW n bs k - (W bs (allOf n) - co))] 2)) HG5.out (fun g e => own_ne (HO4.out.alloc (.cells #[.int .i64 (woW n bs k - (W bs (allOf n) - co))] 2)) (HC4.out.alloc (.cells #[.int .i64 (woW n bs k - (W bs (allOf n) - co))] 2)) (by decide) e)
              exact own_far h1 (grownBy_setCell _ ⟨gp, 2, none⟩ _) (fun g e => by simp at e; subst e; exact own_ne_blk h1 HP5.out (by decide))
            · exact ((HBB4.out.alloc (by omega) _).grown HG5.out (by simp; omega) (fun g e => hro g e)).setCell (p := ⟨gp, 2, none⟩) hgp _
          case measure => simp [intOf]; omega
      · obtain rfl : k = bs.length := by omega
        have p0 := hP1.cell 0
        have p1 := hP1.cell 1
        have p2 := hP1.cell 2
        have hR := HP.out.grow hbr
        have r0 := hR.cell 0
        have r1 := hR.cell 1
        have r2 := hR.cell 2
        have rf := hR.frozen
        simp at p0 p1 p2 r0 r1 r2
        have htk : (paysC n bs).take bs.length = paysC n bs := List.take_of_length_le (by rw [paysC_length]; exact Nat.le_refl _)
        rw [htk] at hown
        have HO := Lib.hid hown
        have hq := ((hR.set_ 0 (.slice A1 bs.length c1)).set_ 1 (.int .i64 (W bs (allOf n)))).set_ 2 (.slice A' bs.length cap')
        have q0 := hq.cell 0
        have q1 := hq.cell 1
        have q2 := hq.cell 2
        simp at q0 q1 q2
        clear hX1 hP1 hown hch hbr hbw htk hq hR
        go_wp2_with fail
        refine bodyPost_ret (v := .tuple #[.agg #[.slice A1 bs.length c1, .int .i64 (W bs (allOf n)), .slice A' bs.length cap'], .int .i64 0]) (by simp [results, Tryz.results38, go_sem, q0, q1, q2]) rfl ⟨A1, c1, A', cap', rfl, ?_, ?_, ?_⟩
        · exact own_mono (ownsRow_setCell_below (ownsRow_setCell_below (ownsRow_setCell_below HC3.out (a := ⟨w.heap.size + 1, 0, none⟩) (by simp; omega) _) (a := ⟨w.heap.size + 1, 1, none⟩) (by simp; omega) _) (a := ⟨w.heap.size + 1, 2, none⟩) (by simp; omega) _) (by omega)
        · exact own_mono (ownsRow_setCell_below (ownsRow_setCell_below (ownsRow_setCell_below HO.out (a := ⟨w.heap.size + 1, 0, none⟩) (by simp; omega) _) (a := ⟨w.heap.size + 1, 1, none⟩) (by simp; omega) _) (a := ⟨w.heap.size + 1, 2, none⟩) (by simp; omega) _) (by omega)
        · exact ((HBW1.out.setCell (p := ⟨w.heap.size + 1, 0, none⟩) (by simp) _).setCell (p := ⟨w.heap.size + 1, 1, none⟩) (by simp) _).setCell (p := ⟨w.heap.size + 1, 2, none⟩) (by simp) _
end Go.Proofs.YtcigobiolbojhaaGreat.Vb

/- Plain: who wins nothing is not missed. -/
namespace Go.Proofs.YtcigobiolbojhaaGreat.Vb
open Go.RowKit

theorem stepO_mono {g g' : Nat → Int} (f : Nat) {b b' : Int} (o : Off) (hg : ∀ x, g x ≤ g' x) (hb : b ≤ b') : stepO g f b o ≤ stepO g' f b' o := by
  unfold stepO
  split
  · have := hg (andNot f o.g); omega
  · exact hb
theorem fold_mono {g g' : Nat → Int} (f : Nat) (hg : ∀ x, g x ≤ g' x) : ∀ (l : List Off) {b b' : Int}, b ≤ b' → l.foldl (stepO g f) b ≤ l.foldl (stepO g' f) b'
  | [], _, _, h => h
  | o :: l, _, _, h => fold_mono f hg l (stepO_mono f o hg h)
theorem fold_mem {g : Nat → Int} {f : Nat} : ∀ (l : List Off) (b : Int) (o : Off), o ∈ l → andNot o.g f = 0 → o.c + g (andNot f o.g) ≤ l.foldl (stepO g f) b
  | x :: l, b, o, ho, hf => by
    rcases List.mem_cons.1 ho with rfl | ho
    · refine Int.le_trans ?_ (fold_ge g f l _)
      unfold stepO
      rw [if_pos hf]
      omega
    · exact fold_mem l _ o ho hf
theorem fold_att {g : Nat → Int} {f : Nat} : ∀ (l : List Off) (b : Int), l.foldl (stepO g f) b = b ∨ ∃ o ∈ l, andNot o.g f = 0 ∧ o.c + g (andNot f o.g) = l.foldl (stepO g f) b
  | [], b => .inl rfl
  | x :: l, b => by
    rcases fold_att l (stepO g f b x) with h | ⟨o, ho, hf, he⟩
    · by_cases hf : andNot x.g f = 0
      · by_cases hle : x.c + g (andNot f x.g) ≤ b
        · left
          rw [List.foldl_cons, h]
          unfold stepO
          rw [if_pos hf]
          omega
        · right
          refine ⟨x, by simp, hf, ?_⟩
          rw [List.foldl_cons, h]
          unfold stepO
          rw [if_pos hf]
          omega
      · left
        rw [List.foldl_cons, h]
        unfold stepO
        rw [if_neg hf]
    · exact .inr ⟨o, by simp [ho], hf, by rw [List.foldl_cons]; exact he⟩

theorem W_set_le : ∀ (bs : List (List Off)) (k f : Nat), W (bs.set k []) f ≤ W bs f
  | [], k, f => by simp
  | l :: bs, 0, f => by
    simp only [List.set_cons_zero, W, List.foldl_nil]
    exact fold_ge _ _ _ _
  | l :: bs, k + 1, f => by
    simp only [List.set_cons_succ, W]
    exact fold_mono f (fun x => W_set_le bs k x) l (W_set_le bs k f)

/-- nobody's offer reaches what is had: then it is had without the buyer -/
theorem pick_none_W {bs : List (List Off)} {l : List Off} {f : Nat} (h : pickAt (W bs) f (W (l :: bs) f) l = none) : W (l :: bs) f = W bs f := by
  have hno : ∀ o ∈ l, pickB (W bs) f (W (l :: bs) f) o = false := by
    generalize W (l :: bs) f = left at h
    induction l with
    | nil => simp
    | cons x l ih =>
      simp only [pickAt] at h
      split at h
      · cases h
      · rename_i hx
        intro o ho
        rcases List.mem_cons.1 ho with rfl | ho
        · simpa using hx
        · exact ih (by simpa using h) o ho
  rcases fold_att (g := W bs) (f := f) l (W bs f) with h1 | ⟨o, ho, hf, he⟩
  · exact h1
  · exfalso
    have := hno o ho
    simp only [pickB, Bool.and_eq_false_iff, decide_eq_false_iff_not] at this
    rcases this with h2 | h2
    · exact h2 hf
    · exact h2 he
theorem pickAt_att {g : Nat → Int} {f : Nat} {left : Int} : ∀ {l : List Off} {j x : Nat}, pickAt g f left l = some (j, x) → ∃ o ∈ l, o.g = x ∧ andNot o.g f = 0 ∧ o.c + g (andNot f o.g) = left
  | o :: l, j, x, h => by
    simp only [pickAt] at h
    split at h
    · rename_i hb
      simp only [Option.some.injEq, Prod.mk.injEq] at h
      simp only [pickB, Bool.and_eq_true, decide_eq_true_eq] at hb
      exact ⟨o, by simp, h.2, hb.1, hb.2⟩
    · cases hp : pickAt g f left l with
      | none => rw [hp] at h; cases h
      | some p =>
        rw [hp] at h
        simp only [Option.map_some, Option.some.injEq, Prod.mk.injEq] at h
        obtain ⟨o', h1, h2⟩ := pickAt_att (j := p.1) (x := p.2) hp
        exact ⟨o', by simp [h1], by rw [← h.2]; exact h2⟩
theorem W_loser : ∀ (bs : List (List Off)) (k f : Nat), (choose bs f)[k]? = some (-1) → W bs f ≤ W (bs.set k []) f
  | [], k, f, h => by simp [choose] at h
  | l :: bs, 0, f, h => by
    simp only [choose, List.getElem?_cons_zero, Option.some.injEq] at h
    unfold pickN at h
    cases hp : pickAt (W bs) f (W (l :: bs) f) l with
    | none => simp only [List.set_cons_zero]; rw [pick_none_W hp]; exact Int.le_refl _
    | some p => rw [hp] at h; simp only at h; omega
  | l :: bs, k + 1, f, h => by
    simp only [choose, List.getElem?_cons_succ] at h
    have ih := W_loser bs k _ h
    simp only [List.set_cons_succ]
    unfold pickN at ih
    cases hp : pickAt (W bs) f (W (l :: bs) f) l with
    | none =>
      rw [hp] at ih
      rw [pick_none_W hp]
      exact Int.le_trans ih (fold_ge _ _ _ _)
    | some p =>
      obtain ⟨j, x⟩ := p
      rw [hp] at ih
      obtain ⟨o, ho, rfl, hf, he⟩ := pickAt_att hp
      rw [← he]
      refine Int.le_trans (Int.add_le_add_left ih _) ?_
      exact fold_mem l _ o ho hf

theorem instE_withE {n : Int} {bs : List (List Off)} {k : Nat} (h : instE n bs = 0) (hk : k < bs.length) : withE n bs (k : Int) [] = 0 := by
  unfold withE
  rw [if_neg (by simpa using h), if_neg (by omega)]
  obtain ⟨h1, h2, _⟩ := instE_zero h
  unfold checkE
  rw [if_neg (by omega)]
  simp [badAt]
/-- what a buyer gains, both ways -/
theorem won_gain {n : Int} {bs : List (List Off)} {k : Nat} {c : Int} (hi : instE n bs = 0) (hk : k < bs.length) (hc : (bestC n bs)[k]? = some c) :
    coinAt bs k c - payAt n bs k c = gainAt n bs k := by
  unfold gainAt payAt
  by_cases h0 : c < 0
  · rw [if_pos h0, coinAt_neg h0]
    obtain rfl : c = -1 := by rcases choose_get _ _ _ _ hc with h | ⟨j, l, o, rfl, _⟩ <;> omega
    have h1 := W_loser bs k _ hc
    have h2 := W_set_le bs k (allOf n)
    unfold woW
    rw [if_pos (instE_withE hi hk), Int.toNat_natCast]
    omega
  · rw [if_neg h0]
    omega
end Go.Proofs.YtcigobiolbojhaaGreat.Vb

/- The reference of layer 17: Costs refused; SamePaid; Pivotal. -/
namespace Go.Proofs.YtcigobiolbojhaaGreat.Vb
open Go.RowKit

set_option maxHeartbeats 800000 in
theorem refCosts_err (n : Int) (bs : List (List Off)) (v : Value) (R : Nat → Prop) (w : World) (hl : Buys w R v bs) (hi : instE n bs ≠ 0) :
    Calls Tryz.prog 38 #[.agg #[.int .i64 n, v]] w fun e w' => e = .returned (.tuple #[.agg #[.slice none 0 0, .int .i64 0, .slice none 0 0], .int .i64 (instE n bs)]) ∧ Below w.heap.size w w' := by
  obtain ⟨vs, ⟨_, A, cap, rfl, _⟩, _⟩ := id hl
  have HB := Lib.hid hl
  have hcb : (instE n bs != 0) = true := by simpa using hi
  have HI := Lib.hid hi
  clear hl hi
  go_enter Tryz.func38, Tryz.ntmps38
  go_wp2_with (go_at_call 35; refine (refInstance_any n bs _ R _ ((HB.out.alloc _).alloc _)).mono ?_; rintro e w1 ⟨rfl, hb1⟩; obtain ⟨hX, hP, hs1, hbw⟩ := two_blk' hb1; obtain ⟨r0, r1, r2⟩ : w1.cell? ⟨w.heap.size + 1, 0, none⟩ = some (.slice none 0 0) ∧ w1.cell? ⟨w.heap.size + 1, 1, none⟩ = some (.int .i64 0) ∧ w1.cell? ⟨w.heap.size + 1, 2, none⟩ = some (.slice none 0 0) := ⟨hP.cell 0, hP.cell 1, hP.cell 2⟩; have rf := hP.frozen; have HP := Lib.hid hP; have HBW := Lib.hid hbw; clear hX hP hb1 hbw)
  have hq := ((HP.out.set_ 0 (.slice none 0 0)).set_ 1 (.int .i64 0)).set_ 2 (.slice none 0 0)
  have q0 := hq.cell 0
  have q1 := hq.cell 1
  have q2 := hq.cell 2
  simp at q0 q1 q2
  refine bodyPost_ret (v := .tuple #[.agg #[.slice none 0 0, .int .i64 0, .slice none 0 0], .int .i64 (instE n bs)]) (by simp [results, Tryz.results38, go_sem, q0, q1, q2]) rfl ⟨rfl, ?_⟩
  exact ((HBW.out.setCell (p := ⟨w.heap.size + 1, 0, none⟩) (by simp) _).setCell (p := ⟨w.heap.size + 1, 1, none⟩) (by simp) _).setCell (p := ⟨w.heap.size + 1, 2, none⟩) (by simp) _

theorem ints_get {cs : List Int} {k : Nat} {c : Int} (h : cs[k]? = some c) : (ints cs)[k]? = some (.int .i64 c) := by simp [ints, h]

end Go.Proofs.YtcigobiolbojhaaGreat.Vb

/- The reference of layer 17: Pivotal, Gains. -/
namespace Go.Proofs.YtcigobiolbojhaaGreat.Vb
open Go.RowKit

end Go.Proofs.YtcigobiolbojhaaGreat.Vb

/- The reference of layer 17: Gains. -/
namespace Go.Proofs.YtcigobiolbojhaaGreat.Vb
open Go.RowKit

/-- append at a step of a region that draws its order -/
theorem step_app {P : Program} (w : World) {ops : Array Oper} {o : Oper} {a : Act} {K : Act → World → Prop} {Q : Exit → Act → World → Prop} {E0 : Prop} (hgd : o.guard = none) (s x : Operand) {t e : TypeId} {sz bytes : Nat} (E : ElemT P t e sz bytes)
    (ho : o.op = .call { callee := .builtin .append, args := #[s, x], argTypes := #[t, t] })
    (base : Nat) (v : Value) (n : Nat) (xs : List Value) (hs : a.eval s = v) (hown : w.ownsRow base e sz v n xs)
    (R : Nat → Prop) (v2 : Value) (m : Nat) (news : List Value) (hx : a.eval x = v2) (hr : Sl w R v2 m sz news) (h1 : ∀ u ∈ news, u.oneCell' = true)
    (hbytes : (n + m) * bytes ≤ 140737488355328) (h63 : n + m ≤ maxLen) (hbase : base ≤ w.heap.size)
    (h : ∀ A' cap' w', w'.ownsRow base e sz (.slice A' (n + m) cap') (n + m) (xs ++ news) → w.grownBy w' v.ownBlock → ((Value.slice A' (n + m) cap').ownBlock = v.ownBlock ∨ (Value.slice A' (n + m) cap').ownBlock = some w.heap.size) → K (a.put o.dst (.slice A' (n + m) cap')) w') :
    if Region.wanted o (yielded ops a.tmps) = true then Oper.wp P o a w K Q else E0 := by
  have hw : Region.wanted o (yielded ops a.tmps) = true := by simp [Region.wanted, hgd]
  rw [if_pos hw]
  exact wp_app w s x E ho base v n xs hs hown R v2 m news hx hr h1 hbytes h63 hbase h

theorem gainsC_length (n : Int) (bs : List (List Off)) : (gainsC n bs).length = bs.length := by simp [gainsC]

end Go.Proofs.YtcigobiolbojhaaGreat.Vb

/- Law 17's own: num, great, Income. -/
namespace Go.Proofs.YtcigobiolbojhaaGreat.Vb
open Go.RowKit

def greatB (bs : List (List Off)) : Bool := bs.any (fun l => decide (40 < l.length)) || decide (40 < bs.length)
theorem greatB_of {bs : List (List Off)} {k : Nat} {l : List Off} (h : bs[k]? = some l) (hl : 40 < l.length) : greatB bs = true := by
  unfold greatB
  rw [List.any_eq_true.2 ⟨l, List.mem_of_getElem? h, by simpa using hl⟩]
  rfl
theorem greatB_none {bs : List (List Off)} (h : ∀ j l, j < bs.length → bs[j]? = some l → ¬ 40 < l.length) : greatB bs = decide (40 < bs.length) := by
  unfold greatB
  have : bs.any (fun l => decide (40 < l.length)) = false := by
    rw [List.any_eq_false]
    intro l hl
    obtain ⟨j, hj, rfl⟩ := List.getElem_of_mem hl
    simpa using h j _ hj (List.getElem?_eq_getElem hj)
  rw [this]
  rfl

def sumI : List Int → Int
  | [] => 0
  | x :: l => x + sumI l
theorem sumI_app : ∀ (a b : List Int), sumI (a ++ b) = sumI a + sumI b
  | [], b => by simp [sumI]
  | x :: a, b => by simp only [List.cons_append, sumI, sumI_app a b]; omega
theorem sumI_take {ps : List Int} {k : Nat} {c : Int} (h : ps[k]? = some c) : sumI (ps.take (k + 1)) = sumI (ps.take k) + c := by
  rw [List.take_add_one, h, sumI_app]
  simp [sumI]
theorem sumI_bd {M : Int} : ∀ (l : List Int), (∀ x ∈ l, -M ≤ x ∧ x ≤ M) → -(l.length * M) ≤ sumI l ∧ sumI l ≤ l.length * M
  | [], _ => by simp [sumI]
  | x :: l, h => by
    have h1 := h x (by simp)
    have h2 := sumI_bd l (fun y hy => h y (by simp [hy]))
    simp only [sumI, List.length_cons]
    have : ((l.length + 1 : Nat) : Int) * M = l.length * M + M := by rw [Int.natCast_add, Int.add_mul]; simp
    rw [this]
    omega

end Go.Proofs.YtcigobiolbojhaaGreat.Vb

/- vcg.Each: what it tells (the going over itself apart). -/
namespace Go.Proofs.YtcigobiolbojhaaGreat.Vb
open Go.RowKit

theorem ints_one (cs : List Int) : ∀ u ∈ ints cs, u.oneCell' = true := by
  intro u hu
  simp [ints] at hu
  obtain ⟨x, _, rfl⟩ := hu
  rfl

/-- where the iterator's two variables lie, and what they hold -/
structure EachAt (w : World) (lo pb pp : Nat) (n : Int) (bs : List (List Off)) : Prop where
  at_ : ∃ A1 c1 A2 c2 A3 c3, Blk w pb 81 #[.slice A1 bs.length c1, .int .i64 (W bs (allOf n)), .slice A2 bs.length c2] ∧ Blk w pp 37 #[.slice A3 bs.length c3] ∧
    w.ownsRow lo 3 1 (.slice A1 bs.length c1) bs.length (ints (bestC n bs)) ∧ w.ownsRow lo 2 1 (.slice A3 bs.length c3) bs.length (ints (paysC n bs))

theorem EachAt.grow {w w' : World} {lo pb pp : Nat} {n : Int} {bs : List (List Off)} (h : EachAt w lo pb pp n bs) (hb : Below w.heap.size w w') : EachAt w' lo pb pp n bs := by
  obtain ⟨A1, c1, A2, c2, A3, c3, h1, h2, h3, h4⟩ := h.at_
  exact ⟨A1, c1, A2, c2, A3, c3, h1.grow hb, h2.grow hb, own_grow h3 hb, own_grow h4 hb⟩

end Go.Proofs.YtcigobiolbojhaaGreat.Vb

/- Law 17's own: three, works. -/
namespace Go.Proofs.YtcigobiolbojhaaGreat.Vb
open Go.RowKit

def bs3 : List (List Off) := [[⟨1, 6⟩, ⟨3, 9⟩], [⟨2, 5⟩], [⟨3, 10⟩]]

theorem Sl.blk {w : World} {g n cap sz : Nat} {t : TypeId} {cs : Array Value} (h : Blk w g t cs) (h1 : n ≤ cap) (h2 : cap ≤ maxLen) (h3 : cs.size = n * sz) : Sl w (fun _ => True) (.slice (some ⟨g, 0, none⟩) n cap) n sz cs.toList :=
  ⟨by simpa using h3, some ⟨g, 0, none⟩, cap, rfl, h1, h2, fun _ => ⟨g, 0, rfl, trivial, h.lt, fun j u hj => by
    rw [show 0 + j = j from by omega]
    exact (h.cell j).trans (by simpa using hj)⟩⟩

theorem three_buys {w : World} {g g1 g2 g3 : Nat} {t u : TypeId} (h1 : Blk w g1 t #[.int .u32 1, .int .i64 6, .int .u32 3, .int .i64 9]) (h2 : Blk w g2 t #[.int .u32 2, .int .i64 5]) (h3 : Blk w g3 t #[.int .u32 3, .int .i64 10])
    (h : Blk w g u #[.slice (some ⟨g1, 0, none⟩) 2 2, .slice (some ⟨g2, 0, none⟩) 1 1, .slice (some ⟨g3, 0, none⟩) 1 1]) : Buys w (fun _ => True) (.slice (some ⟨g, 0, none⟩) 3 3) bs3 := by
  refine ⟨_, Sl.blk (sz := 1) h (by omega) (by unfold maxLen; omega) rfl, fun k l hk => ?_⟩
  rcases k with _ | _ | _ | k
  · obtain rfl : [⟨1, 6⟩, ⟨3, 9⟩] = l := by simpa [bs3] using hk
    exact ⟨_, rfl, Sl.blk (sz := 2) h1 (by omega) (by unfold maxLen; omega) rfl, fun o ho => by simp at ho; rcases ho with rfl | rfl <;> simp [Off.wf]⟩
  · obtain rfl : [⟨2, 5⟩] = l := by simpa [bs3] using hk
    exact ⟨_, rfl, Sl.blk (sz := 2) h2 (by omega) (by unfold maxLen; omega) rfl, fun o ho => by simp at ho; subst ho; simp [Off.wf]⟩
  · obtain rfl : [⟨3, 10⟩] = l := by simpa [bs3] using hk
    exact ⟨_, rfl, Sl.blk (sz := 2) h3 (by omega) (by unfold maxLen; omega) rfl, fun o ho => by simp at ho; subst ho; simp [Off.wf]⟩
  · simp [bs3] at hk

theorem Blk.new' {w : World} {g : Nat} (t : TypeId) (cs : Array Value) (hg : w.heap.size = g) : Blk (w.alloc (.cells cs t)) g t cs := by subst hg; exact Blk.new w t cs

theorem bs3_inst : instE 2 bs3 = 0 := by decide
theorem bs3_W : W bs3 (allOf 2) = 11 := by decide
theorem bs3_pays : paysC 2 bs3 = [5, 4, 0] := by decide
theorem bs3_wo : woW 2 bs3 0 = 10 := by decide
theorem bs3_with : withE 2 bs3 0 [] = 0 := by decide
end Go.Proofs.YtcigobiolbojhaaGreat.Vb

/- Law 17's own: works. -/
namespace Go.Proofs.YtcigobiolbojhaaGreat.Vb
open Go.RowKit

theorem neq_func_nil (fn : Fn) (fi ca : Array Value) (W : World) : (binOp .neq 33 (.func fn fi ca) .nilFunc).run Tryz.prog W = .ok (.bool true) W := by kernel_rfl

end Go.Proofs.YtcigobiolbojhaaGreat.Vb

/- truth.wrong, and what it stands on; slices.Clone of bids. -/
namespace Go.Proofs.YtcigobiolbojhaaGreat.Vb
open Go.RowKit

theorem et_sec29 : ElemT Tryz.prog 59 58 2 16 := elemT_of Tryz.underlying59 (by omega) (z := .agg #[.int .i64 0, .int .i64 0]) (by kernel_rfl) rfl

set_option maxHeartbeats 400000 in
theorem clone_sec (xs : List Value) (n : Nat) (v : Value) (R : Nat → Prop) (w : World) (hl : Sl w R v n 2 xs) (h1 : ∀ u ∈ xs, u.oneCell' = true) (hb : n * 16 ≤ 140737488355328) :
    Calls Tryz.prog 45 #[v] w fun e w' => ∃ A' cap', e = .returned (.slice A' n cap') ∧ w'.ownsRow w.heap.size 58 2 (.slice A' n cap') n xs ∧ Below w.heap.size w w' := by
  obtain ⟨hlen, A, cap, rfl, hncap, hcap, hcells⟩ := id hl
  have HS := Lib.hid hl
  clear hl hcells
  have hq := fun (W : World) (a : Option Addr) => Lib.run_eql_slice_nil (P := Tryz.prog) W 59 58 a n cap 0 0 Tryz.underlying59
  cases A with
  | none =>
    have hn : n = 0 := by
      obtain ⟨_, A, c, h, _, _, hc⟩ := HS.out
      injection h with hA _ _
      subst hA
      rcases Nat.eq_zero_or_pos n with h0 | h0
      · exact h0
      · obtain ⟨b, off, h, _⟩ := hc h0
        cases h
    subst hn
    have hx : xs = [] := List.eq_nil_of_length_eq_zero (by simpa using hlen)
    subst hx
    go_enter Tryz.func45, Tryz.ntmps45
    go_wp2
    go_ret
    exact ⟨none, 0, rfl, World.ownsRow_nil _ _ _ _, Below.refl _ _⟩
  | some ad =>
    clear hlen
    go_enter Tryz.func45, Tryz.ntmps45
    go_wp2_with (at_builtin; refine wpList_app _ rfl (.tmp 5) (.tmp 6) et_sec29 rfl w.heap.size (.slice (some ⟨w.heap.size, 0, none⟩) 0 0) 0 [] rfl (World.ownsRow_lit w #[] 0 (Nat.le_refl _) (Nat.zero_le _) rfl) R _ n xs rfl (HS.out.alloc _) h1 (by omega) (by unfold maxLen; omega) (by simp) ?_; intro A' cap' w1 hown hg hloc)
    go_ret
    refine ⟨A', cap', by simp, by simpa using hown, ((Below.refl _ _).alloc (Nat.le_refl _) _).grown hg (by simp) (by simp [Value.ownBlock])⟩

/-- the first one of which p is true -/
def atF {α : Type} (p : α → Bool) : List α → Option Nat
  | [] => none
  | o :: l => if p o then some 0 else (atF p l).map (· + 1)
def atFI {α : Type} (p : α → Bool) (l : List α) : Int := match atF p l with | some k => k | none => -1
theorem atF_none {α : Type} {p : α → Bool} : ∀ l : List α, (∀ o ∈ l, p o = false) → atF p l = none
  | [], _ => rfl
  | o :: l, h => by simp [atF, h o (by simp), atF_none l (fun x hx => h x (by simp [hx]))]
theorem atF_some {α : Type} {p : α → Bool} : ∀ (l : List α) (k : Nat) (o : α), l[k]? = some o → p o = true → (∀ j x, j < k → l[j]? = some x → p x = false) → atF p l = some k
  | [], k, o, h, _, _ => by simp at h
  | x :: l, 0, o, h, hb, _ => by simp at h; subst h; simp [atF, hb]
  | x :: l, k + 1, o, h, hb, hn => by
    have h0 := hn 0 x (by omega) rfl
    have := atF_some l k o (by simpa using h) hb (fun j y hj hy => hn (j + 1) y (by omega) (by simpa using hy))
    simp [atF, h0, this]
theorem atFI_ge {α : Type} (p : α → Bool) (l : List α) : decide (0 ≤ atFI p l) = l.any p := by
  unfold atFI
  induction l with
  | nil => rfl
  | cons o l ih =>
    cases hb : p o with
    | true => simp [atF, hb]
    | false =>
      simp only [atF, hb, List.any_cons, Bool.false_or]
      rw [← ih]
      cases atF p l with
      | none => rfl
      | some k => simp; omega
theorem atF_get {α : Type} {p : α → Bool} : ∀ {l : List α} {k : Nat}, atF p l = some k → ∃ o, l[k]? = some o ∧ p o = true
  | [], k, h => by simp [atF] at h
  | x :: l, k, h => by
    simp only [atF] at h
    split at h
    · rename_i hp
      injection h with h
      subst h
      exact ⟨x, rfl, hp⟩
    · cases ha : atF p l with
      | none => rw [ha] at h; cases h
      | some j =>
        rw [ha] at h
        simp at h
        subst h
        obtain ⟨o, h1, h2⟩ := atF_get ha
        exact ⟨o, by simpa using h1, h2⟩

def notCoin (x : Int) : Bool := !coinB x
set_option maxHeartbeats 400000 in
theorem wrong1_any (x : Int) (w : World) : Calls Tryz.prog 43 #[.int .i64 x] w fun e w' => e = .returned (.bool (notCoin x)) ∧ w = w' := by
  by_cases h0 : x < 0
  · go_enter Tryz.func43, Tryz.ntmps43
    go_wp2
    go_ret
    have e : notCoin x = true := by
      simp [notCoin, coinB]
      omega
    exact ⟨by rw [e]; rfl, rfl⟩
  · go_enter Tryz.func43, Tryz.ntmps43
    go_wp2
    go_ret
    have e : notCoin x = decide (1099511627776 < x) := by
      unfold notCoin coinB
      have h1 : decide (0 ≤ x) = true := by simp; omega
      rw [h1, Bool.true_and, ← decide_not]
      congr 1
      simp
    exact ⟨by rw [e]; rfl, rfl⟩

set_option maxHeartbeats 400000 in
theorem indexCoin_any (l : List Int) (v : Value) (R : Nat → Prop) (w : World) (hl : Sl w R v l.length 1 (ints l)) :
    Calls Tryz.prog 70 #[v, .func (.func 43) #[] #[]] w fun e w' => e = .returned (.int .i64 (atFI notCoin l)) ∧ w = w' := by
  obtain ⟨_, A, cap, rfl, hncap, hcap, hcells⟩ := hl
  unfold maxLen at hcap
  have HC := Lib.hid hcells
  clear hcells
  go_enter Tryz.func70, Tryz.ntmps70
  go_wp2
  go_loopw [8] (fun i wr => ∃ k : Nat, k ≤ l.length ∧ i = .int .i64 k ∧ wr = w ∧ ∀ j x, j < k → l[j]? = some x → notCoin x = false) (fun i _ => l.length - (intOf i).toNat)
  case atStart => exact ⟨0, Nat.zero_le _, rfl, rfl, fun j x hj => by omega⟩
  case round =>
    obtain ⟨k, hk, rfl, rfl, hno⟩ := hrel
    have HN := Lib.hid hno
    clear hno
    by_cases hlt : k < l.length
    · obtain ⟨bb, off, rfl, _, hbb, hcs⟩ := HC.out (by omega)
      obtain ⟨o, ho⟩ : ∃ o, l[k]? = some o := ⟨_, List.getElem?_eq_getElem hlt⟩
      have c0 : wr.cell? ⟨bb, off + k, none⟩ = some (.int .i64 o) := hcs k _ (by rw [ints, List.getElem?_map, ho]; rfl)
      have HO := Lib.hid ho
      clear hcs ho
      cases hbad : notCoin o with
      | true =>
        have HBAD := Lib.hid hbad
        clear hbad
        go_wp2_with (go_at_call 43; refine (wrong1_any o _).mono ?_; rintro e w1 ⟨rfl, rfl⟩; rw [HBAD.out])
        go_ret
        refine ⟨ret_int ?_, rfl⟩
        unfold atFI
        rw [atF_some l k o HO.out HBAD.out HN.out]
      | false =>
        have HBAD := Lib.hid hbad
        clear hbad
        go_wp2_with (go_at_call 43; refine (wrong1_any o _).mono ?_; rintro e w1 ⟨rfl, rfl⟩; rw [HBAD.out])
        go_roundw
        case rel =>
          refine ⟨k + 1, by omega, by go_num, trivial, fun j x hj hx => ?_⟩
          by_cases hjk : j < k
          · exact HN.out j x hjk hx
          · obtain rfl : j = k := by omega
            rw [HO.out] at hx
            cases hx
            exact HBAD.out
        case measure => simp [intOf]; omega
    · go_wp2
      go_ret
      refine ⟨ret_int ?_, rfl⟩
      unfold atFI
      rw [atF_none l (fun o ho => ?_)]
      obtain ⟨j, hj, rfl⟩ := List.getElem_of_mem ho
      exact HN.out j _ (by omega) (List.getElem?_eq_getElem hj)

set_option maxHeartbeats 400000 in
theorem containsCoin_any (l : List Int) (v : Value) (R : Nat → Prop) (w : World) (hl : Sl w R v l.length 1 (ints l)) :
    Calls Tryz.prog 44 #[v, .func (.func 43) #[] #[]] w fun e w' => e = .returned (.bool (l.any notCoin)) ∧ w = w' := by
  have hg := atFI_ge notCoin l
  rw [← hg]
  clear hg
  go_enter Tryz.func44, Tryz.ntmps44
  go_wp2_with (go_at_call 70; refine (indexCoin_any l v R _ hl).mono ?_; rintro e w1 ⟨rfl, rfl⟩)
  go_ret
  exact ⟨rfl, rfl⟩

theorem sellV_form (floor : Int) (l : List Sec) : ∃ (b : Bool) (x y z : Int), sellV floor l = .agg #[.bool b, .int .i64 x, .int .i64 y, .int .i64 z] := by
  unfold sellV
  split
  · exact soldVal_form floor l
  · exact ⟨_, _, _, _, rfl⟩
theorem sellE_bd (floor : Int) (l : List Sec) : sellE floor l = 0 ∨ sellE floor l = 2 ∨ sellE floor l = 5 := by
  unfold sellE
  split
  · exact .inr (.inl rfl)
  · split
    · exact .inl rfl
    · exact .inr (.inr rfl)

def wrongE (floor : Int) (l : List Sec) (b : Int) (ns : List Int) : Int := if sellE floor l ≠ 0 then sellE floor l else if b < 0 then 2 else if ns.any notCoin = true then 2 else 0

set_option maxHeartbeats 1600000 in
theorem wrong_any (floor : Int) (l : List Sec) (b : Int) (ns : List Int) (v vn : Value) (R Rn : Nat → Prop) (w : World) (hl : Secs w R v l) (hn : Sl w Rn vn ns.length 1 (ints ns)) :
    Calls Tryz.prog 25 #[.int .i64 floor, v, .int .i64 b, vn] w fun e w' => e = .returned (.int .i64 (wrongE floor l b ns)) ∧ Below w.heap.size w w' := by
  have HL := Lib.hid hl
  have HN := Lib.hid hn
  obtain ⟨⟨_, A, cap, rfl, _⟩, _⟩ := id hl
  obtain ⟨_, A2, cap2, rfl, _⟩ := id hn
  clear hl hn
  obtain ⟨sb, sx, sy, sz, hsv⟩ := sellV_form floor l
  have hsb := sellE_bd floor l
  by_cases hE : sellE floor l = 0
  · have HE := Lib.hid hE
    have HV := Lib.hid hsv
    by_cases hb : b < 0
    · have hr : wrongE floor l b ns = 2 := by unfold wrongE; rw [if_neg (by simp [hE]), if_pos hb]
      rw [hr]
      clear hE hsv hr hsb
      go_enter Tryz.func25, Tryz.ntmps25
      go_wp2_with (go_at_call 42; refine (sell_any floor l _ R _ HL.out).mono ?_; rintro e w1 ⟨rfl, hb1⟩; rw [HE.out, HV.out]; have HB1 := Lib.hid hb1; clear hb1)
      go_ret
      exact ⟨rfl, HB1.out.alloc HB1.out.size _⟩
    · cases ha : ns.any notCoin with
      | true =>
        have hr : wrongE floor l b ns = 2 := by unfold wrongE; rw [if_neg (by simp [hE]), if_neg hb, if_pos ha]
        rw [hr]
        have HA := Lib.hid ha
        clear hE hsv hr hsb ha
        go_enter Tryz.func25, Tryz.ntmps25
        go_wp2_with (first
          | (go_at_call 42; refine (sell_any floor l _ R _ HL.out).mono ?_; rintro e w1 ⟨rfl, hb1⟩; rw [HE.out, HV.out]; have HB1 := Lib.hid hb1; clear hb1)
          | (go_at_call 44; refine (containsCoin_any ns _ Rn _ ((HN.out.grow HB1.out).alloc _)).mono ?_; rintro e w2 ⟨rfl, rfl⟩; rw [HA.out]))
        go_ret
        exact ⟨rfl, HB1.out.alloc HB1.out.size _⟩
      | false =>
        have hr : wrongE floor l b ns = 0 := by unfold wrongE; rw [if_neg (by simp [hE]), if_neg hb, if_neg (by simp [ha])]
        rw [hr]
        have HA := Lib.hid ha
        clear hE hsv hr hsb ha
        go_enter Tryz.func25, Tryz.ntmps25
        go_wp2_with (first
          | (go_at_call 42; refine (sell_any floor l _ R _ HL.out).mono ?_; rintro e w1 ⟨rfl, hb1⟩; rw [HE.out, HV.out]; have HB1 := Lib.hid hb1; clear hb1)
          | (go_at_call 44; refine (containsCoin_any ns _ Rn _ ((HN.out.grow HB1.out).alloc _)).mono ?_; rintro e w2 ⟨rfl, rfl⟩; rw [HA.out]))
        go_ret
        exact ⟨rfl, HB1.out.alloc HB1.out.size _⟩
  · have hr : wrongE floor l b ns = sellE floor l := by unfold wrongE; rw [if_pos hE]
    rw [hr]
    obtain ⟨z, hz⟩ : ∃ z, z = sellE floor l := ⟨_, rfl⟩
    rw [← hz] at hsb hE ⊢
    have hcb : (z != 0) = true := by simpa using hE
    have HE := Lib.hid hz
    have HV := Lib.hid hsv
    clear hsv hr hz
    have hzb : -9223372036854775808 ≤ z ∧ z ≤ 9223372036854775807 := by omega
    clear hsb
    go_enter Tryz.func25, Tryz.ntmps25
    go_wp2_with (go_at_call 42; refine (sell_any floor l _ R _ HL.out).mono ?_; rintro e w1 ⟨rfl, hb1⟩; rw [← HE.out, HV.out]; have HB1 := Lib.hid hb1; clear hb1)
    go_ret
    exact ⟨rfl, HB1.out.alloc HB1.out.size _⟩
end Go.Proofs.YtcigobiolbojhaaGreat.Vb

/- truth.gains, truth.Sealed. -/
namespace Go.Proofs.YtcigobiolbojhaaGreat.Vb
open Go.RowKit

def isB (b : Int) (s : Sec) : Bool := decide (s.b = b)
set_option maxHeartbeats 400000 in
theorem gains1_any (s : Sec) (b : Int) (g : Nat) (w : World) (hc : w.cell? ⟨g, 0, none⟩ = some (.int .i64 b)) :
    Calls Tryz.prog 47 #[.agg #[.int .i64 s.b, .int .i64 s.c], .pointer (some ⟨g, 0, none⟩)] w fun e w' => e = .returned (.bool (isB b s)) ∧ Below w.heap.size w w' := by
  obtain ⟨x, c⟩ := s
  have hg := World.block_lt_of_cell? w _ hc
  have c0 : (w.alloc (.cells #[.int .i64 x, .int .i64 c] 58)).cell? ⟨g, 0, none⟩ = some (.int .i64 b) := by rw [World.cell?_alloc_old _ _ _ (Nat.ne_of_lt hg)]; exact hc
  go_enter Tryz.func47, Tryz.ntmps47
  go_wp2
  go_ret
  exact ⟨rfl, (Below.refl _ _).alloc (Nat.le_refl _) _⟩

set_option maxHeartbeats 400000 in
theorem indexB_any (l : List Sec) (b : Int) (g : Nat) (v : Value) (R : Nat → Prop) (w : World) (hl : Secs w R v l) (hg : w.cell? ⟨g, 0, none⟩ = some (.int .i64 b)) :
    Calls Tryz.prog 46 #[v, .func (.func 47) #[] #[.pointer (some ⟨g, 0, none⟩)]] w fun e w' => e = .returned (.int .i64 (atFI (isB b) l)) ∧ Below w.heap.size w w' := by
  obtain ⟨⟨_, A, cap, rfl, hncap, hcap, hcells⟩, hwf⟩ := hl
  unfold maxLen at hcap
  have hlt := World.block_lt_of_cell? w _ hg
  have HC := Lib.hid hcells
  have HG := Lib.hid hg
  clear hcells hwf hg
  go_enter Tryz.func46, Tryz.ntmps46
  go_wp2
  go_loopw [8] (fun i wr => ∃ k : Nat, k ≤ l.length ∧ i = .int .i64 k ∧ Below w.heap.size w wr ∧ ∀ j x, j < k → l[j]? = some x → isB b x = false) (fun i _ => l.length - (intOf i).toNat)
  case atStart => exact ⟨0, Nat.zero_le _, rfl, Below.refl _ _, fun j x hj => by omega⟩
  case round =>
    obtain ⟨k, hk, rfl, hb, hno⟩ := hrel
    have HN := Lib.hid hno
    have HB := Lib.hid hb
    clear hno
    by_cases hltk : k < l.length
    · obtain ⟨bb, off, rfl, _, hbb, hcs⟩ := HC.out (by omega)
      obtain ⟨o, ho⟩ : ∃ o, l[k]? = some o := ⟨_, List.getElem?_eq_getElem hltk⟩
      have c0 : wr.cell? ⟨bb, off + k * 2, none⟩ = some (.int .i64 o.b) := (hb.cell hbb).trans (hcs _ _ (Sec.all_fst l k o ho))
      have c1 : wr.cell? ⟨bb, off + k * 2 + 1, none⟩ = some (.int .i64 o.c) := (hb.cell hbb).trans (hcs _ _ (Sec.all_snd l k o ho))
      have hgc : wr.cell? ⟨g, 0, none⟩ = some (.int .i64 b) := (hb.cell (p := ⟨g, 0, none⟩) hlt).trans HG.out
      have HGC := Lib.hid hgc
      have HO := Lib.hid ho
      clear hcs hb ho hgc
      cases hbad : isB b o with
      | true =>
        have HBAD := Lib.hid hbad
        clear hbad
        go_wp2_with (go_at_call 47; refine (gains1_any o b g _ HGC.out).mono ?_; rintro e w1 ⟨rfl, hb1⟩; rw [HBAD.out]; have HB1 := Lib.hid hb1; clear hb1)
        go_ret
        refine ⟨ret_int ?_, HB.out.trans (HB1.out.mono HB.out.size)⟩
        unfold atFI
        rw [atF_some l k o HO.out HBAD.out HN.out]
      | false =>
        have HBAD := Lib.hid hbad
        clear hbad
        go_wp2_with (go_at_call 47; refine (gains1_any o b g _ HGC.out).mono ?_; rintro e w1 ⟨rfl, hb1⟩; rw [HBAD.out]; have HB1 := Lib.hid hb1; clear hb1)
        go_roundw
        case rel =>
          refine ⟨k + 1, by omega, by go_num, HB.out.trans (HB1.out.mono HB.out.size), fun j x hj hx => ?_⟩
          by_cases hjk : j < k
          · exact HN.out j x hjk hx
          · obtain rfl : j = k := by omega
            rw [HO.out] at hx
            cases hx
            exact HBAD.out
        case measure => simp [intOf]; omega
    · clear hb
      go_wp2
      go_ret
      refine ⟨ret_int ?_, HB.out⟩
      unfold atFI
      rw [atF_none l (fun o ho => ?_)]
      obtain ⟨j, hj, rfl⟩ := List.getElem_of_mem ho
      exact HN.out j _ (by omega) (List.getElem?_eq_getElem hj)

/-- bids with other coins in the place of a bidder's -/
def laidS (l : List Sec) (b c : Int) : List Sec := match atF (isB b) l with | some k => l.set k ⟨b, c⟩ | none => l ++ [⟨b, c⟩]
/-- what Sell tells: sold, the winner, the price -/
def sold4 (floor : Int) (l : List Sec) : Bool × Int × Int × Int :=
  if sellE floor l = 0 then (match bestK floor (-1) l l.length with | none => (false, 0, 0, 0) | some (j, c) => (true, (l[j]?.map (·.b)).getD 0, c, nextC floor l j)) else (false, 0, 0, 0)
theorem sold4_val (floor : Int) (l : List Sec) : sellV floor l = .agg #[.bool (sold4 floor l).1, .int .i64 (sold4 floor l).2.1, .int .i64 (sold4 floor l).2.2.1, .int .i64 (sold4 floor l).2.2.2] := by
  unfold sellV sold4 soldVal
  split
  · cases bestK floor (-1) l l.length with
    | none => rfl
    | some p => rfl
  · rfl
def gainsW (floor : Int) (l : List Sec) (b worth c : Int) : Int :=
  if (sold4 floor (laidS l b c)).1 = true ∧ (sold4 floor (laidS l b c)).2.1 = b then IntKind.i64.wrap (worth - (sold4 floor (laidS l b c)).2.2.2) else 0

theorem Sec.all_set (l : List Sec) (k : Nat) (o : Sec) (c : Int) (h : l[k]? = some o) : (Sec.all l).set (k * 2 + 1) (.int .i64 c) = Sec.all (l.set k ⟨o.b, c⟩) := by
  induction l generalizing k with
  | nil => simp at h
  | cons x l ih =>
    cases k with
    | zero =>
      simp at h
      subst h
      simp [Sec.all, Sec.cells]
    | succ k =>
      have := ih k (by simpa using h)
      simp only [Sec.all, List.flatMap_cons, Sec.cells, List.set_cons_succ] at *
      rw [show (k + 1) * 2 + 1 = k * 2 + 1 + 2 from by omega]
      simpa using this

set_option maxHeartbeats 1600000 in
theorem gains_any (floor : Int) (l : List Sec) (b worth c : Int) (v : Value) (R : Nat → Prop) (w : World) (hl : Secs w R v l) (hll : l.length ≤ 1000000)
    (hb : -9223372036854775808 ≤ b ∧ b ≤ 9223372036854775807) (hc : -9223372036854775808 ≤ c ∧ c ≤ 9223372036854775807) :
    Calls Tryz.prog 26 #[.int .i64 floor, v, .int .i64 b, .int .i64 worth, .int .i64 c] w fun e w' => e = .returned (.int .i64 (gainsW floor l b worth c)) ∧ Below w.heap.size w w' := by
  have HL := Lib.hid hl
  obtain ⟨⟨_, A, cap, rfl, _⟩, hwf⟩ := id hl
  have HWF := Lib.hid hwf
  clear hl hwf
  have hsv := sold4_val floor (laidS l b c)
  obtain ⟨l', hl'⟩ : ∃ z, z = laidS l b c := ⟨_, rfl⟩
  have hgw : gainsW floor l b worth c = if (sold4 floor l').1 = true ∧ (sold4 floor l').2.1 = b then IntKind.i64.wrap (worth - (sold4 floor l').2.2.2) else 0 := by rw [hl']; rfl
  rw [← hl'] at hsv
  rw [hgw]
  obtain ⟨p, hp⟩ : ∃ z, z = sold4 floor l' := ⟨_, rfl⟩
  obtain ⟨s1, s2, s3, s4⟩ := p
  rw [← hp] at hsv ⊢
  have HV := Lib.hid hsv
  simp only at hsv ⊢
  obtain ⟨r, hr⟩ : ∃ z, z = if s1 = true ∧ s2 = b then IntKind.i64.wrap (worth - s4) else 0 := ⟨_, rfl⟩
  rw [← hr]
  have HR := Lib.hid hr
  clear hgw hp hsv hr
  cases hat : atF (isB b) l with
  | none =>
    have hi : atFI (isB b) l = -1 := by unfold atFI; rw [hat]
    have hlm : l' = l ++ [⟨b, c⟩] := by rw [hl']; unfold laidS; rw [hat]
    have HLM := Lib.hid hlm
    have HI := Lib.hid hi
    clear hat hi hlm hl'
    go_enter Tryz.func26, Tryz.ntmps26
    go_wp2_with fail
    refine (clone_sec (Sec.all l) l.length _ R _ (HL.out.alloc _).1 (Sec.all_one l) (by omega)).mono ?_
    rintro e w1 ⟨A1, c1, rfl, hown1, hb1⟩
    have hbx : Blk w1 w.heap.size 3 #[.int .i64 b] := (Blk.new w 3 #[.int .i64 b]).grow hb1
    have HBX := Lib.hid hbx
    have hown1' : w1.ownsRow (w.heap.size + 1) 58 2 (.slice A1 l.length c1) l.length (Sec.all l) := by simpa using hown1
    have HO1 := Lib.hid hown1'
    have HB1 := Lib.hid (((Below.refl _ _).alloc (Nat.le_refl _) _).trans (hb1.mono (B' := w.heap.size) (by simp)))
    clear hb1 hown1 hown1' hbx
    go_wp2_with (first
      | (go_at_call 46; refine (indexB_any l b w.heap.size _ _ _ ⟨Sl.of_own HO1.out, HWF.out⟩ (HBX.out.cell 0)).mono ?_; rintro e w2 ⟨rfl, hb2⟩; rw [HI.out]; have HO2 := Lib.hid (own_grow HO1.out hb2); have HB2 := Lib.hid (HB1.out.trans (hb2.mono HB1.out.size)); have hsz2 := hb2.size; have HBX2 := Lib.hid (HBX.out.grow hb2); have hcb : w2.cell? ⟨w.heap.size, 0, none⟩ = some (.int .i64 b) := (HBX.out.grow hb2).cell 0; have hwsz := HB1.out.size; clear hb2)
      | (at_builtin; have := HO2; go_must (refine wpList_app _ rfl (.tmp 24) (.tmp 27) et_sec29 rfl (w.heap.size + 1) (.slice A1 l.length c1) l.length (Sec.all l) rfl (own_alloc HO2.out (.cells #[.int .i64 b, .int .i64 0] 58)) _ _ 1 _ rfl (Sl.new w2 #[.int .i64 b, .int .i64 0] _ 1 2 (by unfold maxLen; omega) rfl) (by simp [Value.oneCell']) (by omega) (by unfold maxLen; omega) (by have := HBX2.out.lt; simp <;> omega) ?_); go_must (intro A3 c3 w3 hown3 hg3 hlo3; obtain ⟨g, cm, hform, hgm1, hgm2⟩ := World.ownsRow.form hown3 (by omega); injection hform with hA3 _ hc3; subst hA3 hc3; have q0 : w3.cell? ⟨g, l.length * 2 + 1, none⟩ = some (.int .i64 0) := (hown3.cellAt (l.length * 2 + 1) (by omega)).trans (by rw [List.getElem?_append_right (by rw [Sec.all_length]; omega), Sec.all_length]; simp); have q1 := hown3.frozenAt (l.length * 2 + 1); have HO3 := Lib.hid hown3; have HBX3 := Lib.hid ((HBX2.out.alloc _).grown hg3 (fun e => by have := (HO2.out.lt _ e.symm).1; omega)); have HB3 := Lib.hid ((HB2.out.alloc HB2.out.size _).grown hg3 (by have := HBX2.out.lt; simp <;> omega) (fun r e => by have := (HO2.out.lt r e).1; omega)); clear hown3 hg3 hlo3)))
    obtain ⟨h1, h2⟩ := HO3.out.stored (l.length * 2 + 1) (.int .i64 c)
    have hx : (Sec.all l ++ [Value.int .i64 b, Value.int .i64 0]).set (l.length * 2 + 1) (.int .i64 c) = Sec.all l' := by
      rw [HLM.out, Sec.all_app l (Sec.mk b 0), Sec.all_set (l ++ [Sec.mk b 0]) l.length (Sec.mk b 0) c (by simp)]
      congr 1
      simp
    have hll' : l'.length = l.length + 1 := by rw [HLM.out]; simp
    have hs4 : Secs (w3.setCell ⟨g, l.length * 2 + 1, none⟩ (.int .i64 c)) (fun b => (Value.slice (some ⟨g, 0, none⟩) (l.length + 1) c3).ownBlock = some b) (.slice (some ⟨g, 0, none⟩) (l.length + 1) c3) l' := by
      refine ⟨?_, fun o ho => ?_⟩
      · rw [hll', ← hx]
        exact Sl.of_own h1
      · rw [HLM.out] at ho
        rcases List.mem_append.1 ho with h | h
        · exact HWF.out o h
        · simp at h
          subst h
          exact ⟨hb, hc⟩
    have hbx4 : Blk (w3.setCell ⟨g, l.length * 2 + 1, none⟩ (.int .i64 c)) w.heap.size 3 #[.int .i64 b] := HBX3.out.far (by simp; omega) _
    have hb4 : Below w.heap.size w (w3.setCell ⟨g, l.length * 2 + 1, none⟩ (.int .i64 c)) := HB3.out.setCell (by simp; omega) _
    obtain ⟨W4, hW4⟩ : ∃ V, V = w3.setCell ⟨g, l.length * 2 + 1, none⟩ (.int .i64 c) := ⟨_, rfl⟩
    rw [← hW4] at hs4 hbx4 hb4 ⊢
    have HS4 := Lib.hid hs4
    have HBX4 := Lib.hid hbx4
    have HB4 := Lib.hid hb4
    clear h1 h2 hx hs4 hbx4 hb4 hW4 hcb q0 q1
    have hbx4 : Blk W4 w.heap.size 3 #[.int .i64 b] := HBX4.out
    refine (sell_any floor l' _ _ W4 HS4.out).mono ?_
    rintro e w5 ⟨rfl, hb5⟩
    rw [HV.out]
    have hbx5 := hbx4.grow hb5
    have x0 : w5.cell? ⟨w.heap.size, 0, none⟩ = some (.int .i64 b) := hbx5.cell 0
    have x1 : (w5.alloc (.cells #[.bool s1, .int .i64 s2, .int .i64 s3, .int .i64 s4] 95)).cell? ⟨w.heap.size, 0, none⟩ = some (.int .i64 b) := (hbx5.alloc _).cell 0
    have HB6 := Lib.hid ((HB4.out.trans (hb5.mono HB4.out.size)).alloc (HB4.out.trans (hb5.mono HB4.out.size)).size (.cells #[.bool s1, .int .i64 s2, .int .i64 s3, .int .i64 s4] 95))
    clear hb5 hbx4 hbx5
    cases s1 with
    | false =>
      have hr : r = 0 := by rw [HR.out]; simp
      have HRR := Lib.hid hr
      clear hr
      go_wp2_with fail
      go_ret
      exact ⟨by rw [HRR.out]; rfl, HB6.out⟩
    | true =>
      by_cases h2 : s2 = b
      · have hr : r = IntKind.i64.wrap (worth - s4) := by rw [HR.out]; simp [h2]
        have HRR := Lib.hid hr
        have hne : (s2 != b) = false := by simpa using h2
        clear hr h2
        go_wp2_with fail
        exact bodyPost_ret (v := .int .i64 (wrap64 (worth - s4))) (by simp [results, Tryz.results26, go_sem]) rfl ⟨by rw [HRR.out, IntWalk.i64_left], HB6.out⟩
      · have hr : r = 0 := by rw [HR.out]; simp [h2]
        have HRR := Lib.hid hr
        have hne : (s2 != b) = true := by simpa using h2
        clear hr h2
        go_wp2_with fail
        exact bodyPost_ret (v := .int .i64 0) (by simp [results, Tryz.results26, go_sem]) rfl ⟨by rw [HRR.out], HB6.out⟩
  | some k =>
    obtain ⟨o, ho, hob⟩ := atF_get hat
    have hob' : o.b = b := by simpa [isB] using hob
    have hi : atFI (isB b) l = k := by unfold atFI; rw [hat]
    have hlm : l' = l.set k ⟨b, c⟩ := by rw [hl']; unfold laidS; rw [hat]
    have hkl : k < l.length := (List.getElem?_eq_some_iff.1 ho).1
    have HLM := Lib.hid hlm
    have HI := Lib.hid hi
    have HO := Lib.hid ho
    have HOB := Lib.hid hob'
    clear hat hi hlm hl' ho hob hob'
    go_enter Tryz.func26, Tryz.ntmps26
    go_wp2_with fail
    refine (clone_sec (Sec.all l) l.length _ R _ (HL.out.alloc _).1 (Sec.all_one l) (by omega)).mono ?_
    rintro e w1 ⟨A1, c1, rfl, hown1, hb1⟩
    have hbx : Blk w1 w.heap.size 3 #[.int .i64 b] := (Blk.new w 3 #[.int .i64 b]).grow hb1
    have HBX := Lib.hid hbx
    have hown1' : w1.ownsRow (w.heap.size + 1) 58 2 (.slice A1 l.length c1) l.length (Sec.all l) := by simpa using hown1
    obtain ⟨g, cm, hform, hgm1, hgm2⟩ := World.ownsRow.form hown1' (by omega)
    injection hform with hA1 _ hc1
    subst hA1 hc1
    have HO1 := Lib.hid hown1'
    have HB1 := Lib.hid (((Below.refl _ _).alloc (Nat.le_refl _) _).trans (hb1.mono (B' := w.heap.size) (by simp)))
    clear hb1 hown1 hown1' hbx
    have e1 : (0 : Int) ≤ (k : Int) := by omega
    have e2 : (k : Int) < (l.length : Int) := by omega
    have e3 : ¬ (k : Int) < 0 := by omega
    go_wp2_with (first
      | (go_at_call 46; refine (indexB_any l b w.heap.size _ _ _ ⟨Sl.of_own HO1.out, HWF.out⟩ (HBX.out.cell 0)).mono ?_; rintro e w2 ⟨rfl, hb2⟩; rw [HI.out]; have HO2 := Lib.hid (own_grow HO1.out hb2); have HB2 := Lib.hid (HB1.out.trans (hb2.mono HB1.out.size)); have HBX2 := Lib.hid (HBX.out.grow hb2); have q0 : w2.cell? ⟨g, k * 2 + 1, none⟩ = some (.int .i64 o.c) := ((own_grow HO1.out hb2).cellAt (k * 2 + 1) (by omega)).trans (Sec.all_snd l k o HO.out); have q1 := (own_grow HO1.out hb2).frozenAt (k * 2 + 1); clear hb2))
    obtain ⟨h1, h2⟩ := HO2.out.stored (k * 2 + 1) (.int .i64 c)
    have hx : (Sec.all l).set (k * 2 + 1) (.int .i64 c) = Sec.all l' := by
      rw [HLM.out, Sec.all_set l k o c HO.out, HOB.out]
    have hll' : l'.length = l.length := by rw [HLM.out]; simp
    have hs4 : Secs (w2.setCell ⟨g, k * 2 + 1, none⟩ (.int .i64 c)) (fun b => (Value.slice (some ⟨g, 0, none⟩) l.length c1).ownBlock = some b) (.slice (some ⟨g, 0, none⟩) l.length c1) l' := by
      refine ⟨?_, fun x hx => ?_⟩
      · rw [hll', ← hx]
        exact Sl.of_own h1
      · rw [HLM.out] at hx
        rcases List.mem_or_eq_of_mem_set hx with h | h
        · exact HWF.out x h
        · subst h
          exact ⟨hb, hc⟩
    have hbx4 : Blk (w2.setCell ⟨g, k * 2 + 1, none⟩ (.int .i64 c)) w.heap.size 3 #[.int .i64 b] := HBX2.out.far (by simp; omega) _
    have hb4 : Below w.heap.size w (w2.setCell ⟨g, k * 2 + 1, none⟩ (.int .i64 c)) := HB2.out.setCell (by simp; omega) _
    obtain ⟨W4, hW4⟩ : ∃ V, V = w2.setCell ⟨g, k * 2 + 1, none⟩ (.int .i64 c) := ⟨_, rfl⟩
    rw [← hW4] at hs4 hbx4 hb4 ⊢
    have HS4 := Lib.hid hs4
    have HBX4 := Lib.hid hbx4
    have HB4 := Lib.hid hb4
    clear h1 h2 hx hs4 hbx4 hb4 hW4 q0 q1
    have hbx4 : Blk W4 w.heap.size 3 #[.int .i64 b] := HBX4.out
    refine (sell_any floor l' _ _ W4 HS4.out).mono ?_
    rintro e w5 ⟨rfl, hb5⟩
    rw [HV.out]
    have hbx5 := hbx4.grow hb5
    have x0 : w5.cell? ⟨w.heap.size, 0, none⟩ = some (.int .i64 b) := hbx5.cell 0
    have x1 : (w5.alloc (.cells #[.bool s1, .int .i64 s2, .int .i64 s3, .int .i64 s4] 95)).cell? ⟨w.heap.size, 0, none⟩ = some (.int .i64 b) := (hbx5.alloc _).cell 0
    have HB6 := Lib.hid ((HB4.out.trans (hb5.mono HB4.out.size)).alloc (HB4.out.trans (hb5.mono HB4.out.size)).size (.cells #[.bool s1, .int .i64 s2, .int .i64 s3, .int .i64 s4] 95))
    clear hb5 hbx4 hbx5
    cases s1 with
    | false =>
      have hr : r = 0 := by rw [HR.out]; simp
      have HRR := Lib.hid hr
      clear hr
      go_wp2_with fail
      go_ret
      exact ⟨by rw [HRR.out]; rfl, HB6.out⟩
    | true =>
      by_cases h2 : s2 = b
      · have hr : r = IntKind.i64.wrap (worth - s4) := by rw [HR.out]; simp [h2]
        have HRR := Lib.hid hr
        have hne : (s2 != b) = false := by simpa using h2
        clear hr h2
        go_wp2_with fail
        exact bodyPost_ret (v := .int .i64 (wrap64 (worth - s4))) (by simp [results, Tryz.results26, go_sem]) rfl ⟨by rw [HRR.out, IntWalk.i64_left], HB6.out⟩
      · have hr : r = 0 := by rw [HR.out]; simp [h2]
        have HRR := Lib.hid hr
        have hne : (s2 != b) = true := by simpa using h2
        clear hr h2
        go_wp2_with fail
        exact bodyPost_ret (v := .int .i64 0) (by simp [results, Tryz.results26, go_sem]) rfl ⟨by rw [HRR.out], HB6.out⟩

def sealedT (floor : Int) (l : List Sec) (b worth other : Int) : Value :=
  if wrongE floor l b [worth, other] = 0 then .tuple #[.int .i64 (gainsW floor l b worth worth), .int .i64 (gainsW floor l b worth other), .int .i64 0] else .tuple #[.int .i64 0, .int .i64 0, .int .i64 (wrongE floor l b [worth, other])]
theorem wrongE_bd (floor : Int) (l : List Sec) (b : Int) (ns : List Int) : wrongE floor l b ns = 0 ∨ wrongE floor l b ns = 2 ∨ wrongE floor l b ns = 5 := by
  unfold wrongE
  split
  · exact sellE_bd floor l
  · split
    · exact .inr (.inl rfl)
    · split
      · exact .inr (.inl rfl)
      · exact .inl rfl

set_option maxHeartbeats 1600000 in
theorem sealed_any (floor : Int) (l : List Sec) (b worth other : Int) (v : Value) (R : Nat → Prop) (w : World) (hl : Secs w R v l) (hll : l.length ≤ 1000000)
    (hb : -9223372036854775808 ≤ b ∧ b ≤ 9223372036854775807) (hw : -9223372036854775808 ≤ worth ∧ worth ≤ 9223372036854775807) (ho : -9223372036854775808 ≤ other ∧ other ≤ 9223372036854775807) :
    Calls Tryz.prog 16 #[.int .i64 floor, v, .int .i64 b, .int .i64 worth, .int .i64 other] w fun e w' => e = .returned (sealedT floor l b worth other) ∧ Below w.heap.size w w' := by
  have HL := Lib.hid hl
  obtain ⟨⟨_, A, cap, rfl, _⟩, _⟩ := id hl
  clear hl
  have hbd := wrongE_bd floor l b [worth, other]
  obtain ⟨z, hz⟩ : ∃ z, z = wrongE floor l b [worth, other] := ⟨_, rfl⟩
  have hs : sealedT floor l b worth other = if z = 0 then .tuple #[.int .i64 (gainsW floor l b worth worth), .int .i64 (gainsW floor l b worth other), .int .i64 0] else .tuple #[.int .i64 0, .int .i64 0, .int .i64 z] := by rw [hz]; rfl
  rw [hs]
  rw [← hz] at hbd
  have HZ := Lib.hid hz
  have hzb : -9223372036854775808 ≤ z ∧ z ≤ 9223372036854775807 := by omega
  clear hs hz hbd
  by_cases h0 : z = 0
  · rw [if_pos h0]
    subst h0
    clear hzb
    go_enter Tryz.func16, Tryz.ntmps16
    go_wp2_with fail
    refine (wrong_any floor l b [worth, other] _ _ _ _ _ (HL.out.alloc _) (Sl.new w #[.int .i64 worth, .int .i64 other] _ 2 1 (by unfold maxLen; omega) rfl)).mono ?_
    rintro e w1 ⟨rfl, hb1⟩
    rw [← HZ.out]
    have HB1 := Lib.hid (((Below.refl _ _).alloc (Nat.le_refl _) _).trans (hb1.mono (B' := w.heap.size) (by simp)))
    clear hb1
    go_wp2_with fail
    refine (gains_any floor l b worth worth _ _ w1 (HL.out.grow HB1.out) hll hb hw).mono ?_
    rintro e w2 ⟨rfl, hb2⟩
    have HB2 := Lib.hid (HB1.out.trans (hb2.mono HB1.out.size))
    clear hb2
    go_wp2_with fail
    refine (gains_any floor l b worth other _ _ w2 (HL.out.grow HB2.out) hll hb ho).mono ?_
    rintro e w3 ⟨rfl, hb3⟩
    have HB3 := Lib.hid (HB2.out.trans (hb3.mono HB2.out.size))
    clear hb3
    go_wp2_with fail
    refine bodyPost_ret (v := .tuple #[.int .i64 (gainsW floor l b worth worth), .int .i64 (gainsW floor l b worth other), .int .i64 0]) (by simp [results, Tryz.results16, go_sem]) rfl ⟨rfl, HB3.out⟩
  · rw [if_neg h0]
    have hcb : (z != 0) = true := by simpa using h0
    clear h0
    go_enter Tryz.func16, Tryz.ntmps16
    go_wp2_with fail
    refine (wrong_any floor l b [worth, other] _ _ _ _ _ (HL.out.alloc _) (Sl.new w #[.int .i64 worth, .int .i64 other] _ 2 1 (by unfold maxLen; omega) rfl)).mono ?_
    rintro e w1 ⟨rfl, hb1⟩
    rw [← HZ.out]
    have HB1 := Lib.hid (((Below.refl _ _).alloc (Nat.le_refl _) _).trans (hb1.mono (B' := w.heap.size) (by simp)))
    clear hb1
    go_wp2_with fail
    refine bodyPost_ret (v := .tuple #[.int .i64 0, .int .i64 0, .int .i64 z]) (by simp [results, Tryz.results16, go_sem]) rfl ⟨rfl, HB1.out⟩

theorem sealed7 : sealedT 0 [⟨1, 7⟩] 0 9 6 = .tuple #[.int .i64 2, .int .i64 0, .int .i64 0] := by
  have h1 : wrongE 0 [⟨1, 7⟩] 0 [9, 6] = 0 := by decide
  have h2 : gainsW 0 [⟨1, 7⟩] 0 9 9 = 2 := by decide
  have h3 : gainsW 0 [⟨1, 7⟩] 0 9 6 = 0 := by decide
  unfold sealedT
  rw [if_pos h1, h2, h3]
end Go.Proofs.YtcigobiolbojhaaGreat.Vb

/- Law 17's own: what given makes. -/
namespace Go.Proofs.YtcigobiolbojhaaGreat.Vb
open Go.RowKit

/-- each list in memory of its own, with one offer of 77 behind it -/
def Giv (w : World) (lo : Nat) (v : Value) (bs : List (List Off)) : Prop :=
  ∃ vs, w.ownsRow lo 26 1 v bs.length vs ∧ ∀ (k : Nat) (l : List Off), bs[k]? = some l → ∃ b cap, vs[k]? = some (.slice (some ⟨b, 0, none⟩) l.length cap) ∧
    w.ownsRow lo 53 2 (.slice (some ⟨b, 0, none⟩) (l.length + 1) cap) (l.length + 1) (Off.all (l ++ [⟨77, 0⟩])) ∧ ∀ o ∈ l, o.wf
theorem Giv.grow {w w' : World} {lo : Nat} {v : Value} {bs : List (List Off)} (h : Giv w lo v bs) (hb : Below w.heap.size w w') : Giv w' lo v bs := by
  obtain ⟨vs, hs, ho⟩ := h
  exact ⟨vs, own_grow hs hb, fun k l hk => let ⟨b, c, h1, h2, h3⟩ := ho k l hk; ⟨b, c, h1, own_grow h2 hb, h3⟩⟩
theorem Giv.mono {w : World} {lo lo' : Nat} {v : Value} {bs : List (List Off)} (h : Giv w lo v bs) (hl : lo' ≤ lo) : Giv w lo' v bs := by
  obtain ⟨vs, hs, ho⟩ := h
  exact ⟨vs, own_mono hs hl, fun k l hk => let ⟨b, c, h1, h2, h3⟩ := ho k l hk; ⟨b, c, h1, own_mono h2 hl, h3⟩⟩
theorem own_lo {w w' : World} {lo : Nat} {e : TypeId} {sz n : Nat} {v : Value} {xs : List Value} {row : Option Nat} (h : w.ownsRow lo e sz v n xs) (hg : w.grownBy w' row) (hr : ∀ k, row = some k → k < lo) : w'.ownsRow lo e sz v n xs :=
  own_far h hg fun g e he => by have := (h.lt g he).1; have := hr g e; omega
theorem Giv.far {w w' : World} {lo : Nat} {v : Value} {bs : List (List Off)} {row : Option Nat} (h : Giv w lo v bs) (hg : w.grownBy w' row) (hr : ∀ k, row = some k → k < lo) : Giv w' lo v bs := by
  obtain ⟨vs, hs, ho⟩ := h
  exact ⟨vs, own_lo hs hg hr, fun k l hk => let ⟨b, c, h1, h2, h3⟩ := ho k l hk; ⟨b, c, h1, own_lo h2 hg hr, h3⟩⟩
theorem Giv.buys {w : World} {lo : Nat} {v : Value} {bs : List (List Off)} (h : Giv w lo v bs) : Buys w (fun _ => True) v bs := by
  obtain ⟨vs, hs, ho⟩ := h
  refine ⟨vs, (Sl.of_own hs).mono fun _ _ _ => trivial, fun k l hk => ?_⟩
  obtain ⟨b, c, h1, h2, h3⟩ := ho k l hk
  obtain ⟨_, A, cap, hv, hnc, hcm, hcs⟩ := Sl.of_own h2
  injection hv with hA _ hc
  subst hA hc
  refine ⟨_, h1, ⟨by rw [Off.all_length], _, _, rfl, by omega, hcm, fun h0 => ?_⟩, h3⟩
  obtain ⟨b', off, e, _, hlt, hcell⟩ := hcs (by omega)
  refine ⟨b', off, e, trivial, hlt, fun j u hj => hcell j u ?_⟩
  have : Off.all (l ++ [⟨77, 0⟩]) = Off.all l ++ Off.all [⟨77, 0⟩] := by simp [Off.all]
  rw [this, List.getElem?_append_left (List.getElem?_eq_some_iff.1 hj).1]
  exact hj
/-- One list more. -/
theorem Giv.snoc {w w' : World} {lo : Nat} {v : Value} {bs : List (List Off)} {vs : List Value} {l : List Off} {b cap : Nat} {A' : Option Addr} {cap' n : Nat} (hn : bs.length = n)
    (hs : w.ownsRow lo 26 1 v n vs)
    (ho : ∀ (k : Nat) (l : List Off), bs[k]? = some l → ∃ b cap, vs[k]? = some (.slice (some ⟨b, 0, none⟩) l.length cap) ∧ w.ownsRow lo 53 2 (.slice (some ⟨b, 0, none⟩) (l.length + 1) cap) (l.length + 1) (Off.all (l ++ [⟨77, 0⟩])) ∧ ∀ o ∈ l, o.wf)
    (hl : w.ownsRow lo 53 2 (.slice (some ⟨b, 0, none⟩) (l.length + 1) cap) (l.length + 1) (Off.all (l ++ [⟨77, 0⟩]))) (hw : ∀ o ∈ l, o.wf)
    (hown : w'.ownsRow lo 26 1 (.slice A' (n + 1) cap') (n + 1) (vs ++ [.slice (some ⟨b, 0, none⟩) l.length cap])) (hg : w.grownBy w' v.ownBlock) : Giv w' lo (.slice A' (n + 1) cap') (bs ++ [l]) := by
  subst hn
  have hlen : vs.length = bs.length := by simpa using hs.1
  have step : ∀ {u : Value} {m : Nat} {xs : List Value}, w.ownsRow lo 53 2 u m xs → w'.ownsRow lo 53 2 u m xs := fun h => own_far h hg fun g e => own_ne hs h (by decide) e
  refine ⟨vs ++ [.slice (some ⟨b, 0, none⟩) l.length cap], by simpa using hown, fun k l' hk => ?_⟩
  by_cases hkl : k < bs.length
  · rw [List.getElem?_append_left hkl] at hk
    obtain ⟨b', c', h1, h2, h3⟩ := ho k l' hk
    exact ⟨b', c', by rw [List.getElem?_append_left (by omega)]; exact h1, step h2, h3⟩
  · have : k = bs.length := by
      rcases Nat.lt_or_ge k (bs ++ [l]).length with h | h
      · simp at h; omega
      · rw [List.getElem?_eq_none h] at hk; cases hk
    subst this
    simp at hk
    subst hk
    exact ⟨b, cap, by rw [← hlen]; simp, step hl, hw⟩
end Go.Proofs.YtcigobiolbojhaaGreat.Vb

/- Law 17's own: given. -/
namespace Go.Proofs.YtcigobiolbojhaaGreat.Vb
open Go.RowKit

end Go.Proofs.YtcigobiolbojhaaGreat.Vb

/- Law 17's own: stays. -/
namespace Go.Proofs.YtcigobiolbojhaaGreat.Vb
open Go.RowKit

end Go.Proofs.YtcigobiolbojhaaGreat.Vb

/- Law 17: what is asked, whether the instance may be or not. -/
namespace Go.Proofs.YtcigobiolbojhaaGreat.Vb
open Go.RowKit

theorem checkE_bd (n : Int) (l : List Off) : 0 ≤ checkE n l ∧ checkE n l ≤ 1000 := by
  unfold checkE
  repeat' split
  all_goals omega
theorem instLoop_bd (n : Int) : ∀ bs : List (List Off), 0 ≤ instLoop n bs ∧ instLoop n bs ≤ 1000 := by
  intro bs
  induction bs with
  | nil => simp [instLoop]
  | cons l bs ih =>
    have := checkE_bd n l
    unfold instLoop
    repeat' split
    all_goals omega
theorem instE_bd (n : Int) (bs : List (List Off)) : 0 ≤ instE n bs ∧ instE n bs ≤ 1000 := by
  have := instLoop_bd n bs
  unfold instE
  repeat' split
  all_goals omega
theorem withE_bd (n : Int) (bs : List (List Off)) (i : Int) (l : List Off) : 0 ≤ withE n bs i l ∧ withE n bs i l ≤ 1000 := by
  have := instE_bd n bs
  have := checkE_bd n l
  unfold withE
  repeat' split
  all_goals omega

def gainsL (n : Int) (bs : List (List Off)) : List Int := if instE n bs = 0 then gainsC n bs else []
def pivotL (n : Int) (bs : List (List Off)) : List Int := if instE n bs = 0 then pivotC n bs else []
def choiceL (n : Int) (bs : List (List Off)) : List Int := if instE n bs = 0 then bestC n bs else []
def paysL (n : Int) (bs : List (List Off)) : List Int := if instE n bs = 0 then paysC n bs else []
def worthL (n : Int) (bs : List (List Off)) : Int := if instE n bs = 0 then W bs (allOf n) else 0
theorem bestC_len (n : Int) (bs : List (List Off)) : (bestC n bs).length = bs.length := choose_length _ _
theorem gainsC_len (n : Int) (bs : List (List Off)) : (gainsC n bs).length = bs.length := by simp [gainsC]

section
variable (n : Int) (bs : List (List Off)) (v : Value) (R : Nat → Prop) (w : World)
def AskPost (w : World) (t : TypeId) (l : List Int) (er : Int) (e : Ending) (w' : World) : Prop :=
  ∃ A' cap', e = .returned (.tuple #[.slice A' l.length cap', .int .i64 er]) ∧ w'.ownsRow w.heap.size t 1 (.slice A' l.length cap') l.length (ints l) ∧ Below w.heap.size w w'
theorem ask_nil {w w' : World} {t : TypeId} {l : List Int} {er er' : Int} {e : Ending} (h : l = []) (he : er = er') (h1 : e = .returned (.tuple #[.slice none 0 0, .int .i64 er'])) (h2 : Below w.heap.size w w') : AskPost w t l er e w' := by
  subst h he
  exact ⟨none, 0, h1, World.ownsRow_nil _ _ _ _, h2⟩
theorem ask_some {w w' : World} {t : TypeId} {l l' : List Int} {m : Nat} {er : Int} {e : Ending} (h : l = l') (hm : l'.length = m) (he : er = 0)
    (h1 : ∃ A' cap', e = .returned (.tuple #[.slice A' m cap', .int .i64 0]) ∧ w'.ownsRow w.heap.size t 1 (.slice A' m cap') m (ints l') ∧ Below w.heap.size w w') : AskPost w t l er e w' := by
  subst h he hm
  exact h1
def CostsPost (n : Int) (bs : List (List Off)) (w : World) (e : Ending) (w' : World) : Prop :=
  ∃ A1 c1 A2 c2, e = .returned (.tuple #[.agg #[.slice A1 (choiceL n bs).length c1, .int .i64 (worthL n bs), .slice A2 (choiceL n bs).length c2], .int .i64 (instE n bs)]) ∧
    w'.ownsRow w.heap.size 3 1 (.slice A1 (choiceL n bs).length c1) (choiceL n bs).length (ints (choiceL n bs)) ∧
    w'.ownsRow w.heap.size 2 1 (.slice A2 (choiceL n bs).length c2) (choiceL n bs).length (ints (paysL n bs)) ∧ Below w.heap.size w w'
theorem costs_all (hl : Buys w R v bs) : Calls Tryz.prog 33 #[.agg #[.int .i64 n, v]] w (CostsPost n bs w) := by
  by_cases hi : instE n bs = 0
  · refine (costs_ok n bs v R w hl hi).mono fun e w' ⟨A1, c1, A2, c2, h1, h2, h3, h4⟩ => ?_
    have hc : choiceL n bs = bestC n bs := if_pos hi
    have hp : paysL n bs = paysC n bs := if_pos hi
    have hw : worthL n bs = W bs (allOf n) := if_pos hi
    unfold CostsPost
    rw [hc, hp, hw, hi, bestC_len]
    exact ⟨A1, c1, A2, c2, h1, h2, h3, h4⟩
  · refine (costs_err n bs v R w hl hi).mono fun e w' ⟨h1, h4⟩ => ?_
    have hc : choiceL n bs = [] := if_neg hi
    have hp : paysL n bs = [] := if_neg hi
    have hw : worthL n bs = 0 := if_neg hi
    unfold CostsPost
    rw [hc, hp, hw]
    exact ⟨none, 0, none, 0, h1, World.ownsRow_nil _ _ _ _, World.ownsRow_nil _ _ _ _, h4⟩
theorem refCosts_all (hl : Buys w R v bs) : Calls Tryz.prog 38 #[.agg #[.int .i64 n, v]] w (CostsPost n bs w) := by
  by_cases hi : instE n bs = 0
  · refine (refCosts_ok n bs v R w hl hi).mono fun e w' ⟨A1, c1, A2, c2, h1, h2, h3, h4⟩ => ?_
    have hc : choiceL n bs = bestC n bs := if_pos hi
    have hp : paysL n bs = paysC n bs := if_pos hi
    have hw : worthL n bs = W bs (allOf n) := if_pos hi
    unfold CostsPost
    rw [hc, hp, hw, hi, bestC_len]
    exact ⟨A1, c1, A2, c2, h1, h2, h3, h4⟩
  · refine (refCosts_err n bs v R w hl hi).mono fun e w' ⟨h1, h4⟩ => ?_
    have hc : choiceL n bs = [] := if_neg hi
    have hp : paysL n bs = [] := if_neg hi
    have hw : worthL n bs = 0 := if_neg hi
    unfold CostsPost
    rw [hc, hp, hw]
    exact ⟨none, 0, none, 0, h1, World.ownsRow_nil _ _ _ _, World.ownsRow_nil _ _ _ _, h4⟩
end

theorem greatB_small {bs : List (List Off)} (h : greatB bs = false) : bs.length ≤ 40 ∧ ∀ l ∈ bs, l.length ≤ 40 := by
  unfold greatB at h
  simp only [Bool.or_eq_false_iff, decide_eq_false_iff_not, List.any_eq_false, decide_eq_true_eq] at h
  exact ⟨by omega, fun l hl => by have := h.1 l hl; omega⟩
end Go.Proofs.YtcigobiolbojhaaGreat.Vb

/- Law 17: VcgAsks, walked. -/
namespace Go.Proofs.YtcigobiolbojhaaGreat.Vb
open Go.RowKit

theorem Sl.any {w : World} {R : Nat → Prop} {v : Value} {n sz : Nat} {xs : List Value} (h : Sl w R v n sz xs) : Sl w (fun _ => True) v n sz xs := h.mono fun _ _ _ => trivial
theorem Sl.int_at {w : World} {R : Nat → Prop} {A : Option Addr} {n c k : Nat} {l : List Int} (h : Sl w R (.slice A n c) n 1 (ints l)) (hk : k < n) :
    ∃ b off x, A = some ⟨b, off, none⟩ ∧ b < w.heap.size ∧ l[k]? = some x ∧ w.cell? ⟨b, off + k, none⟩ = some (.int .i64 x) := by
  obtain ⟨hl, A', c', hv, _, _, hc⟩ := h
  injection hv with hA _ _
  subst hA
  obtain ⟨b, off, hA, _, hlt, hcs⟩ := hc (by omega)
  have hl' : k < l.length := by simp [ints] at hl; omega
  exact ⟨b, off, l[k], hA, hlt, List.getElem?_eq_getElem hl', hcs k _ (by simp [ints, hl'])⟩
theorem ints_at {l : List Int} {k : Nat} {c : Int} (h : l[k]? = some c) : (ints l)[k]? = some (.int .i64 c) := by simp [ints, h]

end Go.Proofs.YtcigobiolbojhaaGreat.Vb

/- Law 17: VcgCosts, walked. -/
namespace Go.Proofs.YtcigobiolbojhaaGreat.Vb
open Go.RowKit

theorem coinAt_bd {n : Int} {bs : List (List Off)} (hw : ∀ l ∈ bs, ∀ o ∈ l, o.wf) (h : instE n bs = 0) (i : Nat) (c : Int) : 0 ≤ coinAt bs i c ∧ coinAt bs i c ≤ 1099511627776 := by
  have hok := (okb_of hw h).1
  unfold coinAt
  split
  · omega
  · cases hb : bs[i]? with
    | none => simp
    | some l =>
      cases hl : l[c.toNat]? with
      | none => simp [hl]
      | some o =>
        have := hok.offer hb hl
        simp only [Option.getD_some, hl, Option.map_some]
        exact ⟨by have := this.2.2.1; omega, this.2.2.2⟩
theorem paysL_bd {n : Int} {bs : List (List Off)} (hw : ∀ l ∈ bs, ∀ o ∈ l, o.wf) : ∀ x ∈ paysL n bs, -9007199254740992 ≤ x ∧ x ≤ 9007199254740992 := by
  intro x hx
  unfold paysL at hx
  split at hx
  · rename_i hi
    simp only [paysC, List.mem_mapIdx] at hx
    obtain ⟨i, hlt, rfl⟩ := hx
    unfold payAt
    split
    · omega
    · obtain ⟨h0, h1⟩ := coinAt_bd hw hi i ((bestC n bs)[i])
      obtain ⟨h2, h3⟩ := woW_bd hw hi i
      have h4 := W_nonneg bs (allOf n)
      have h5 : W bs (allOf n) ≤ 35184372088832 := by simpa using (okb_of hw hi).1.W_le 0 (allOf n)
      omega
  · cases hx
theorem paysL_len (n : Int) (bs : List (List Off)) : (paysL n bs).length = (choiceL n bs).length := by
  unfold paysL choiceL
  split
  · rw [paysC_length, bestC_len]
  · rfl
theorem choiceL_len (n : Int) (bs : List (List Off)) : (choiceL n bs).length ≤ bs.length := by
  unfold choiceL
  split
  · rw [bestC_len]; exact Nat.le_refl _
  · simp

/-- only blocks from a up to b have turned -/
def Mid (a b : Nat) (w w' : World) : Prop := Below a w w' ∧ ∀ i, b ≤ i → i < w.heap.size → w'.heap[i]? = w.heap[i]?
theorem Mid.refl (a b : Nat) (w : World) : Mid a b w w := ⟨Below.refl _ _, fun _ _ _ => rfl⟩
theorem Mid.set {a b : Nat} {w w' : World} (h : Mid a b w w') {p : Addr} (h1 : a ≤ p.block) (h2 : p.block < b) (u : Value) : Mid a b w (w'.setCell p u) :=
  ⟨h.1.setCell h1 u, fun i hi hl => (Below.heap_setCell w' p u i (by omega)).trans (h.2 i hi hl)⟩
theorem Mid.sl {a b : Nat} {w w' : World} {R : Nat → Prop} {v : Value} {n sz : Nat} {xs : List Value} (h : Mid a b w w') (hs : Sl w R v n sz xs) (hR : ∀ i, i < w.heap.size → R i → b ≤ i) : Sl w' R v n sz xs :=
  hs.keep h.1.size fun i hi hr => h.2 i (hR i hi hr) hi
theorem Mid.blk {a b : Nat} {w w' : World} {g : Nat} {t : TypeId} {cs : Array Value} (h : Mid a b w w') (hs : Blk w g t cs) (hg : b ≤ g) : Blk w' g t cs := (h.2 g hg hs.lt).trans hs
/-- a row from a base on -/
theorem Sl.own_from {w : World} {base : Nat} {e : TypeId} {sz n : Nat} {v : Value} {xs : List Value} (h : w.ownsRow base e sz v n xs) : Sl w (fun b => base ≤ b) v n sz xs :=
  (Sl.of_own h).mono fun b _ hb => (h.lt b hb).1

end Go.Proofs.YtcigobiolbojhaaGreat.Vb

/- Plain: what a winner costs the others; with more offered for what it wins a buyer wins that, and pays the same. -/
namespace Go.Proofs.YtcigobiolbojhaaGreat.Vb

def SubG (a b : Nat) : Prop := ∀ i, a.testBit i = true → b.testBit i = true
theorem compl_bit {b : Nat} (hb : b < 4294967296) (i : Nat) : (4294967295 - b).testBit i = (decide (i < 32) && !b.testBit i) := by
  have e : 4294967295 - b = 2 ^ 32 - (b + 1) := by omega
  rw [e, Nat.testBit_two_pow_sub_succ (by simpa using hb)]
theorem andNot_bit {a b : Nat} (hb : b < 4294967296) (i : Nat) : (andNot a b).testBit i = (a.testBit i && (decide (i < 32) && !b.testBit i)) := by
  unfold andNot
  rw [Nat.testBit_and, compl_bit hb]
theorem bit_lt {a i : Nat} (ha : a < 4294967296) (h : a.testBit i = true) : i < 32 := by
  rcases Nat.lt_or_ge i 32 with h1 | h1
  · exact h1
  · have : a.testBit i = false := Nat.testBit_lt_two_pow (Nat.lt_of_lt_of_le ha (by
      have : 2 ^ 32 ≤ 2 ^ i := Nat.pow_le_pow_right (by omega) h1
      simpa using this))
    rw [this] at h
    cases h
theorem andNot_sub {a b : Nat} (hb : b < 4294967296) : SubG (andNot a b) a := fun i h => by
  rw [andNot_bit hb] at h
  simp at h
  exact h.1
theorem andNot_zero_iff {a b : Nat} (ha : a < 4294967296) (hb : b < 4294967296) : andNot a b = 0 ↔ SubG a b := by
  constructor
  · intro h i hi
    have := andNot_bit (a := a) hb i
    rw [h, hi] at this
    simpa [bit_lt ha hi] using this.symm
  · intro h
    apply Nat.eq_of_testBit_eq
    intro i
    rw [andNot_bit hb]
    cases hi : a.testBit i with
    | false => simp
    | true => simp [h i hi]
theorem SubG.trans {a b c : Nat} (h : SubG a b) (k : SubG b c) : SubG a c := fun i hi => k i (h i hi)
theorem SubG.andNot {a b c : Nat} (hc : c < 4294967296) (h : SubG a b) : SubG (Vb.andNot a c) (Vb.andNot b c) := fun i hi => by
  rw [andNot_bit hc] at hi ⊢
  simp at hi ⊢
  exact ⟨h i hi.1, hi.2⟩
theorem andNot_lt {a b : Nat} (ha : a < 4294967296) : Vb.andNot a b < 4294967296 := Nat.lt_of_le_of_lt (andNot_le a b) ha

/-- every offer's set is a set of goods -/
def GoodL (bs : List (List Off)) : Prop := ∀ l ∈ bs, ∀ o ∈ l, o.g < 4294967296

theorem fold_mono2 {g g' : Nat → Int} {f f' : Nat} (hstep : ∀ (o : Off) (b b' : Int), o.g < 4294967296 → b ≤ b' → stepO g f b o ≤ stepO g' f' b' o) : ∀ (l : List Off) {b b' : Int}, (∀ o ∈ l, o.g < 4294967296) → b ≤ b' → l.foldl (stepO g f) b ≤ l.foldl (stepO g' f') b'
  | [], _, _, _, h => h
  | o :: l, _, _, hl, h => fold_mono2 hstep l (fun x hx => hl x (by simp [hx])) (hstep o _ _ (hl o (by simp)) h)
/-- fewer goods, less worth -/
theorem W_free : ∀ (bs : List (List Off)) (f f' : Nat), GoodL bs → f < 4294967296 → f' < 4294967296 → SubG f f' → W bs f ≤ W bs f'
  | [], _, _, _, _, _, _ => Int.le_refl _
  | l :: bs, f, f', hg, hf, hf', hs => by
    have hg' : GoodL bs := fun x hx => hg x (by simp [hx])
    refine fold_mono2 (fun o b b' ho hb => ?_) l (hg l (by simp)) (W_free bs f f' hg' hf hf' hs)
    unfold stepO
    by_cases h1 : andNot o.g f = 0
    · have h2 : andNot o.g f' = 0 := (andNot_zero_iff ho hf').2 (((andNot_zero_iff ho hf).1 h1).trans hs)
      rw [if_pos h1, if_pos h2]
      have := W_free bs (andNot f o.g) (andNot f' o.g) hg' (andNot_lt hf) (andNot_lt hf') (hs.andNot ho)
      omega
    · rw [if_neg h1]
      split <;> omega

theorem pickAt_get' {g : Nat → Int} {f : Nat} {left : Int} : ∀ {l : List Off} {j x : Nat}, pickAt g f left l = some (j, x) → ∃ o, l[j]? = some o ∧ o.g = x ∧ andNot o.g f = 0 ∧ o.c + g (andNot f o.g) = left ∧ ∀ i y, i < j → l[i]? = some y → pickB g f left y = false
  | o :: l, j, x, h => by
    simp only [pickAt] at h
    split at h
    · rename_i hb
      simp only [Option.some.injEq, Prod.mk.injEq] at h
      obtain ⟨rfl, rfl⟩ := h
      simp only [pickB, Bool.and_eq_true, decide_eq_true_eq] at hb
      exact ⟨o, rfl, rfl, hb.1, hb.2, fun i y hi => by omega⟩
    · rename_i hb
      cases hp : pickAt g f left l with
      | none => rw [hp] at h; cases h
      | some p =>
        rw [hp] at h
        simp only [Option.map_some, Option.some.injEq, Prod.mk.injEq] at h
        obtain ⟨rfl, rfl⟩ := h
        obtain ⟨o', h1, h2, h3, h4, h5⟩ := pickAt_get' (j := p.1) (x := p.2) hp
        refine ⟨o', by simpa using h1, h2, h3, h4, fun i y hi hy => ?_⟩
        cases i with
        | zero => simp at hy; subst hy; simpa using hb
        | succ i => exact h5 i y (by omega) (by simpa using hy)
theorem pickAt_none' {g : Nat → Int} {f : Nat} {left : Int} : ∀ {l : List Off}, pickAt g f left l = none → ∀ o ∈ l, pickB g f left o = false
  | [], _, o, h => by cases h
  | x :: l, h, o, ho => by
    simp only [pickAt] at h
    split at h
    · cases h
    · rename_i hb
      rcases List.mem_cons.1 ho with rfl | ho
      · simpa using hb
      · exact pickAt_none' (by simpa using h) o ho

/-- what the others have without a winner is at least all less what it offers -/
theorem W_win : ∀ (bs : List (List Off)) (k f j : Nat) (l : List Off) (o : Off), GoodL bs → f < 4294967296 → (choose bs f)[k]? = some (j : Int) → bs[k]? = some l → l[j]? = some o → W bs f ≤ W (bs.set k []) f + o.c
  | [], k, f, j, l, o, _, _, h, _, _ => by simp [choose] at h
  | l0 :: bs, 0, f, j, l, o, hg, hf, h, hl, ho => by
    simp only [List.getElem?_cons_zero, Option.some.injEq] at hl
    subst hl
    simp only [choose, List.getElem?_cons_zero, Option.some.injEq] at h
    unfold pickN at h
    cases hp : pickAt (W bs) f (W (l0 :: bs) f) l0 with
    | none => rw [hp] at h; simp only at h; omega
    | some p =>
      rw [hp] at h
      simp only at h
      obtain ⟨o', h1, h2, h3, h4, _⟩ := pickAt_get' (j := p.1) (x := p.2) hp
      have hj : p.1 = j := by omega
      rw [hj, ho] at h1
      have h1' := Option.some.inj h1
      subst h1'
      have hg' : GoodL bs := fun x hx => hg x (by simp [hx])
      have hog := hg l0 (by simp) o (List.mem_of_getElem? ho)
      have := W_free bs (andNot f o.g) f hg' (andNot_lt hf) hf (andNot_sub hog)
      simp only [List.set_cons_zero]
      show W (l0 :: bs) f ≤ W bs f + o.c
      omega
  | l0 :: bs, k + 1, f, j, l, o, hg, hf, h, hl, ho => by
    have hg' : GoodL bs := fun x hx => hg x (by simp [hx])
    simp only [choose, List.getElem?_cons_succ] at h hl
    simp only [List.set_cons_succ]
    unfold pickN at h
    cases hp : pickAt (W bs) f (W (l0 :: bs) f) l0 with
    | none =>
      rw [hp] at h
      have ih := W_win bs k f j l o hg' hf h hl ho
      rw [pick_none_W hp]
      have := fold_ge (W (bs.set k [])) f l0 (W (bs.set k []) f)
      show W bs f ≤ W (l0 :: bs.set k []) f + o.c
      simp only [W]
      omega
    | some p =>
      obtain ⟨j0, x⟩ := p
      rw [hp] at h
      obtain ⟨o0, ho0, rfl, hf0, he0⟩ := pickAt_att hp
      have ih := W_win bs k (andNot f o0.g) j l o hg' (andNot_lt hf) h hl ho
      have := fold_mem (g := W (bs.set k [])) (f := f) l0 (W (bs.set k []) f) o0 ho0 hf0
      show W (l0 :: bs) f ≤ W (l0 :: bs.set k []) f + o.c
      simp only [W] at he0 ⊢
      omega

/-- a list in which one offer is raised -/
def raiseL (l : List Off) (n : Nat) (more : Int) : List Off := l.modify n fun o => ⟨o.g, o.c + more⟩
def raiseB (bs : List (List Off)) (b n : Nat) (more : Int) : List (List Off) := bs.modify b fun l => raiseL l n more
theorem raiseL_get (l : List Off) (n : Nat) (more : Int) (i : Nat) : (raiseL l n more)[i]? = (l[i]?).map fun o => if i = n then ⟨o.g, o.c + more⟩ else o := by
  unfold raiseL
  rw [List.getElem?_modify]
  by_cases h : n = i
  · subst h; cases l[n]? <;> simp
  · have h' : ¬ i = n := fun e => h e.symm
    cases l[i]? <;> simp [h, h']
theorem fold_raise {g : Nat → Int} {f : Nat} {more : Int} (hm : 0 ≤ more) : ∀ (l : List Off) (n : Nat) {b b' : Int}, b' ≤ b + more → (raiseL l n more).foldl (stepO g f) b' ≤ l.foldl (stepO g f) b + more := by
  intro l n b b' hb
  refine fold_le g f _ _ _ (fun o ho hfe => ?_) (Int.le_trans hb (Int.add_le_add_right (fold_ge g f l b) _))
  obtain ⟨i, hi⟩ := List.getElem?_of_mem ho
  rw [raiseL_get] at hi
  cases hl : l[i]? with
  | none => rw [hl] at hi; cases hi
  | some x =>
    rw [hl] at hi
    simp only [Option.map_some, Option.some.injEq] at hi
    have hx : x ∈ l := List.mem_of_getElem? hl
    by_cases hin : i = n
    · rw [if_pos hin] at hi
      subst hi
      have := fold_mem (g := g) (f := f) l b x hx hfe
      simp only
      omega
    · rw [if_neg hin] at hi
      subst hi
      have := fold_mem (g := g) (f := f) l b x hx hfe
      omega
theorem W_raise_le {more : Int} (hm : 0 ≤ more) : ∀ (bs : List (List Off)) (b n f : Nat), W (raiseB bs b n more) f ≤ W bs f + more
  | [], b, n, f => by
    have : raiseB [] b n more = [] := by unfold raiseB; cases b <;> rfl
    rw [this]; simp only [W]; omega
  | l :: bs, 0, n, f => by
    show W (raiseL l n more :: bs) f ≤ W (l :: bs) f + more
    simp only [W]
    exact fold_raise hm l n (by omega)
  | l :: bs, b + 1, n, f => by
    have ih := W_raise_le hm bs b n
    show W (l :: raiseB bs b n more) f ≤ W (l :: bs) f + more
    simp only [W]
    refine fold_le _ _ _ _ _ (fun o ho hfe => ?_) (Int.le_trans (ih f) (Int.add_le_add_right (fold_ge _ _ _ _) _))
    have h1 := fold_mem (g := W bs) (f := f) l (W bs f) o ho hfe
    have h2 := ih (andNot f o.g)
    omega

theorem pickB_lt {g : Nat → Int} {f : Nat} {left : Int} {l : List Off} {b : Int} {o : Off} (hl : l.foldl (stepO g f) b = left) (ho : o ∈ l) (hp : pickB g f left o = false) (hfe : andNot o.g f = 0) : o.c + g (andNot f o.g) < left := by
  have h1 := fold_mem (g := g) (f := f) l b o ho hfe
  simp only [pickB, Bool.and_eq_false_iff, decide_eq_false_iff_not] at hp
  rcases hp with h | h
  · exact absurd hfe h
  · omega
theorem pickB_false_of {g : Nat → Int} {f : Nat} {left : Int} {o : Off} (h : andNot o.g f = 0 → o.c + g (andNot f o.g) < left) : pickB g f left o = false := by
  simp only [pickB, Bool.and_eq_false_iff, decide_eq_false_iff_not]
  by_cases hf : andNot o.g f = 0
  · exact .inr (by have := h hf; omega)
  · exact .inl hf

/-- with more offered for what it wins, all is worth that much more, and it wins the same -/
theorem choose_raise {more : Int} (hm : 0 < more) : ∀ (bs : List (List Off)) (b f n : Nat) (l : List Off) (o : Off), (choose bs f)[b]? = some (n : Int) → bs[b]? = some l → l[n]? = some o →
    W (raiseB bs b n more) f = W bs f + more ∧ (choose (raiseB bs b n more) f)[b]? = some (n : Int)
  | [], b, f, n, l, o, h, _, _ => by simp [choose] at h
  | l0 :: bs, 0, f, n, l, o, h, hl, ho => by
    simp only [List.getElem?_cons_zero, Option.some.injEq] at hl
    subst hl
    simp only [choose, List.getElem?_cons_zero, Option.some.injEq] at h
    unfold pickN at h
    cases hp : pickAt (W bs) f (W (l0 :: bs) f) l0 with
    | none => rw [hp] at h; simp only at h; omega
    | some p =>
      rw [hp] at h
      simp only at h
      obtain ⟨o', h1, h2, h3, h4, h5⟩ := pickAt_get' (j := p.1) (x := p.2) hp
      have hj : p.1 = n := by omega
      rw [hj, ho] at h1
      have h1' := Option.some.inj h1
      subst h1'
      rw [hj] at h5
      have hrn : (raiseL l0 n more)[n]? = some ⟨o.g, o.c + more⟩ := by rw [raiseL_get, ho]; simp
      have hW : W (raiseL l0 n more :: bs) f = W (l0 :: bs) f + more := by
        refine Int.le_antisymm (W_raise_le (by omega) (l0 :: bs) 0 n f) ?_
        have := fold_mem (g := W bs) (f := f) (raiseL l0 n more) (W bs f) ⟨o.g, o.c + more⟩ (List.mem_of_getElem? hrn) h3
        show W (l0 :: bs) f + more ≤ (raiseL l0 n more).foldl (stepO (W bs) f) (W bs f)
        simp only at this
        omega
      refine ⟨hW, ?_⟩
      show (choose (raiseL l0 n more :: bs) f)[0]? = some (n : Int)
      simp only [choose, List.getElem?_cons_zero, Option.some.injEq]
      rw [hW, pickN_some (o := ⟨o.g, o.c + more⟩) hrn ?_ ?_]
      · simp only [pickB, Bool.and_eq_true, decide_eq_true_eq]
        exact ⟨h3, by omega⟩
      · intro j x hjn hx
        rw [raiseL_get] at hx
        cases hl0 : l0[j]? with
        | none => rw [hl0] at hx; cases hx
        | some y =>
          rw [hl0] at hx
          simp only [Option.map_some, Option.some.injEq, if_neg (show ¬ j = n by omega)] at hx
          subst hx
          exact pickB_false_of fun hfe => by
            have := pickB_lt (g := W bs) (l := l0) (b := W bs f) rfl (List.mem_of_getElem? hl0) (h5 j y hjn hl0) hfe
            show _ < W (l0 :: bs) f + more
            simp only [W] at this ⊢
            omega
  | l0 :: bs, b + 1, f, n, l, o, h, hl, ho => by
    simp only [choose, List.getElem?_cons_succ] at h hl
    show W (l0 :: raiseB bs b n more) f = W (l0 :: bs) f + more ∧ (choose (l0 :: raiseB bs b n more) f)[b + 1]? = some (n : Int)
    have hle : W (l0 :: raiseB bs b n more) f ≤ W (l0 :: bs) f + more := W_raise_le (by omega) (l0 :: bs) (b + 1) n f
    have hlt : ∀ x ∈ l0, pickB (W bs) f (W (l0 :: bs) f) x = false → pickB (W (raiseB bs b n more)) f (W (l0 :: bs) f + more) x = false := fun x hx hp => pickB_false_of fun hfe => by
      have h1 := pickB_lt (g := W bs) (l := l0) (b := W bs f) rfl hx hp hfe
      have h2 := W_raise_le (Int.le_of_lt hm) bs b n (andNot f x.g)
      simp only [W] at h1 ⊢
      omega
    unfold pickN at h
    cases hp : pickAt (W bs) f (W (l0 :: bs) f) l0 with
    | none =>
      rw [hp] at h
      simp only at h
      obtain ⟨ih1, ih2⟩ := choose_raise hm bs b f n l o h hl ho
      have hW : W (l0 :: raiseB bs b n more) f = W (l0 :: bs) f + more := by
        refine Int.le_antisymm hle ?_
        rw [pick_none_W hp, ← ih1]
        exact fold_ge _ _ _ _
      refine ⟨hW, ?_⟩
      simp only [choose, List.getElem?_cons_succ]
      rw [hW]
      unfold pickN
      rw [pickAt_none (W (raiseB bs b n more)) f _ l0 (fun x hx => hlt x hx (pickAt_none' hp x hx))]
      exact ih2
    | some p =>
      obtain ⟨j0, x0⟩ := p
      rw [hp] at h
      simp only at h
      obtain ⟨o0, ho0, hx0, hf0, he0, hfirst⟩ := pickAt_get' hp
      subst hx0
      obtain ⟨ih1, ih2⟩ := choose_raise hm bs b (andNot f o0.g) n l o h hl ho
      have hW : W (l0 :: raiseB bs b n more) f = W (l0 :: bs) f + more := by
        refine Int.le_antisymm hle ?_
        have := fold_mem (g := W (raiseB bs b n more)) (f := f) l0 (W (raiseB bs b n more) f) o0 (List.mem_of_getElem? ho0) hf0
        show W (l0 :: bs) f + more ≤ l0.foldl (stepO (W (raiseB bs b n more)) f) (W (raiseB bs b n more) f)
        omega
      refine ⟨hW, ?_⟩
      simp only [choose, List.getElem?_cons_succ]
      rw [hW, pickN_some (o := o0) ho0 ?_ ?_]
      · exact ih2
      · simp only [pickB, Bool.and_eq_true, decide_eq_true_eq]
        exact ⟨hf0, by omega⟩
      · intro j x hjn hx
        exact hlt x (List.mem_of_getElem? hx) (hfirst j x hjn hx)
end Go.Proofs.YtcigobiolbojhaaGreat.Vb

/- Plain: of one good, each buyer offering at most once, the costs' rule is the sealed one. -/
namespace Go.Proofs.YtcigobiolbojhaaGreat.Vb

def One (bs : List (List Off)) : Prop := ∀ l ∈ bs, l.length ≤ 1 ∧ ∀ o ∈ l, o.g = 1 ∧ 1 ≤ o.c ∧ o.c ≤ 1099511627776
theorem One.tail {l : List Off} {bs : List (List Off)} (h : One (l :: bs)) : One bs := fun x hx => h x (by simp [hx])
theorem One.offer {bs : List (List Off)} (h : One bs) : ∀ l ∈ bs, ∀ o ∈ l, Offer1 o := fun l hl o ho => by
  obtain ⟨h1, h2, h3⟩ := (h l hl).2 o ho
  exact ⟨by omega, by omega, h2, h3⟩
theorem One.W0 {bs : List (List Off)} (h : One bs) : W bs 0 = 0 := W_zero bs h.offer
theorem one_list {l : List Off} (h : l.length ≤ 1) : l = [] ∨ ∃ o, l = [o] := by
  rcases l with _ | ⟨o, _ | ⟨p, l⟩⟩
  · exact .inl rfl
  · exact .inr ⟨o, rfl⟩
  · simp at h
theorem W_nil1 (bs : List (List Off)) (f : Nat) : W ([] :: bs) f = W bs f := rfl
theorem W_one1 {bs : List (List Off)} {o : Off} (h : One ([o] :: bs)) : W ([o] :: bs) 1 = max (W bs 1) o.c := by
  have hg := ((h [o] (by simp)).2 o (by simp)).1
  have h0 := h.tail.W0
  simp only [W, List.foldl_cons, List.foldl_nil, stepO, hg]
  have h1 : andNot 1 1 = 0 := by decide
  rw [h1, if_pos rfl, h0]
  omega
theorem pick_nil (g : Nat → Int) (f : Nat) (left : Int) : pickN g f left [] = (-1, f) := rfl
theorem choose_zero : ∀ {bs : List (List Off)}, One bs → ∀ {i : Nat} {x : Int}, (choose bs 0)[i]? = some x → x = -1
  | [], _, i, x, h => by simp [choose] at h
  | l :: bs, ho, i, x, h => by
    have hp : pickN (W bs) 0 (W (l :: bs) 0) l = (-1, 0) := pickN_none fun j o _ hj => by
      obtain ⟨hg, _⟩ := (ho l (by simp)).2 o (List.mem_of_getElem? hj)
      simp [pickB, hg]
      intro h; exact absurd h (by decide)
    simp only [choose, hp] at h
    cases i with
    | zero => simpa using h.symm
    | succ i => exact choose_zero ho.tail (by simpa using h)
theorem choose_one {bs : List (List Off)} {o : Off} (h : One ([o] :: bs)) : choose ([o] :: bs) 1 = if W bs 1 ≤ o.c then 0 :: choose bs 0 else -1 :: choose bs 1 := by
  have hg := ((h [o] (by simp)).2 o (by simp)).1
  have h1 : andNot 1 1 = 0 := by decide
  simp only [choose]
  rw [W_one1 h]
  by_cases hle : W bs 1 ≤ o.c
  · rw [if_pos hle]
    have hp : pickN (W bs) 1 (max (W bs 1) o.c) [o] = (0, 0) := by
      rw [pickN_some (k := 0) (o := o) rfl]
      · rw [hg, h1]; rfl
      · simp only [pickB, hg, h1, h.tail.W0, Bool.and_eq_true, decide_eq_true_eq, true_and]; omega
      · intro j x hj; omega
    rw [hp]
  · rw [if_neg hle]
    have hp : pickN (W bs) 1 (max (W bs 1) o.c) [o] = (-1, 1) := pickN_none fun j x hj hx => by
      have : x = o := by
        cases j with
        | zero => simpa using hx.symm
        | succ j => simp at hx
      subst this
      simp only [pickB, hg, h1, h.tail.W0, Bool.and_eq_false_iff, decide_eq_false_iff_not]
      right; omega
    rw [hp]
theorem mx_ge : ∀ {bs : List (List Off)}, One bs → ∀ {i : Nat} {o : Off}, bs[i]? = some [o] → o.c ≤ W bs 1
  | [], _, i, o, h => by simp at h
  | l :: bs, ho, 0, o, h => by
    simp at h; subst h
    rw [W_one1 ho]; omega
  | l :: bs, ho, i + 1, o, h => by
    have ih := mx_ge ho.tail (by simpa using h)
    rcases one_list (ho l (by simp)).1 with rfl | ⟨p, rfl⟩
    · rw [W_nil1]; exact ih
    · rw [W_one1 ho]; omega
theorem mx_le : ∀ {bs : List (List Off)} {c : Int}, One bs → 0 ≤ c → (∀ (i : Nat) (o : Off), bs[i]? = some [o] → o.c ≤ c) → W bs 1 ≤ c
  | [], c, _, h0, _ => h0
  | l :: bs, c, ho, h0, h => by
    have ih := mx_le ho.tail h0 (fun i o hi => h (i + 1) o (by simpa using hi))
    rcases one_list (ho l (by simp)).1 with rfl | ⟨p, rfl⟩
    · rw [W_nil1]; exact ih
    · rw [W_one1 ho]
      have := h 0 p rfl
      omega

/-- buyer i has the first of the greatest -/
def Win (bs : List (List Off)) (i : Nat) (c : Int) : Prop := (∃ o, bs[i]? = some [o] ∧ o.c = c) ∧ (∀ (j : Nat) (o : Off), j < i → bs[j]? = some [o] → o.c < c) ∧ ∀ (j : Nat) (o : Off), bs[j]? = some [o] → o.c ≤ c
theorem Win.uniq {bs : List (List Off)} {i j : Nat} {c d : Int} (h : Win bs i c) (k : Win bs j d) : i = j ∧ c = d := by
  obtain ⟨⟨o, ho, hc⟩, h1, h2⟩ := h
  obtain ⟨⟨p, hp, hd⟩, k1, k2⟩ := k
  have e1 := h2 j p hp
  have e2 := k2 i o ho
  have : c = d := by omega
  refine ⟨?_, this⟩
  rcases Nat.lt_trichotomy i j with h | h | h
  · have := k1 i o h ho; omega
  · exact h
  · have := h1 j p h hp; omega
theorem Win.mx {bs : List (List Off)} {i : Nat} {c : Int} (ho : One bs) (h : Win bs i c) : W bs 1 = c := by
  obtain ⟨⟨o, h1, rfl⟩, _, h3⟩ := h
  have := ((ho [o] (List.mem_of_getElem? h1)).2 o (by simp)).2.1
  exact Int.le_antisymm (mx_le ho (by omega) h3) (mx_ge ho h1)
theorem Win.cons_nil {bs : List (List Off)} {i : Nat} {c : Int} : Win ([] :: bs) (i + 1) c ↔ Win bs i c := by
  constructor
  · rintro ⟨⟨o, h1, h2⟩, h3, h4⟩
    exact ⟨⟨o, by simpa using h1, h2⟩, fun j p hj hp => h3 (j + 1) p (by omega) (by simpa using hp), fun j p hp => h4 (j + 1) p (by simpa using hp)⟩
  · rintro ⟨⟨o, h1, h2⟩, h3, h4⟩
    refine ⟨⟨o, by simpa using h1, h2⟩, fun j p hj hp => ?_, fun j p hp => ?_⟩
    · cases j with
      | zero => simp at hp
      | succ j => exact h3 j p (by omega) (by simpa using hp)
    · cases j with
      | zero => simp at hp
      | succ j => exact h4 j p (by simpa using hp)
/-- who is chosen has the first of the greatest -/
theorem choose_win : ∀ {bs : List (List Off)}, One bs → ∀ {i : Nat} {x : Int}, (choose bs 1)[i]? = some x → (0 ≤ x ↔ ∃ c, Win bs i c)
  | [], _, i, x, h => by simp [choose] at h
  | l :: bs, ho, i, x, h => by
    rcases one_list (ho l (by simp)).1 with rfl | ⟨o, rfl⟩
    · have hc : choose ([] :: bs) 1 = -1 :: choose bs 1 := rfl
      rw [hc] at h
      cases i with
      | zero =>
        simp at h
        subst h
        constructor
        · intro h; omega
        · rintro ⟨c, ⟨o, h1, _⟩, _⟩; simp at h1
      | succ i =>
        rw [choose_win ho.tail (by simpa using h)]
        exact ⟨fun ⟨c, hc⟩ => ⟨c, Win.cons_nil.2 hc⟩, fun ⟨c, hc⟩ => ⟨c, Win.cons_nil.1 hc⟩⟩
    · rw [choose_one ho] at h
      have ho1 := ((ho [o] (by simp)).2 o (by simp)).2.1
      by_cases hle : W bs 1 ≤ o.c
      · rw [if_pos hle] at h
        cases i with
        | zero =>
          simp at h
          subst h
          refine ⟨fun _ => ⟨o.c, ⟨o, rfl, rfl⟩, fun j p hj => by omega, fun j p hp => ?_⟩, fun _ => by omega⟩
          cases j with
          | zero => simp at hp; subst hp; omega
          | succ j =>
            have := mx_ge ho.tail (i := j) (o := p) (by simpa using hp)
            omega
        | succ i =>
          have := choose_zero ho.tail (i := i) (x := x) (by simpa using h)
          subst this
          refine ⟨fun h => by omega, fun ⟨c, ⟨p, hp, hpc⟩, h3, _⟩ => ?_⟩
          have h1 := h3 0 o (by omega) rfl
          have h2 := mx_ge ho.tail (i := i) (o := p) (by simpa using hp)
          omega
      · rw [if_neg hle] at h
        cases i with
        | zero =>
          simp at h
          subst h
          refine ⟨fun h => by omega, fun ⟨c, ⟨p, hp, hpc⟩, h3, h4⟩ => ?_⟩
          simp at hp
          subst hp
          have : W bs 1 ≤ c := mx_le ho.tail (by omega) (fun j q hq => h4 (j + 1) q (by simpa using hq))
          omega
        | succ i =>
          rw [choose_win ho.tail (by simpa using h)]
          constructor
          · rintro ⟨c, hw⟩
            have hm := hw.mx ho.tail
            obtain ⟨⟨p, h1, h2⟩, h3, h4⟩ := hw
            refine ⟨c, ⟨p, by simpa using h1, h2⟩, fun j q hj hq => ?_, fun j q hq => ?_⟩
            · cases j with
              | zero => simp at hq; subst hq; omega
              | succ j => exact h3 j q (by omega) (by simpa using hq)
            · cases j with
              | zero => simp at hq; subst hq; omega
              | succ j => exact h4 j q (by simpa using hq)
          · rintro ⟨c, ⟨p, h1, h2⟩, h3, h4⟩
            exact ⟨c, ⟨p, by simpa using h1, h2⟩, fun j q hj hq => h3 (j + 1) q (by omega) (by simpa using hq), fun j q hq => h4 (j + 1) q (by simpa using hq)⟩

theorem bestK_nil {floor but : Int} {l : List Sec} : ∀ {k : Nat}, k ≤ l.length → bestK floor but l k = none → ∀ (i : Nat) (s : Sec), i < k → (i : Int) ≠ but → l[i]? = some s → s.c < floor
  | 0, _, _, i, s, hi, _, _ => by omega
  | k + 1, hk, h, i, s, hi, hne, hs => by
    obtain ⟨t, ht⟩ : ∃ s, l[k]? = some s := ⟨_, List.getElem?_eq_getElem (by omega)⟩
    rw [bestK_succ ht, bstep] at h
    split at h
    · cases h
    · rename_i hc
      rcases Nat.lt_or_ge i k with hik | hik
      · exact bestK_nil (by omega) h i s hik hne hs
      · obtain rfl : i = k := by omega
        have e : t = s := Option.some.inj (ht.symm.trans hs)
        subst e
        rw [h] at hc
        simp only [beats, Bool.and_eq_true, decide_eq_true_eq, not_and] at hc
        rcases Int.lt_or_le t.c floor with h6 | h6
        · exact h6
        · exact absurd trivial (hc ⟨hne, h6⟩)
/-- what the best of the first k is -/
theorem bestK_some {floor but : Int} {l : List Sec} : ∀ {k j : Nat} {c : Int}, k ≤ l.length → bestK floor but l k = some (j, c) → (j : Int) ≠ but ∧ floor ≤ c ∧ (∃ s, l[j]? = some s ∧ s.c = c) ∧ (∀ (i : Nat) (s : Sec), i < j → (i : Int) ≠ but → floor ≤ s.c → l[i]? = some s → s.c < c) ∧ ∀ (i : Nat) (s : Sec), i < k → (i : Int) ≠ but → l[i]? = some s → s.c ≤ c
  | 0, j, c, _, h => by simp [bestK] at h
  | k + 1, j, c, hk, h => by
    obtain ⟨s, hs⟩ : ∃ s, l[k]? = some s := ⟨_, List.getElem?_eq_getElem (by omega)⟩
    rw [bestK_succ hs, bstep] at h
    split at h
    · rename_i hc
      simp only [Option.some.injEq, Prod.mk.injEq] at h
      obtain ⟨rfl, rfl⟩ := h
      simp only [Bool.and_eq_true, decide_eq_true_eq] at hc
      obtain ⟨⟨h1, h2⟩, h3⟩ := hc
      cases hb : bestK floor but l k with
      | none =>
        have hn : ∀ (i : Nat) (t : Sec), i < k → (i : Int) ≠ but → l[i]? = some t → t.c < floor := bestK_nil (by omega) hb
        exact ⟨h1, h2, ⟨s, hs, rfl⟩, fun i t hi hne hf ht => by have := hn i t hi hne ht; omega, fun i t hi hne ht => by
          rcases Nat.lt_or_ge i k with h | h
          · have := hn i t h hne ht; omega
          · obtain rfl : i = k := by omega
            rw [hs] at ht; cases ht; omega⟩
      | some p =>
        obtain ⟨j0, c0⟩ := p
        rw [hb] at h3
        simp only [beats, decide_eq_true_eq] at h3
        obtain ⟨_, _, _, _, h5⟩ := bestK_some (by omega) hb
        exact ⟨h1, h2, ⟨s, hs, rfl⟩, fun i t hi hne _ ht => by have := h5 i t hi hne ht; omega, fun i t hi hne ht => by
          rcases Nat.lt_or_ge i k with h | h
          · have := h5 i t h hne ht; omega
          · obtain rfl : i = k := by omega
            rw [hs] at ht; cases ht; omega⟩
    · rename_i hc
      obtain ⟨h1, h2, h3, h4, h5⟩ := bestK_some (by omega) h
      refine ⟨h1, h2, h3, h4, fun i t hi hne ht => ?_⟩
      rcases Nat.lt_or_ge i k with hik | hik
      · exact h5 i t hik hne ht
      · obtain rfl : i = k := by omega
        rw [hs] at ht
        cases ht
        rw [h] at hc
        simp only [beats, Bool.and_eq_true, decide_eq_true_eq, not_and] at hc
        rcases Int.lt_or_le s.c floor with h6 | h6
        · omega
        · have := hc ⟨hne, h6⟩; omega
theorem bestK_none' {floor but : Int} {l : List Sec} {k : Nat} (hk : k ≤ l.length) (h : bestK floor but l k = none) : ∀ (i : Nat) (s : Sec), i < k → (i : Int) ≠ but → l[i]? = some s → s.c < floor := bestK_nil hk h

/-- the bids of the first k buyers -/
def bidsTo (bs : List (List Off)) : Nat → List Sec
  | 0 => []
  | k + 1 => match bs[k]? with | some [o] => bidsTo bs k ++ [⟨k, o.c⟩] | _ => bidsTo bs k
theorem bidsTo_mem {bs : List (List Off)} : ∀ {k : Nat} {s : Sec}, s ∈ bidsTo bs k ↔ ∃ (i : Nat) (o : Off), i < k ∧ bs[i]? = some [o] ∧ s = ⟨i, o.c⟩
  | 0, s => by simp [bidsTo]
  | k + 1, s => by
    simp only [bidsTo]
    split
    · rename_i o ho
      rw [List.mem_append, bidsTo_mem]
      constructor
      · rintro (⟨i, p, h1, h2, h3⟩ | h)
        · exact ⟨i, p, by omega, h2, h3⟩
        · simp at h; exact ⟨k, o, by omega, ho, h⟩
      · rintro ⟨i, p, h1, h2, h3⟩
        rcases Nat.lt_or_ge i k with h | h
        · exact .inl ⟨i, p, h, h2, h3⟩
        · obtain rfl : i = k := by omega
          rw [ho] at h2
          simp at h2
          subst h2
          exact .inr (by simp [h3])
    · rename_i hno
      rw [bidsTo_mem]
      constructor
      · rintro ⟨i, p, h1, h2, h3⟩; exact ⟨i, p, by omega, h2, h3⟩
      · rintro ⟨i, p, h1, h2, h3⟩
        refine ⟨i, p, ?_, h2, h3⟩
        rcases Nat.lt_or_ge i k with h | h
        · exact h
        · obtain rfl : i = k := by omega
          exact absurd h2 (hno p)
theorem bidsTo_sorted (bs : List (List Off)) : ∀ k, (bidsTo bs k).Pairwise (fun s t => s.b < t.b)
  | 0 => by simp [bidsTo]
  | k + 1 => by
    simp only [bidsTo]
    split
    · refine List.pairwise_append.2 ⟨bidsTo_sorted bs k, by simp, fun s hs t ht => ?_⟩
      obtain ⟨i, o, h1, _, rfl⟩ := bidsTo_mem.1 hs
      simp at ht
      subst ht
      simp only
      omega
    · exact bidsTo_sorted bs k
theorem bidsTo_len (bs : List (List Off)) : ∀ k, (bidsTo bs k).length ≤ k
  | 0 => by simp [bidsTo]
  | k + 1 => by
    have := bidsTo_len bs k
    simp only [bidsTo]
    split
    · simp; omega
    · omega
theorem sorted_idx {l : List Sec} (h : l.Pairwise (fun s t => s.b < t.b)) {i j : Nat} {s t : Sec} (hi : l[i]? = some s) (hj : l[j]? = some t) : i < j ↔ s.b < t.b := by
  obtain ⟨h1, rfl⟩ := List.getElem?_eq_some_iff.1 hi
  obtain ⟨h2, rfl⟩ := List.getElem?_eq_some_iff.1 hj
  have hp := List.pairwise_iff_getElem.1 h
  constructor
  · intro hij; exact hp i j h1 h2 hij
  · intro hlt
    rcases Nat.lt_trichotomy i j with h' | h' | h'
    · exact h'
    · subst h'; omega
    · have := hp j i h2 h1 h'; omega

/-- the two rules agree -/
theorem single_plain {bs : List (List Off)} (ho : One bs) (hi : instE 1 bs = 0) : ∀ (i : Nat) (x : Int), (bestC 1 bs)[i]? = some x →
    match bestK 0 (-1) (bidsTo bs bs.length) (bidsTo bs bs.length).length with
    | none => x < 0
    | some (j, _) => (0 ≤ x ↔ ((((bidsTo bs bs.length)[j]?.map (·.b)).getD 0) = (i : Int))) ∧ (0 ≤ x → payAt 1 bs i x = nextC 0 (bidsTo bs bs.length) j) := by
  intro i x hx
  have hall : allOf 1 = 1 := by decide
  have hx' : (choose bs 1)[i]? = some x := by
    have := hx
    unfold bestC at this
    rwa [hall] at this
  have hwin := choose_win ho hx'
  have hlt : i < bs.length := by
    have := (List.getElem?_eq_some_iff.1 hx').1
    rwa [choose_length] at this
  have hsort := bidsTo_sorted bs bs.length
  have hmem : ∀ (q : Nat) (o : Off), bs[q]? = some [o] → ∃ p : Nat, (bidsTo bs bs.length)[p]? = some (⟨(q : Int), o.c⟩ : Sec) := fun q o hq =>
    List.getElem?_of_mem ((bidsTo_mem (s := ⟨(q : Int), o.c⟩)).2 ⟨q, o, (List.getElem?_eq_some_iff.1 hq).1, hq, rfl⟩)
  cases hb : bestK 0 (-1) (bidsTo bs bs.length) (bidsTo bs bs.length).length with
  | none =>
    simp only
    rcases Int.lt_or_le x 0 with h | h
    · exact h
    · obtain ⟨c, ⟨o, h1, h2⟩, _⟩ := hwin.1 h
      obtain ⟨p, hp⟩ := hmem i o h1
      have : o.c < 0 := bestK_none' (Nat.le_refl _) hb p _ (List.getElem?_eq_some_iff.1 hp).1 (by omega) hp
      have := ((ho [o] (List.mem_of_getElem? h1)).2 o (by simp)).2.1
      omega
  | some p =>
    obtain ⟨j, c⟩ := p
    simp only
    obtain ⟨_, _, ⟨s, hs, hsc⟩, hfirst, hmax⟩ := bestK_some (Nat.le_refl _) hb
    obtain ⟨q, o, hq, hqo, hsq⟩ := bidsTo_mem.1 (List.mem_of_getElem? hs)
    have hW : Win bs q c := by
      refine ⟨⟨o, hqo, by rw [← hsc, hsq]⟩, fun r t hr ht => ?_, fun r t ht => ?_⟩
      · obtain ⟨p, hp⟩ := hmem r t ht
        have hpj : p < j := (sorted_idx hsort hp hs).2 (by rw [hsq]; simp only; omega)
        have := ((ho [t] (List.mem_of_getElem? ht)).2 t (by simp)).2.1
        exact hfirst p _ hpj (by omega) (by simp only; omega) hp
      · obtain ⟨p, hp⟩ := hmem r t ht
        exact hmax p _ (List.getElem?_eq_some_iff.1 hp).1 (by omega) hp
    have hsb : (((bidsTo bs bs.length)[j]?.map (·.b)).getD 0) = (q : Int) := by rw [hs, hsq]; rfl
    rw [hsb]
    have hiff : 0 ≤ x ↔ (q : Int) = (i : Int) := by
      rw [hwin]
      constructor
      · rintro ⟨d, hd⟩; have := (hW.uniq hd).1; omega
      · intro h
        have : q = i := by omega
        subst this
        exact ⟨c, hW⟩
    refine ⟨hiff, fun h0 => ?_⟩
    have hqi : q = i := by have := hiff.1 h0; omega
    subst hqi
    -- what it pays is what the others have
    obtain ⟨x0, rfl⟩ : ∃ x0 : Nat, x = (x0 : Int) := ⟨x.toNat, by omega⟩
    rcases choose_get _ _ _ _ hx' with hm1 | ⟨j0, l0, o0, hj0, hl0, ho0⟩
    · omega
    · rw [hqo] at hl0
      have hl0' := (Option.some.inj hl0).symm
      subst hl0'
      have hj00 : j0 = 0 := by
        cases j0 with
        | zero => rfl
        | succ j0 => simp at ho0
      subst hj00
      simp at ho0
      subst ho0
      unfold payAt
      rw [if_neg (by omega), hj0, coinAt_some hqo (show [o][0]? = some o from rfl), hall, hW.mx ho]
      have hwo : woW 1 bs (q : Int) = W (bs.set q []) 1 := by
        unfold woW
        rw [if_pos (instE_withE hi hlt), hall]
        rfl
      have hoc : o.c = c := by rw [← hsc, hsq]
      rw [hwo, hoc]
      have hos : One (bs.set q []) := fun l hl => by
        rcases List.mem_or_eq_of_mem_set hl with h | rfl
        · exact ho l h
        · simp
      have hsame : ∀ (r : Nat) (t : Off), (bs.set q [])[r]? = some [t] ↔ r ≠ q ∧ bs[r]? = some [t] := fun r t => by
        rw [List.getElem?_set]
        by_cases hr : q = r
        · subst hr; simp [hlt]
        · simp [hr]; intro _ e; exact hr e.symm
      have hne : ∀ {p : Nat} {u : Sec}, (bidsTo bs bs.length)[p]? = some u → p ≠ j → u.b ≠ (q : Int) := fun {p u} hp hpj e => by
        have h1 := sorted_idx hsort hp hs
        have h2 := sorted_idx hsort hs hp
        rw [hsq] at h1 h2
        simp only at h1 h2
        omega
      have hgoal : W (bs.set q []) 1 = nextC 0 (bidsTo bs bs.length) j := by
        unfold nextC
        cases hb2 : bestK 0 (j : Int) (bidsTo bs bs.length) (bidsTo bs bs.length).length with
        | none =>
          simp only
          refine Int.le_antisymm (mx_le hos (Int.le_refl _) fun r t ht => ?_) (W_nonneg _ _)
          obtain ⟨hrq, hrt⟩ := (hsame r t).1 ht
          obtain ⟨p, hp⟩ := hmem r t hrt
          have hpj : (p : Int) ≠ (j : Int) := fun e => by
            have : p = j := by omega
            subst this
            rw [hs] at hp
            cases hp
            simp at hsq
            omega
          have : t.c < 0 := bestK_none' (Nat.le_refl _) hb2 p _ (List.getElem?_eq_some_iff.1 hp).1 hpj hp
          omega
        | some p2 =>
          obtain ⟨j2, c2⟩ := p2
          simp only
          obtain ⟨hj2, hf2, ⟨s2, hs2, hsc2⟩, _, hmax2⟩ := bestK_some (Nat.le_refl _) hb2
          obtain ⟨q2, o2, hq2, hqo2, hsq2⟩ := bidsTo_mem.1 (List.mem_of_getElem? hs2)
          have hq2q : q2 ≠ q := fun e => hne hs2 (by omega) (by rw [hsq2]; simp only; omega)
          refine Int.le_antisymm (mx_le hos hf2 fun r t ht => ?_) ?_
          · obtain ⟨hrq, hrt⟩ := (hsame r t).1 ht
            obtain ⟨p, hp⟩ := hmem r t hrt
            have hpj : (p : Int) ≠ (j : Int) := fun e => by
              have : p = j := by omega
              subst this
              rw [hs] at hp
              cases hp
              simp at hsq
              omega
            exact hmax2 p _ (List.getElem?_eq_some_iff.1 hp).1 hpj hp
          · have := mx_ge hos ((hsame q2 o2).2 ⟨hq2q, hqo2⟩)
            rw [← hsc2, hsq2]
            exact this
      rw [hgoal]
      omega
end Go.Proofs.YtcigobiolbojhaaGreat.Vb

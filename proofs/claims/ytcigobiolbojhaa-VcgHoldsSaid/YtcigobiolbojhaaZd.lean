/- Joined by program: Ref17c Plain17 Ref17d Ref17e Ref17f Law1 Each1 Works Works2 Giv Stays. -/
import Derived.Test.YtcigobiolbojhaaZc
import Derived.Deep.CutRange
import Derived.Deep.RegionWith
import Derived.Deep.RegionHeld3
/- The reference of layer 17: Costs. -/
namespace Go.Proofs.Ytcigobiolbojhaa.Vb
open Go.RowKit

theorem two_blk' {w w1 : World} {cs ds : Array Value} {t u : TypeId} (hb : Below ((w.alloc (.cells cs t)).alloc (.cells ds u)).heap.size ((w.alloc (.cells cs t)).alloc (.cells ds u)) w1) :
    Blk w1 w.heap.size t cs ∧ Blk w1 (w.heap.size + 1) u ds ∧ w.heap.size + 2 ≤ w1.heap.size ∧ Below w.heap.size w w1 := by
  have hb' := hb.mono (B' := w.heap.size + 2) (by simp)
  have hs := hb'.size
  simp at hs
  exact ⟨(two_blk hb').1, (two_blk hb').2, hs, (((Below.refl _ _).alloc (Nat.le_refl _) _).alloc (by simp) _).trans (hb'.mono (by omega))⟩

theorem own_alloc {w : World} {base : Nat} {e : TypeId} {sz n : Nat} {v : Value} {xs : List Value} (h : w.ownsRow base e sz v n xs) (o : Obj) : (w.alloc o).ownsRow base e sz v n xs :=
  own_grow h ((Below.refl _ _).alloc (Nat.le_refl _) o)
theorem three_own {w : World} {base : Nat} {e t : TypeId} {sz n g : Nat} {v a b c : Value} {xs : List Value} {cs : Array Value} (h : w.ownsRow base e sz v n xs) (hb : Blk w g t cs) (he : e ≠ t) :
    (((w.setCell ⟨g, 0, none⟩ a).setCell ⟨g, 1, none⟩ b).setCell ⟨g, 2, none⟩ c).ownsRow base e sz v n xs := by
  have hne := own_ne_blk h hb he
  have hr : ∀ x, some g = some x → v.ownBlock ≠ some x := fun x e => by injection e with e; subst e; exact hne
  exact own_far (own_far (own_far h (grownBy_setCell w ⟨g, 0, none⟩ a) hr) (grownBy_setCell _ ⟨g, 1, none⟩ b) hr) (grownBy_setCell _ ⟨g, 2, none⟩ c) hr

/-- what stands behind the making of the answer -/
def PaidCut (n : Int) (bs : List (List Off)) (w1 wr : World) (p : Value) : Prop := ∃ (gp : Nat) (A1 : Option Addr) (c1 : Nat), p = .pointer (some ⟨gp, 0, none⟩) ∧ w1.heap.size ≤ gp ∧
    Blk wr gp 36 #[.slice A1 bs.length c1, .int .i64 (W bs (allOf n)), .slice none 0 0] ∧ wr.ownsRow w1.heap.size 3 1 (.slice A1 bs.length c1) bs.length (ints (bestC n bs)) ∧ Below w1.heap.size w1 wr
section
variable {n : Int} {bs : List (List Off)} {w1 w2 w3 : World} {A1 : Option Addr} {c1 : Nat}
theorem paidCut_c (hown : w2.ownsRow w1.drew.heap.size 3 1 (.slice A1 bs.length c1) bs.length (ints (bestC n bs))) (hb2 : Below w1.drew.heap.size w1.drew w2) (hb3 : Below w2.heap.size w2 w3) :
    PaidCut n bs w1 (w3.alloc (.cells #[.slice A1 bs.length c1, .int .i64 (W bs (allOf n)), .slice none 0 0] 36)) (.pointer (some ⟨w3.heap.size, 0, none⟩)) := by
  have h2 : w1.heap.size ≤ w2.heap.size := by have := hb2.size; simpa using this
  have h3 := hb3.size
  exact ⟨w3.heap.size, A1, c1, rfl, by omega, Blk.new w3 _ _, own_alloc (own_grow hown hb3) _, (((Below.refl _ _).drew.trans hb2).trans (hb3.mono h2)).alloc (by simp; omega) _⟩
theorem paidCut_b (hown : w2.ownsRow w1.drew.heap.size 3 1 (.slice A1 bs.length c1) bs.length (ints (bestC n bs))) (hb2 : Below w1.drew.heap.size w1.drew w2)
    (hb3 : Below (w2.alloc (.cells #[.slice none 0 0, .int .i64 0, .slice none 0 0] 36)).heap.size (w2.alloc (.cells #[.slice none 0 0, .int .i64 0, .slice none 0 0] 36)) w3) (hp3 : Blk w3 w2.heap.size 36 #[.slice none 0 0, .int .i64 0, .slice none 0 0]) :
    PaidCut n bs w1 (((w3.setCell ⟨w2.heap.size, 0, none⟩ (.slice A1 bs.length c1)).setCell ⟨w2.heap.size, 1, none⟩ (.int .i64 (W bs (allOf n)))).setCell ⟨w2.heap.size, 2, none⟩ (.slice none 0 0)) (.pointer (some ⟨w2.heap.size, 0, none⟩)) := by
  have h2 : w1.heap.size ≤ w2.heap.size := by have := hb2.size; simpa using this
  refine ⟨w2.heap.size, A1, c1, rfl, h2, ((hp3.set_ 0 _).set_ 1 _).set_ 2 _, three_own (own_grow (own_alloc hown _) hb3) hp3 (by decide), ?_⟩
  exact ((((((Below.refl _ _).drew.trans hb2).alloc h2 _).trans (hb3.mono (by simp; omega))).setCell (p := ⟨w2.heap.size, 0, none⟩) h2 _).setCell (p := ⟨w2.heap.size, 1, none⟩) h2 _).setCell (p := ⟨w2.heap.size, 2, none⟩) h2 _
theorem paidCut_a (hown : w2.ownsRow (w1.alloc (.cells #[.slice none 0 0, .int .i64 0, .slice none 0 0] 36)).drew.heap.size 3 1 (.slice A1 bs.length c1) bs.length (ints (bestC n bs)))
    (hb2 : Below (w1.alloc (.cells #[.slice none 0 0, .int .i64 0, .slice none 0 0] 36)).drew.heap.size (w1.alloc (.cells #[.slice none 0 0, .int .i64 0, .slice none 0 0] 36)).drew w2) (hb3 : Below w2.heap.size w2 w3) (hp3 : Blk w3 w1.heap.size 36 #[.slice none 0 0, .int .i64 0, .slice none 0 0]) :
    PaidCut n bs w1 (((w3.setCell ⟨w1.heap.size, 0, none⟩ (.slice A1 bs.length c1)).setCell ⟨w1.heap.size, 1, none⟩ (.int .i64 (W bs (allOf n)))).setCell ⟨w1.heap.size, 2, none⟩ (.slice none 0 0)) (.pointer (some ⟨w1.heap.size, 0, none⟩)) := by
  have h2 : w1.heap.size + 1 ≤ w2.heap.size := by have := hb2.size; simpa using this
  refine ⟨w1.heap.size, A1, c1, rfl, Nat.le_refl _, ((hp3.set_ 0 _).set_ 1 _).set_ 2 _, own_mono (three_own (own_grow hown hb3) hp3 (by decide)) (by simp), ?_⟩
  exact ((((((Below.refl _ _).alloc (Nat.le_refl _) _).drew.trans (hb2.mono (by simp))).trans (hb3.mono (by omega))).setCell (p := ⟨w1.heap.size, 0, none⟩) (Nat.le_refl _) _).setCell (p := ⟨w1.heap.size, 1, none⟩) (Nat.le_refl _) _).setCell (p := ⟨w1.heap.size, 2, none⟩) (Nat.le_refl _) _
end

set_option maxRecDepth 100000 in
set_option maxHeartbeats 3200000 in
theorem refCosts_ok (n : Int) (bs : List (List Off)) (v : Value) (R : Nat → Prop) (w : World) (hl : Buys w R v bs) (hi : instE n bs = 0) :
    Calls Try.prog 17 #[.agg #[.int .i64 n, v]] w fun e w' => ∃ A1 c1 A2 c2, e = .returned (.tuple #[.agg #[.slice A1 bs.length c1, .int .i64 (W bs (allOf n)), .slice A2 bs.length c2], .int .i64 0]) ∧
      w'.ownsRow w.heap.size 3 1 (.slice A1 bs.length c1) bs.length (ints (bestC n bs)) ∧ w'.ownsRow w.heap.size 2 1 (.slice A2 bs.length c2) bs.length (ints (paysC n bs)) ∧ Below w.heap.size w w' := by
  obtain ⟨vs, ⟨_, A, cap, rfl, hnc, hcm, hcs⟩, hvs⟩ := id hl
  have hwf := hl.wf
  have HB := Lib.hid hl
  have HI := Lib.hid hi
  have HCS := Lib.hid hcs
  have HVS := Lib.hid hvs
  have HWF := Lib.hid hwf
  have hl32 := (instE_zero hi).2.2.1
  clear hl hi hcs hvs hcm hwf
  go_enter Try.func17, Try.ntmps17
  go_wp2_with (go_at_call 30; refine (refInstance_any n bs _ R _ ((HB.out.alloc _).alloc _)).mono ?_; rintro e w1 ⟨rfl, hb1⟩; rw [HI.out]; obtain ⟨hX, hP, hs1, hbw⟩ := two_blk' hb1; have x0 : w1.cell? ⟨w.heap.size, 0, none⟩ = some (.int .i64 n) := hX.cell 0; have x1 : w1.cell? ⟨w.heap.size, 1, none⟩ = some (.slice A bs.length cap) := hX.cell 1; have HX := Lib.hid hX; have HP := Lib.hid hP; have HBW := Lib.hid hbw; clear hX hP hb1 hbw)
  go_cut [5] from 16 to 20 (fun p wr => PaidCut n bs w1 wr p)
  case first =>
    have x0' := cellAlloc x0
    have x1' := cellAlloc x1
    go_region_with (first
      | (go_at_call 80; refine (refBest_any n bs _ R w1.drew (HB.out.grow HBW.out).drew HI.out).mono ?_; rintro e w2 ⟨A1, c1, rfl, hown, hb2⟩; obtain ⟨e0, e1⟩ : w2.cell? ⟨w.heap.size, 0, none⟩ = some (.int .i64 n) ∧ w2.cell? ⟨w.heap.size, 1, none⟩ = some (.slice A bs.length cap) := ⟨(hb2.cell (p := ⟨w.heap.size, 0, none⟩) (by simp; omega)).trans x0, (hb2.cell (p := ⟨w.heap.size, 1, none⟩) (by simp; omega)).trans x1⟩; have e0' := cellAlloc e0; have e1' := cellAlloc e1)
      | (go_at_call 80; refine (refBest_any n bs _ R (w1.alloc (.cells #[.slice none 0 0, .int .i64 0, .slice none 0 0] 36)).drew ((HB.out.grow HBW.out).alloc _).drew HI.out).mono ?_; rintro e w2 ⟨A1, c1, rfl, hown, hb2⟩; obtain ⟨e0, e1, hp2⟩ : w2.cell? ⟨w.heap.size, 0, none⟩ = some (.int .i64 n) ∧ w2.cell? ⟨w.heap.size, 1, none⟩ = some (.slice A bs.length cap) ∧ Blk w2 w1.heap.size 36 #[.slice none 0 0, .int .i64 0, .slice none 0 0] := ⟨(hb2.cell (p := ⟨w.heap.size, 0, none⟩) (by simp; omega)).trans (x0' _), (hb2.cell (p := ⟨w.heap.size, 1, none⟩) (by simp; omega)).trans (x1' _), (Blk.new w1 _ _).drew.grow hb2⟩)
      | (go_at_call 81; refine (refW_any n bs _ R w2 ((show Buys (w1.alloc (.cells #[.slice none 0 0, .int .i64 0, .slice none 0 0] 36)).drew R _ _ from ((HB.out.grow HBW.out).alloc _).drew).grow hb2) HI.out).mono ?_; rintro e w3 ⟨rfl, hb3⟩; have hp3 := hp2.grow hb3; obtain ⟨p0, p1, p2⟩ : w3.cell? ⟨w1.heap.size, 0, none⟩ = some (.slice none 0 0) ∧ w3.cell? ⟨w1.heap.size, 1, none⟩ = some (.int .i64 0) ∧ w3.cell? ⟨w1.heap.size, 2, none⟩ = some (.slice none 0 0) := ⟨hp3.cell 0, hp3.cell 1, hp3.cell 2⟩; have pf := hp3.frozen)
      | (go_at_call 81; refine (refW_any n bs _ R w2 ((show Buys w1.drew R _ _ from (HB.out.grow HBW.out).drew).grow hb2) HI.out).mono ?_; rintro e w3 ⟨rfl, hb3⟩)
      | (go_at_call 81; refine (refW_any n bs _ R (w2.alloc (.cells #[.slice none 0 0, .int .i64 0, .slice none 0 0] 36)) (((show Buys w1.drew R _ _ from (HB.out.grow HBW.out).drew).grow hb2).alloc _) HI.out).mono ?_; rintro e w3 ⟨rfl, hb3⟩; have hp3 := (Blk.new w2 _ _).grow hb3; obtain ⟨p0, p1, p2⟩ : w3.cell? ⟨w2.heap.size, 0, none⟩ = some (.slice none 0 0) ∧ w3.cell? ⟨w2.heap.size, 1, none⟩ = some (.int .i64 0) ∧ w3.cell? ⟨w2.heap.size, 2, none⟩ = some (.slice none 0 0) := ⟨hp3.cell 0, hp3.cell 1, hp3.cell 2⟩; have pf := hp3.frozen))
    all_goals (go_wp2_with fail; go_meet)
    all_goals first
      | exact paidCut_a hown hb2 hb3 (hp2.grow hb3)
      | exact paidCut_b hown hb2 hb3 hp3
      | exact paidCut_c hown hb2 hb3
  case rest =>
    obtain ⟨gp, A1, c1, rfl, hgp, hP0, hC0, hb0⟩ := hcut
    go_wp2_with fail
    go_loopw [6] (fun i wr => ∃ (k : Nat) (A' : Option Addr) (cap' : Nat), k ≤ bs.length ∧ i = .int .i64 k ∧ Blk wr gp 36 #[.slice A1 bs.length c1, .int .i64 (W bs (allOf n)), .slice A' k cap'] ∧
        wr.ownsRow w1.heap.size 2 1 (.slice A' k cap') k (ints ((paysC n bs).take k)) ∧ wr.ownsRow w1.heap.size 3 1 (.slice A1 bs.length c1) bs.length (ints (bestC n bs)) ∧ Below w1.heap.size w1 wr)
      (fun i _ => bs.length - (intOf i).toNat)
    case atStart => exact ⟨0, none, 0, Nat.zero_le _, rfl, hP0, World.ownsRow_nil _ _ _ _, hC0, hb0⟩
    case round =>
      obtain ⟨k, A', cap', hk, rfl, hP1, hown, hch, hbr⟩ := hrel
      have hX1 := HX.out.grow hbr
      have hbw := HBW.out.trans (hbr.mono (by omega))
      have x0 : wr.cell? ⟨w.heap.size, 0, none⟩ = some (.int .i64 n) := hX1.cell 0
      have x1 : wr.cell? ⟨w.heap.size, 1, none⟩ = some (.slice A bs.length cap) := hX1.cell 1
      have hszr := hbr.size
      have HX3 := Lib.hid hX1
      have HP3 := Lib.hid hP1
      have HO3 := Lib.hid hown
      have HC3 := Lib.hid hch
      have HB1 := Lib.hid hbr
      have HBW1 := Lib.hid hbw
      have HBY := Lib.hid (HB.out.grow hbw)
      clear hP0 hC0 hb0
      by_cases hlt : k < bs.length
      · obtain ⟨c, hc⟩ : ∃ c, (bestC n bs)[k]? = some c := ⟨_, List.getElem?_eq_getElem (by rw [bestC, choose_length]; exact hlt)⟩
        have hpg := paysC_get hc
        have hlC : (bestC n bs).length = bs.length := by rw [bestC, choose_length]
        obtain ⟨gC, capC, hAC, hgC, hgC2⟩ := World.ownsRow.form hch (by omega)
        injection hAC with hAC _ hcC
        subst hAC hcC
        have hgood := choose_get bs (allOf n) k c hc
        obtain ⟨hw0, hw1⟩ := woW_bd HWF.out HI.out k
        have hok := (okb_of HWF.out HI.out).1
        have hW0 := W_nonneg bs (allOf n)
        have hW1 : W bs (allOf n) ≤ 35184372088832 := by simpa using hok.W_le 0 (allOf n)
        have hcoin : 0 ≤ coinAt bs k c ∧ coinAt bs k c ≤ 1099511627776 := by
          rcases hgood with rfl | ⟨j, l, o, rfl, h1, h2⟩
          · rw [coinAt_neg (by decide)]; omega
          · rw [coinAt_some h1 h2]
            obtain ⟨_, _, h3, h4⟩ := hok.offer h1 h2
            omega
        have hpay : payAt n bs k c = if c < 0 then 0 else woW n bs k - (W bs (allOf n) - coinAt bs k c) := by
          unfold payAt
          split
          · rfl
          · omega
        rw [hpay] at hpg
        generalize hgc : coinAt bs k c = co at *
        have hsub1 : IntKind.i64.wrap (W bs (allOf n) - co) = W bs (allOf n) - co := IntWalk.i64_in _ (by omega)
        have hsub2 : IntKind.i64.wrap (woW n bs k - (W bs (allOf n) - co)) = woW n bs k - (W bs (allOf n) - co) := IntWalk.i64_in _ (by omega)
        have hcell : ∀ W' : World, Below wr.heap.size wr W' → W'.cell? ⟨w.heap.size, 0, none⟩ = some (.int .i64 n) ∧ W'.cell? ⟨w.heap.size, 1, none⟩ = some (.slice A bs.length cap) ∧ W'.cell? ⟨gp, 1, none⟩ = some (.int .i64 (W bs (allOf n))) ∧
            W'.cell? ⟨gp, 0, none⟩ = some (.slice (some ⟨gC, 0, none⟩) bs.length c1) ∧ W'.cell? ⟨gC, k, none⟩ = some (.int .i64 c) ∧ W'.cell? ⟨gp, 2, none⟩ = some (.slice A' k cap') := fun W' hb => by
          refine ⟨(hX1.grow hb).cell 0, (hX1.grow hb).cell 1, (hP1.grow hb).cell 1, (hP1.grow hb).cell 0, ?_, (hP1.grow hb).cell 2⟩
          rw [(own_grow hch hb).cellAt k (by omega)]
          simp [ints, hc]
        have HSL : Hid (∀ W' : World, Below wr.heap.size wr W' → Sl W' (fun _ => True) (.slice (some ⟨gC, 0, none⟩) bs.length c1) (bestC n bs).length 1 (ints (bestC n bs))) := fun W' hb => by
          rw [hlC]
          exact (Sl.of_own (own_grow hch hb)).mono fun _ _ _ => trivial
        have HCELL := Lib.hid hcell
        have HPG := Lib.hid hpg
        have HC := Lib.hid hc
        have HGOOD := Lib.hid hgood
        have HGC := Lib.hid hgc
        clear hX1 hP1 hown hch hbr hbw hc hpg hgood hgc hcell hpay hlC
        go_wp2_with (go_at_call 25; refine (refWithout_any n bs (k : Nat) _ R _ HBY.out).mono ?_; rintro e w3 ⟨rfl, hb3⟩; obtain ⟨y0, y1, y2, y3, y4, y5⟩ := HCELL.out w3 hb3; have HB3 := Lib.hid hb3; clear hb3)
        go_region_held3 (fun w' => w'.cell? ⟨gp, 1, none⟩ = some (.int .i64 (W bs (allOf n))) ∧ w'.cell? ⟨w.heap.size, 0, none⟩ = some (.int .i64 n) ∧ w'.cell? ⟨w.heap.size, 1, none⟩ = some (.slice A bs.length cap) ∧ w'.cell? ⟨gp, 0, none⟩ = some (.slice (some ⟨gC, 0, none⟩) bs.length c1)) (go_keep)
          ((go_at_call 82; refine (refWon_any n bs (bestC n bs) _ _ R _ k c _ _ (HBY.out.grow HB3.out).drew (HSL.out w3 HB3.out).drew HC.out rfl HGOOD.out).mono ?_; rintro e w4 ⟨rfl, hb4⟩; rw [HGC.out]; have hb34 := HB3.out.trans ((Below.refl _ _).drew.trans (hb4.mono (by have := HB3.out.size; simpa using this))); obtain ⟨z0, z1, z2, z3, z4, z5⟩ := HCELL.out w4 (hb34.mono (Nat.le_refl _)); have HB4 := Lib.hid hb34; clear hb4 hb34))
        have HP4 := Lib.hid (HP3.out.grow HB4.out)
        have HO4 := Lib.hid (own_grow HO3.out HB4.out)
        have HC4 := Lib.hid (own_grow HC3.out HB4.out)
        have HBB4 := Lib.hid (HB1.out.trans (HB4.out.mono hszr))
        have hsz4 : wr.heap.size ≤ w4.heap.size := HB4.out.size
        clear y0 y1 y2 y3 y4 y5 x0 x1
        by_cases hc0 : c < 0
        · have HC0 := Lib.hid hc0
          have g2a := cellAlloc z5 (.cells #[.int .i64 0] 2)
          go_wp2_with (at_builtin; refine wpList_app _ rfl (.tmp 51) (.tmp 53) et_i64 rfl w1.heap.size (.slice A' k cap') k (ints ((paysC n bs).take k)) rfl (HO4.out.alloc _) _ _ 1 _ rfl (Sl.new w4 #[.int .i64 0] _ 1 1 (by unfold maxLen; omega) rfl) (by simp [Value.oneCell']) (by omega) (by unfold maxLen; omega) (by simp; omega) ?_; intro A3 cap3 w5 hown5 hg5 hloc5; have hp5 : Blk w5 gp 36 #[.slice (some ⟨gC, 0, none⟩) bs.length c1, .int .i64 (W bs (allOf n)), .slice A' k cap'] := (HP4.out.alloc _).grown hg5 (fun e => own_ne_blk HO4.out HP4.out (by decide) e.symm); have k0 : w5.cell? ⟨gp, 2, none⟩ = some (.slice A' k cap') := hp5.cell 2; have k1 := hp5.frozen 2; have HP5 := Lib.hid hp5; have HG5 := Lib.hid hg5; have HO5 := Lib.hid hown5; clear hp5 hg5 hown5 hloc5)
          go_roundw
          case rel =>
            have hro : ∀ g, (Value.slice A' k cap').ownBlock = some g → w1.heap.size ≤ g := fun g e => (HO4.out.lt g e).1
            have hs5 := HG5.out.size
            simp at hs5
            refine ⟨k + 1, A3, cap3, by omega, by go_num, HP5.out.set_ 2 _, ?_, ?_, ?_⟩
            · have h1 := own_far HO5.out (grownBy_setCell _ ⟨gp, 2, none⟩ (.slice A3 (k + 1) cap3)) (fun g e => by simp at e; subst e; exact own_ne_blk HO5.out HP5.out (by decide))
              rw [List.take_add_one, HPG.out, if_pos HC0.out]
              simpa [ints] using h1
            · have h1 := own_far (HC4.out.alloc (.cells #[.int .i64 0] 2)) HG5.out (fun g e => own_ne (HO4.out.alloc (.cells #[.int .i64 0] 2)) (HC4.out.alloc (.cells #[.int .i64 0] 2)) (by decide) e)
              exact own_far h1 (grownBy_setCell _ ⟨gp, 2, none⟩ _) (fun g e => by simp at e; subst e; exact own_ne_blk h1 HP5.out (by decide))
            · exact ((HBB4.out.alloc (by omega) _).grown HG5.out (by simp; omega) (fun g e => hro g e)).setCell (p := ⟨gp, 2, none⟩) hgp _
          case measure => simp [intOf]; omega
        · have HC0 := Lib.hid hc0
          have g2a := cellAlloc z5 (.cells #[.int .i64 (woW n bs k - (W bs (allOf n) - co))] 2)
          go_wp2_with (at_builtin; refine wpList_app _ rfl (.tmp 51) (.tmp 53) et_i64 rfl w1.heap.size (.slice A' k cap') k (ints ((paysC n bs).take k)) rfl (HO4.out.alloc _) _ _ 1 _ rfl (Sl.new w4 #[.int .i64 (woW n bs k - (W bs (allOf n) - co))] _ 1 1 (by unfold maxLen; omega) rfl) (by simp [Value.oneCell']) (by omega) (by unfold maxLen; omega) (by simp; omega) ?_; intro A3 cap3 w5 hown5 hg5 hloc5; have hp5 : Blk w5 gp 36 #[.slice (some ⟨gC, 0, none⟩) bs.length c1, .int .i64 (W bs (allOf n)), .slice A' k cap'] := (HP4.out.alloc _).grown hg5 (fun e => own_ne_blk HO4.out HP4.out (by decide) e.symm); have k0 : w5.cell? ⟨gp, 2, none⟩ = some (.slice A' k cap') := hp5.cell 2; have k1 := hp5.frozen 2; have HP5 := Lib.hid hp5; have HG5 := Lib.hid hg5; have HO5 := Lib.hid hown5; clear hp5 hg5 hown5 hloc5)
          go_roundw
          case rel =>
            have hro : ∀ g, (Value.slice A' k cap').ownBlock = some g → w1.heap.size ≤ g := fun g e => (HO4.out.lt g e).1
            have hs5 := HG5.out.size
            simp at hs5
            refine ⟨k + 1, A3, cap3, by omega, by go_num, HP5.out.set_ 2 _, ?_, ?_, ?_⟩
            · have h1 := own_far HO5.out (grownBy_setCell _ ⟨gp, 2, none⟩ (.slice A3 (k + 1) cap3)) (fun g e => by simp at e; subst e; exact own_ne_blk HO5.out HP5.out (by decide))
              rw [List.take_add_one, HPG.out, if_neg HC0.out]
              simpa [ints] using h1
            · have h1 := own_far (HC4.out.alloc (.cells #[.int .i64 (woW n bs k - (W bs (allOf n) - co))] 2)) HG5.out (fun g e => own_ne (HO4.out.alloc (.cells #[.int .i64 (woW n bs k - (W bs (allOf n) - co))] 2)) (HC4.out.alloc (.cells #[.int .i64 (woW n bs k - (W bs (allOf n) - co))] 2)) (by decide) e)
              exact own_far h1 (grownBy_setCell _ ⟨gp, 2, none⟩ _) (fun g e => by simp at e; subst e; exact own_ne_blk h1 HP5.out (by decide))
            · exact ((HBB4.out.alloc (by omega) _).grown HG5.out (by simp; omega) (fun g e => hro g e)).setCell (p := ⟨gp, 2, none⟩) hgp _
          case measure => simp [intOf]; omega
      · obtain rfl : k = bs.length := by omega
        have p0 := hP1.cell 0
        have p1 := hP1.cell 1
        have p2 := hP1.cell 2
        have hR := HP.out.grow hbr
        have r0 := hR.cell 0
        have r1 := hR.cell 1
        have r2 := hR.cell 2
        have rf := hR.frozen
        simp at p0 p1 p2 r0 r1 r2
        have htk : (paysC n bs).take bs.length = paysC n bs := List.take_of_length_le (by rw [paysC_length]; exact Nat.le_refl _)
        rw [htk] at hown
        have HO := Lib.hid hown
        have hq := ((hR.set_ 0 (.slice A1 bs.length c1)).set_ 1 (.int .i64 (W bs (allOf n)))).set_ 2 (.slice A' bs.length cap')
        have q0 := hq.cell 0
        have q1 := hq.cell 1
        have q2 := hq.cell 2
        simp at q0 q1 q2
        clear hX1 hP1 hown hch hbr hbw htk hq hR
        go_wp2_with fail
        refine bodyPost_ret (v := .tuple #[.agg #[.slice A1 bs.length c1, .int .i64 (W bs (allOf n)), .slice A' bs.length cap'], .int .i64 0]) (by simp [results, Try.results17, go_sem, q0, q1, q2]) rfl ⟨A1, c1, A', cap', rfl, ?_, ?_, ?_⟩
        · exact own_mono (ownsRow_setCell_below (ownsRow_setCell_below (ownsRow_setCell_below HC3.out (a := ⟨w.heap.size + 1, 0, none⟩) (by simp; omega) _) (a := ⟨w.heap.size + 1, 1, none⟩) (by simp; omega) _) (a := ⟨w.heap.size + 1, 2, none⟩) (by simp; omega) _) (by omega)
        · exact own_mono (ownsRow_setCell_below (ownsRow_setCell_below (ownsRow_setCell_below HO.out (a := ⟨w.heap.size + 1, 0, none⟩) (by simp; omega) _) (a := ⟨w.heap.size + 1, 1, none⟩) (by simp; omega) _) (a := ⟨w.heap.size + 1, 2, none⟩) (by simp; omega) _) (by omega)
        · exact ((HBW1.out.setCell (p := ⟨w.heap.size + 1, 0, none⟩) (by simp) _).setCell (p := ⟨w.heap.size + 1, 1, none⟩) (by simp) _).setCell (p := ⟨w.heap.size + 1, 2, none⟩) (by simp) _
end Go.Proofs.Ytcigobiolbojhaa.Vb

/- Plain: who wins nothing is not missed. -/
namespace Go.Proofs.Ytcigobiolbojhaa.Vb
open Go.RowKit

theorem stepO_mono {g g' : Nat → Int} (f : Nat) {b b' : Int} (o : Off) (hg : ∀ x, g x ≤ g' x) (hb : b ≤ b') : stepO g f b o ≤ stepO g' f b' o := by
  unfold stepO
  split
  · have := hg (andNot f o.g); omega
  · exact hb
theorem fold_mono {g g' : Nat → Int} (f : Nat) (hg : ∀ x, g x ≤ g' x) : ∀ (l : List Off) {b b' : Int}, b ≤ b' → l.foldl (stepO g f) b ≤ l.foldl (stepO g' f) b'
  | [], _, _, h => h
  | o :: l, _, _, h => fold_mono f hg l (stepO_mono f o hg h)
theorem fold_mem {g : Nat → Int} {f : Nat} : ∀ (l : List Off) (b : Int) (o : Off), o ∈ l → andNot o.g f = 0 → o.c + g (andNot f o.g) ≤ l.foldl (stepO g f) b
  | x :: l, b, o, ho, hf => by
    rcases List.mem_cons.1 ho with rfl | ho
    · refine Int.le_trans ?_ (fold_ge g f l _)
      unfold stepO
      rw [if_pos hf]
      omega
    · exact fold_mem l _ o ho hf
theorem fold_att {g : Nat → Int} {f : Nat} : ∀ (l : List Off) (b : Int), l.foldl (stepO g f) b = b ∨ ∃ o ∈ l, andNot o.g f = 0 ∧ o.c + g (andNot f o.g) = l.foldl (stepO g f) b
  | [], b => .inl rfl
  | x :: l, b => by
    rcases fold_att l (stepO g f b x) with h | ⟨o, ho, hf, he⟩
    · by_cases hf : andNot x.g f = 0
      · by_cases hle : x.c + g (andNot f x.g) ≤ b
        · left
          rw [List.foldl_cons, h]
          unfold stepO
          rw [if_pos hf]
          omega
        · right
          refine ⟨x, by simp, hf, ?_⟩
          rw [List.foldl_cons, h]
          unfold stepO
          rw [if_pos hf]
          omega
      · left
        rw [List.foldl_cons, h]
        unfold stepO
        rw [if_neg hf]
    · exact .inr ⟨o, by simp [ho], hf, by rw [List.foldl_cons]; exact he⟩

theorem W_set_le : ∀ (bs : List (List Off)) (k f : Nat), W (bs.set k []) f ≤ W bs f
  | [], k, f => by simp
  | l :: bs, 0, f => by
    simp only [List.set_cons_zero, W, List.foldl_nil]
    exact fold_ge _ _ _ _
  | l :: bs, k + 1, f => by
    simp only [List.set_cons_succ, W]
    exact fold_mono f (fun x => W_set_le bs k x) l (W_set_le bs k f)

/-- nobody's offer reaches what is had: then it is had without the buyer -/
theorem pick_none_W {bs : List (List Off)} {l : List Off} {f : Nat} (h : pickAt (W bs) f (W (l :: bs) f) l = none) : W (l :: bs) f = W bs f := by
  have hno : ∀ o ∈ l, pickB (W bs) f (W (l :: bs) f) o = false := by
    generalize W (l :: bs) f = left at h
    induction l with
    | nil => simp
    | cons x l ih =>
      simp only [pickAt] at h
      split at h
      · cases h
      · rename_i hx
        intro o ho
        rcases List.mem_cons.1 ho with rfl | ho
        · simpa using hx
        · exact ih (by simpa using h) o ho
  rcases fold_att (g := W bs) (f := f) l (W bs f) with h1 | ⟨o, ho, hf, he⟩
  · exact h1
  · exfalso
    have := hno o ho
    simp only [pickB, Bool.and_eq_false_iff, decide_eq_false_iff_not] at this
    rcases this with h2 | h2
    · exact h2 hf
    · exact h2 he
theorem pickAt_att {g : Nat → Int} {f : Nat} {left : Int} : ∀ {l : List Off} {j x : Nat}, pickAt g f left l = some (j, x) → ∃ o ∈ l, o.g = x ∧ andNot o.g f = 0 ∧ o.c + g (andNot f o.g) = left
  | o :: l, j, x, h => by
    simp only [pickAt] at h
    split at h
    · rename_i hb
      simp only [Option.some.injEq, Prod.mk.injEq] at h
      simp only [pickB, Bool.and_eq_true, decide_eq_true_eq] at hb
      exact ⟨o, by simp, h.2, hb.1, hb.2⟩
    · cases hp : pickAt g f left l with
      | none => rw [hp] at h; cases h
      | some p =>
        rw [hp] at h
        simp only [Option.map_some, Option.some.injEq, Prod.mk.injEq] at h
        obtain ⟨o', h1, h2⟩ := pickAt_att (j := p.1) (x := p.2) hp
        exact ⟨o', by simp [h1], by rw [← h.2]; exact h2⟩
theorem W_loser : ∀ (bs : List (List Off)) (k f : Nat), (choose bs f)[k]? = some (-1) → W bs f ≤ W (bs.set k []) f
  | [], k, f, h => by simp [choose] at h
  | l :: bs, 0, f, h => by
    simp only [choose, List.getElem?_cons_zero, Option.some.injEq] at h
    unfold pickN at h
    cases hp : pickAt (W bs) f (W (l :: bs) f) l with
    | none => simp only [List.set_cons_zero]; rw [pick_none_W hp]; exact Int.le_refl _
    | some p => rw [hp] at h; simp only at h; omega
  | l :: bs, k + 1, f, h => by
    simp only [choose, List.getElem?_cons_succ] at h
    have ih := W_loser bs k _ h
    simp only [List.set_cons_succ]
    unfold pickN at ih
    cases hp : pickAt (W bs) f (W (l :: bs) f) l with
    | none =>
      rw [hp] at ih
      rw [pick_none_W hp]
      exact Int.le_trans ih (fold_ge _ _ _ _)
    | some p =>
      obtain ⟨j, x⟩ := p
      rw [hp] at ih
      obtain ⟨o, ho, rfl, hf, he⟩ := pickAt_att hp
      rw [← he]
      refine Int.le_trans (Int.add_le_add_left ih _) ?_
      exact fold_mem l _ o ho hf

theorem instE_withE {n : Int} {bs : List (List Off)} {k : Nat} (h : instE n bs = 0) (hk : k < bs.length) : withE n bs (k : Int) [] = 0 := by
  unfold withE
  rw [if_neg (by simpa using h), if_neg (by omega)]
  obtain ⟨h1, h2, _⟩ := instE_zero h
  unfold checkE
  rw [if_neg (by omega)]
  simp [badAt]
/-- what a buyer gains, both ways -/
theorem won_gain {n : Int} {bs : List (List Off)} {k : Nat} {c : Int} (hi : instE n bs = 0) (hk : k < bs.length) (hc : (bestC n bs)[k]? = some c) :
    coinAt bs k c - payAt n bs k c = gainAt n bs k := by
  unfold gainAt payAt
  by_cases h0 : c < 0
  · rw [if_pos h0, coinAt_neg h0]
    obtain rfl : c = -1 := by rcases choose_get _ _ _ _ hc with h | ⟨j, l, o, rfl, _⟩ <;> omega
    have h1 := W_loser bs k _ hc
    have h2 := W_set_le bs k (allOf n)
    unfold woW
    rw [if_pos (instE_withE hi hk), Int.toNat_natCast]
    omega
  · rw [if_neg h0]
    omega
end Go.Proofs.Ytcigobiolbojhaa.Vb

/- The reference of layer 17: Costs refused; SamePaid; Pivotal. -/
namespace Go.Proofs.Ytcigobiolbojhaa.Vb
open Go.RowKit

set_option maxHeartbeats 800000 in
theorem refCosts_err (n : Int) (bs : List (List Off)) (v : Value) (R : Nat → Prop) (w : World) (hl : Buys w R v bs) (hi : instE n bs ≠ 0) :
    Calls Try.prog 17 #[.agg #[.int .i64 n, v]] w fun e w' => e = .returned (.tuple #[.agg #[.slice none 0 0, .int .i64 0, .slice none 0 0], .int .i64 (instE n bs)]) ∧ Below w.heap.size w w' := by
  obtain ⟨vs, ⟨_, A, cap, rfl, _⟩, _⟩ := id hl
  have HB := Lib.hid hl
  have hcb : (instE n bs != 0) = true := by simpa using hi
  have HI := Lib.hid hi
  clear hl hi
  go_enter Try.func17, Try.ntmps17
  go_wp2_with (go_at_call 30; refine (refInstance_any n bs _ R _ ((HB.out.alloc _).alloc _)).mono ?_; rintro e w1 ⟨rfl, hb1⟩; obtain ⟨hX, hP, hs1, hbw⟩ := two_blk' hb1; obtain ⟨r0, r1, r2⟩ : w1.cell? ⟨w.heap.size + 1, 0, none⟩ = some (.slice none 0 0) ∧ w1.cell? ⟨w.heap.size + 1, 1, none⟩ = some (.int .i64 0) ∧ w1.cell? ⟨w.heap.size + 1, 2, none⟩ = some (.slice none 0 0) := ⟨hP.cell 0, hP.cell 1, hP.cell 2⟩; have rf := hP.frozen; have HP := Lib.hid hP; have HBW := Lib.hid hbw; clear hX hP hb1 hbw)
  have hq := ((HP.out.set_ 0 (.slice none 0 0)).set_ 1 (.int .i64 0)).set_ 2 (.slice none 0 0)
  have q0 := hq.cell 0
  have q1 := hq.cell 1
  have q2 := hq.cell 2
  simp at q0 q1 q2
  refine bodyPost_ret (v := .tuple #[.agg #[.slice none 0 0, .int .i64 0, .slice none 0 0], .int .i64 (instE n bs)]) (by simp [results, Try.results17, go_sem, q0, q1, q2]) rfl ⟨rfl, ?_⟩
  exact ((HBW.out.setCell (p := ⟨w.heap.size + 1, 0, none⟩) (by simp) _).setCell (p := ⟨w.heap.size + 1, 1, none⟩) (by simp) _).setCell (p := ⟨w.heap.size + 1, 2, none⟩) (by simp) _

theorem ints_get {cs : List Int} {k : Nat} {c : Int} (h : cs[k]? = some c) : (ints cs)[k]? = some (.int .i64 c) := by simp [ints, h]

set_option maxRecDepth 100000 in
set_option maxHeartbeats 1600000 in
theorem samePaid_true (W0 : Int) (cs ps : List Int) (ca cb pa pb : Value) (R1 R2 R3 R4 : Nat → Prop) (w : World) (h1 : Sl w R1 ca cs.length 1 (ints cs)) (h2 : Sl w R2 cb cs.length 1 (ints cs)) (h3 : Sl w R3 pa ps.length 1 (ints ps)) (h4 : Sl w R4 pb ps.length 1 (ints ps)) :
    Calls Try.prog 22 #[.agg #[ca, .int .i64 W0, pa], .agg #[cb, .int .i64 W0, pb]] w fun e w' => e = .returned (.bool true) ∧ Below w.heap.size w w' := by
  obtain ⟨_, A1, c1, rfl, hn1, hc1, hs1⟩ := h1
  obtain ⟨_, A2, c2, rfl, hn2, hc2, hs2⟩ := h2
  obtain ⟨_, A3, c3, rfl, hn3, hc3, hs3⟩ := h3
  obtain ⟨_, A4, c4, rfl, hn4, hc4, hs4⟩ := h4
  unfold maxLen at hc1 hc2 hc3 hc4
  have H1 := Lib.hid hs1
  have H2 := Lib.hid hs2
  have H3 := Lib.hid hs3
  have H4 := Lib.hid hs4
  clear hs1 hs2 hs3 hs4
  go_enter Try.func22, Try.ntmps22
  go_wp2
  have hw0 : ∃ W1, W1 = (w.alloc (.cells #[.slice A1 cs.length c1, .int .i64 W0, .slice A3 ps.length c3] 36)).alloc (.cells #[.slice A2 cs.length c2, .int .i64 W0, .slice A4 ps.length c4] 36) := ⟨_, rfl⟩
  obtain ⟨W1, hW1⟩ := hw0
  obtain ⟨hX, hY, hs, hbw⟩ := two_blk' (w1 := W1) (by rw [hW1]; exact Below.refl _ _)
  rw [← hW1]
  have HX := Lib.hid hX
  have HY := Lib.hid hY
  have HBW := Lib.hid hbw
  clear hX hY hbw hW1
  go_loopw [5] (fun i wr => ∃ k : Nat, k ≤ cs.length ∧ i = .int .i64 k ∧ Below W1.heap.size W1 wr) (fun i _ => cs.length - (intOf i).toNat)
  case atStart => exact ⟨0, Nat.zero_le _, rfl, Below.refl _ _⟩
  case round =>
    obtain ⟨k, hk, rfl, hb⟩ := hrel
    have hX := HX.out.grow hb
    have hY := HY.out.grow hb
    have hbw := HBW.out.trans (hb.mono (by omega))
    have x0 : wr.cell? ⟨w.heap.size, 0, none⟩ = some (.slice A1 cs.length c1) := hX.cell 0
    have y0 : wr.cell? ⟨w.heap.size + 1, 0, none⟩ = some (.slice A2 cs.length c2) := hY.cell 0
    by_cases hlt : k < cs.length
    · obtain ⟨c, hc⟩ : ∃ c, cs[k]? = some c := ⟨_, List.getElem?_eq_getElem hlt⟩
      obtain ⟨b1, o1, rfl, _, hb1, hx1⟩ := H1.out (by omega)
      obtain ⟨b2, o2, rfl, _, hb2, hx2⟩ := H2.out (by omega)
      have e1 := (hbw.cell hb1).trans (hx1 _ _ (ints_get hc))
      have e2 := (hbw.cell hb2).trans (hx2 _ _ (ints_get hc))
      have HB := Lib.hid hb
      clear hX hY hbw hx1 hx2 hb hc
      go_wp2_with fail
      go_quiet (fail)
      go_wp2_with fail
      go_roundw
      case rel => exact ⟨k + 1, by omega, by go_num, below_drewN HB.out _⟩
      case measure => simp [intOf]; omega
    · have HB := Lib.hid hb
      clear hX hY hbw hb
      go_wp2_with fail
      clear x0 y0
      obtain ⟨wo, rfl⟩ : ∃ wo : World, wo = wr := ⟨_, rfl⟩
      go_loopw [6] (fun i wr => ∃ k : Nat, k ≤ ps.length ∧ i = .int .i64 k ∧ Below W1.heap.size W1 wr) (fun i _ => ps.length - (intOf i).toNat)
      case atStart => exact ⟨0, Nat.zero_le _, rfl, HB.out⟩
      case round =>
        obtain ⟨j, hj, rfl, hb⟩ := hrel
        have hX := HX.out.grow hb
        have hY := HY.out.grow hb
        have hbw := HBW.out.trans (hb.mono (by omega))
        have x0 : wr.cell? ⟨w.heap.size, 2, none⟩ = some (.slice A3 ps.length c3) := hX.cell 2
        have y0 : wr.cell? ⟨w.heap.size + 1, 2, none⟩ = some (.slice A4 ps.length c4) := hY.cell 2
        by_cases hlj : j < ps.length
        · obtain ⟨c, hc⟩ : ∃ c, ps[j]? = some c := ⟨_, List.getElem?_eq_getElem hlj⟩
          obtain ⟨b1, o1, rfl, _, hb1, hx1⟩ := H3.out (by omega)
          obtain ⟨b2, o2, rfl, _, hb2, hx2⟩ := H4.out (by omega)
          have e1 := (hbw.cell hb1).trans (hx1 _ _ (ints_get hc))
          have e2 := (hbw.cell hb2).trans (hx2 _ _ (ints_get hc))
          have HB := Lib.hid hb
          clear hX hY hbw hx1 hx2 hb hc
          go_wp2_with fail
          go_quiet (fail)
          go_wp2_with fail
          go_roundw
          case rel => exact ⟨j + 1, by omega, by go_num, below_drewN HB.out _⟩
          case measure => simp [intOf]; omega
        · have HBW2 := Lib.hid hbw
          clear hX hY hbw hb
          go_wp2_with fail
          go_ret
          exact ⟨rfl, HBW2.out⟩
end Go.Proofs.Ytcigobiolbojhaa.Vb

/- The reference of layer 17: Pivotal, Gains. -/
namespace Go.Proofs.Ytcigobiolbojhaa.Vb
open Go.RowKit

set_option maxHeartbeats 800000 in
theorem refPivotal_err (n : Int) (bs : List (List Off)) (v : Value) (R : Nat → Prop) (w : World) (hl : Buys w R v bs) (hi : instE n bs ≠ 0) :
    Calls Try.prog 29 #[.agg #[.int .i64 n, v]] w fun e w' => e = .returned (.tuple #[.slice none 0 0, .int .i64 (instE n bs)]) ∧ Below w.heap.size w w' := by
  obtain ⟨vs, ⟨_, A, cap, rfl, _⟩, _⟩ := id hl
  have HB := Lib.hid hl
  have hcb : (instE n bs != 0) = true := by simpa using hi
  have HI := Lib.hid hi
  clear hl hi
  go_enter Try.func29, Try.ntmps29
  go_wp2_with (go_at_call 30; refine (refInstance_any n bs _ R _ (HB.out.alloc _)).mono ?_; rintro e w1 ⟨rfl, hb1⟩; have HB1 := Lib.hid (one_blk' hb1).2.2; clear hb1)
  go_ret2
  exact ⟨rfl, HB1.out⟩

set_option maxHeartbeats 800000 in
theorem refGains_err (n : Int) (bs : List (List Off)) (v : Value) (R : Nat → Prop) (w : World) (hl : Buys w R v bs) (hi : instE n bs ≠ 0) :
    Calls Try.prog 27 #[.agg #[.int .i64 n, v]] w fun e w' => e = .returned (.tuple #[.slice none 0 0, .int .i64 (instE n bs)]) ∧ Below w.heap.size w w' := by
  obtain ⟨vs, ⟨_, A, cap, rfl, _⟩, _⟩ := id hl
  have HB := Lib.hid hl
  have hcb : (instE n bs != 0) = true := by simpa using hi
  have HI := Lib.hid hi
  clear hl hi
  go_enter Try.func27, Try.ntmps27
  go_wp2_with (go_at_call 17; refine (refCosts_err n bs _ R _ (HB.out.alloc _) HI.out).mono ?_; rintro e w1 ⟨rfl, hb1⟩; have HB1 := Lib.hid (one_blk' hb1).2.2; clear hb1)
  go_ret2
  exact ⟨rfl, HB1.out.alloc HB1.out.size _⟩

set_option maxRecDepth 100000 in
set_option maxHeartbeats 3200000 in
theorem refPivotal_ok (n : Int) (bs : List (List Off)) (v : Value) (R : Nat → Prop) (w : World) (hl : Buys w R v bs) (hi : instE n bs = 0) :
    Calls Try.prog 29 #[.agg #[.int .i64 n, v]] w fun e w' => ∃ A' cap', e = .returned (.tuple #[.slice A' (pivotC n bs).length cap', .int .i64 0]) ∧
      w'.ownsRow w.heap.size 3 1 (.slice A' (pivotC n bs).length cap') (pivotC n bs).length (ints (pivotC n bs)) ∧ Below w.heap.size w w' := by
  obtain ⟨vs, ⟨_, A, cap, rfl, _⟩, _⟩ := id hl
  have HB := Lib.hid hl
  have HI := Lib.hid hi
  have hl32 := (instE_zero hi).2.2.1
  clear hl hi
  go_enter Try.func29, Try.ntmps29
  go_wp2_with (go_at_call 30; refine (refInstance_any n bs _ R _ (HB.out.alloc _)).mono ?_; rintro e w1 ⟨rfl, hb1⟩; rw [HI.out]; have HX := Lib.hid (one_blk' hb1).1; have HB1 := Lib.hid (one_blk' hb1).2.2; have hs1 := (one_blk' hb1).2.1; clear hb1)
  go_loopw [5, 6] (fun s i wr => ∃ (k m : Nat) (A' : Option Addr) (cap' : Nat), k ≤ bs.length ∧ i = .int .i64 k ∧ m = (pivotTo n bs k).length ∧ s = .slice A' m cap' ∧
      wr.ownsRow w1.heap.size 3 1 (.slice A' m cap') m (ints (pivotTo n bs k)) ∧ Below w1.heap.size w1 wr)
    (fun _ i _ => bs.length - (intOf i).toNat)
  case atStart => exact ⟨0, 0, none, 0, Nat.zero_le _, rfl, rfl, rfl, World.ownsRow_nil _ _ _ _, Below.refl _ _⟩
  case round =>
    obtain ⟨k, m, A', cap', hk, rfl, hm, rfl, hown, hbr⟩ := hrel
    have hml : m ≤ k := by rw [hm]; exact pivotTo_len n bs k
    have hX := HX.out.grow hbr
    have x0 : wr.cell? ⟨w.heap.size, 0, none⟩ = some (.int .i64 n) := hX.cell 0
    have x1 : wr.cell? ⟨w.heap.size, 1, none⟩ = some (.slice A bs.length cap) := hX.cell 1
    have hbw := HB1.out.trans (hbr.mono (by omega))
    have hszr := hbr.size
    have HM := Lib.hid hm
    have HX1 := Lib.hid hX
    have HO := Lib.hid hown
    have HBR := Lib.hid hbr
    have HBW := Lib.hid hbw
    have HBY := Lib.hid (HB.out.grow hbw)
    by_cases hlt : k < bs.length
    · clear hX hown hbr hbw hm
      by_cases hg : woW n bs k < W bs (allOf n)
      all_goals
        have hgb : decide (woW n bs k < W bs (allOf n)) = decide (woW n bs k < W bs (allOf n)) := rfl
        have HG := Lib.hid hg
      · go_wp2_with (first
          | (go_at_call 25; refine (refWithout_any n bs (k : Nat) _ R _ HBY.out).mono ?_; rintro e w3 ⟨rfl, hb3⟩; obtain ⟨y0, y1⟩ : w3.cell? ⟨w.heap.size, 0, none⟩ = some (.int .i64 n) ∧ w3.cell? ⟨w.heap.size, 1, none⟩ = some (.slice A bs.length cap) := ⟨(HX1.out.grow hb3).cell 0, (HX1.out.grow hb3).cell 1⟩; have hs3 := hb3.size; have HB3 := Lib.hid hb3; clear hb3)
          | (go_at_call 81; refine (refW_any n bs _ R _ (HBY.out.grow HB3.out) HI.out).mono ?_; rintro e w4 ⟨rfl, hb4⟩; have hs4 := hb4.size; have HB4 := Lib.hid (HB3.out.trans (hb4.mono hs3)); have HO4 := Lib.hid (own_grow HO.out HB4.out); clear hb4)
          | (at_builtin; refine wpList_app _ rfl (.tmp 31) (.tmp 33) et_int rfl w1.heap.size (.slice A' m cap') m (ints (pivotTo n bs k)) rfl (HO4.out.alloc _) _ _ 1 _ rfl (Sl.new w4 #[.int .i64 (k : Nat)] _ 1 1 (by unfold maxLen; omega) rfl) (by simp [Value.oneCell']) (by omega) (by unfold maxLen; omega) (by simp; omega) ?_; intro A3 cap3 w5 hown5 hg5 hloc5; have HG5 := Lib.hid hg5; have HO5 := Lib.hid hown5; clear hg5 hown5 hloc5))
        go_roundw
        case rel =>
          have hyes : 0 < gainAt n bs k := by have := HG.out; unfold gainAt; omega
          refine ⟨k + 1, m + 1, A3, cap3, by omega, by go_num, by rw [pivotTo_yes hyes, HM.out]; simp, rfl, ?_, ((HBR.out.trans (HB4.out.mono hszr)).alloc (by omega) _).grown HG5.out (by simp; omega) (fun g e => (HO4.out.lt g e).1)⟩
          have := HO5.out
          rw [pivotTo_yes hyes]
          simpa [ints] using this
        case measure => simp [intOf]; omega
      · go_wp2_with (first
          | (go_at_call 25; refine (refWithout_any n bs (k : Nat) _ R _ HBY.out).mono ?_; rintro e w3 ⟨rfl, hb3⟩; obtain ⟨y0, y1⟩ : w3.cell? ⟨w.heap.size, 0, none⟩ = some (.int .i64 n) ∧ w3.cell? ⟨w.heap.size, 1, none⟩ = some (.slice A bs.length cap) := ⟨(HX1.out.grow hb3).cell 0, (HX1.out.grow hb3).cell 1⟩; have hs3 := hb3.size; have HB3 := Lib.hid hb3; clear hb3)
          | (go_at_call 81; refine (refW_any n bs _ R _ (HBY.out.grow HB3.out) HI.out).mono ?_; rintro e w4 ⟨rfl, hb4⟩; have hs4 := hb4.size; have HB4 := Lib.hid (HB3.out.trans (hb4.mono hs3)); have HO4 := Lib.hid (own_grow HO.out HB4.out); clear hb4))
        go_roundw
        case rel =>
          have hno : ¬ 0 < gainAt n bs k := by have := HG.out; unfold gainAt; omega
          refine ⟨k + 1, m, A', cap', by omega, by go_num, by rw [pivotTo_no hno]; exact HM.out, rfl, ?_, HBR.out.trans (HB4.out.mono hszr)⟩
          rw [pivotTo_no hno]
          exact HO4.out
        case measure => simp [intOf]; omega
    · obtain rfl : k = bs.length := by omega
      have hmm : m = (pivotC n bs).length := hm
      subst hmm
      clear hX hown hbr hbw hm
      go_wp2_with fail
      go_ret2
      exact ⟨A', cap', rfl, own_mono HO.out (by omega), HBW.out⟩
end Go.Proofs.Ytcigobiolbojhaa.Vb

/- The reference of layer 17: Gains. -/
namespace Go.Proofs.Ytcigobiolbojhaa.Vb
open Go.RowKit

/-- append at a step of a region that draws its order -/
theorem step_app {P : Program} (w : World) {ops : Array Oper} {o : Oper} {a : Act} {K : Act → World → Prop} {Q : Exit → Act → World → Prop} {E0 : Prop} (hgd : o.guard = none) (s x : Operand) {t e : TypeId} {sz bytes : Nat} (E : ElemT P t e sz bytes)
    (ho : o.op = .call { callee := .builtin .append, args := #[s, x], argTypes := #[t, t] })
    (base : Nat) (v : Value) (n : Nat) (xs : List Value) (hs : a.eval s = v) (hown : w.ownsRow base e sz v n xs)
    (R : Nat → Prop) (v2 : Value) (m : Nat) (news : List Value) (hx : a.eval x = v2) (hr : Sl w R v2 m sz news) (h1 : ∀ u ∈ news, u.oneCell' = true)
    (hbytes : (n + m) * bytes ≤ 140737488355328) (h63 : n + m ≤ maxLen) (hbase : base ≤ w.heap.size)
    (h : ∀ A' cap' w', w'.ownsRow base e sz (.slice A' (n + m) cap') (n + m) (xs ++ news) → w.grownBy w' v.ownBlock → ((Value.slice A' (n + m) cap').ownBlock = v.ownBlock ∨ (Value.slice A' (n + m) cap').ownBlock = some w.heap.size) → K (a.put o.dst (.slice A' (n + m) cap')) w') :
    if Region.wanted o (yielded ops a.tmps) = true then Oper.wp P o a w K Q else E0 := by
  have hw : Region.wanted o (yielded ops a.tmps) = true := by simp [Region.wanted, hgd]
  rw [if_pos hw]
  exact wp_app w s x E ho base v n xs hs hown R v2 m news hx hr h1 hbytes h63 hbase h

theorem gainsC_length (n : Int) (bs : List (List Off)) : (gainsC n bs).length = bs.length := by simp [gainsC]

set_option maxRecDepth 100000 in
set_option maxHeartbeats 3200000 in
theorem refGains_ok (n : Int) (bs : List (List Off)) (v : Value) (R : Nat → Prop) (w : World) (hl : Buys w R v bs) (hi : instE n bs = 0) :
    Calls Try.prog 27 #[.agg #[.int .i64 n, v]] w fun e w' => ∃ A' cap', e = .returned (.tuple #[.slice A' bs.length cap', .int .i64 0]) ∧
      w'.ownsRow w.heap.size 2 1 (.slice A' bs.length cap') bs.length (ints (gainsC n bs)) ∧ Below w.heap.size w w' := by
  obtain ⟨vs, ⟨_, A, cap, rfl, _⟩, _⟩ := id hl
  have HB := Lib.hid hl
  have HI := Lib.hid hi
  have hl32 := (instE_zero hi).2.2.1
  have HWF := Lib.hid (buys_wf hl)
  clear hl hi
  go_enter Try.func27, Try.ntmps27
  go_wp2_with (go_at_call 17; refine (refCosts_ok n bs _ R _ (HB.out.alloc _) HI.out).mono ?_; rintro e w1 ⟨AC, cC, AP, cP, rfl, hownC, hownP, hb1⟩; have hX := (one_blk' hb1).1; have HX := Lib.hid hX; have HB1 := Lib.hid (one_blk' hb1).2.2; have hs1 := (one_blk' hb1).2.1; have HC := Lib.hid hownC; have HP := Lib.hid hownP; clear hb1 hX hownC hownP)
  have hw2 : ∃ w2, w2 = w1.alloc (.cells #[.slice AC bs.length cC, .int .i64 (W bs (allOf n)), .slice AP bs.length cP] 36) := ⟨_, rfl⟩
  obtain ⟨w2, hW2⟩ := hw2
  have HX2 := Lib.hid (show Blk w2 w.heap.size _ _ from by rw [hW2]; exact HX.out.alloc _)
  have HQ2 := Lib.hid (show Blk w2 w1.heap.size 36 #[.slice AC bs.length cC, .int .i64 (W bs (allOf n)), .slice AP bs.length cP] from by rw [hW2]; exact Blk.new w1 _ _)
  have HC2 := Lib.hid (show w2.ownsRow _ _ _ _ _ _ from by rw [hW2]; exact own_alloc HC.out _)
  have HP2 := Lib.hid (show w2.ownsRow _ _ _ _ _ _ from by rw [hW2]; exact own_alloc HP.out _)
  have HBW2 := Lib.hid (show Below w.heap.size w w2 from by rw [hW2]; exact HB1.out.alloc (by omega) _)
  have hs2 : w2.heap.size = w1.heap.size + 1 := by rw [hW2]; simp
  rw [← hW2]
  clear hW2
  go_loopw [6, 7] (fun s i wr => ∃ (k : Nat) (A' : Option Addr) (cap' : Nat), k ≤ bs.length ∧ i = .int .i64 k ∧ s = .slice A' k cap' ∧
      wr.ownsRow w2.heap.size 2 1 (.slice A' k cap') k (ints ((gainsC n bs).take k)) ∧ Below w2.heap.size w2 wr)
    (fun _ i _ => bs.length - (intOf i).toNat)
  case atStart => exact ⟨0, none, 0, Nat.zero_le _, rfl, rfl, World.ownsRow_nil _ _ _ _, Below.refl _ _⟩
  case round =>
    obtain ⟨k, A', cap', hk, rfl, rfl, hown, hbr⟩ := hrel
    have hX := HX2.out.grow hbr
    have hQ := HQ2.out.grow hbr
    have x0 : wr.cell? ⟨w.heap.size, 0, none⟩ = some (.int .i64 n) := hX.cell 0
    have x1 : wr.cell? ⟨w.heap.size, 1, none⟩ = some (.slice A bs.length cap) := hX.cell 1
    have q0 : wr.cell? ⟨w1.heap.size, 0, none⟩ = some (.slice AC bs.length cC) := hQ.cell 0
    have q2 : wr.cell? ⟨w1.heap.size, 2, none⟩ = some (.slice AP bs.length cP) := hQ.cell 2
    have hbw := HBW2.out.trans (hbr.mono (by omega))
    have hszr := hbr.size
    have HO := Lib.hid hown
    have HBR := Lib.hid hbr
    have HBW := Lib.hid hbw
    have HBY := Lib.hid (HB.out.grow hbw)
    by_cases hlt : k < bs.length
    · obtain ⟨c, hc⟩ : ∃ c, (bestC n bs)[k]? = some c := ⟨_, List.getElem?_eq_getElem (by rw [bestC, choose_length]; exact hlt)⟩
      have hlC : (bestC n bs).length = bs.length := by rw [bestC, choose_length]
      have hgood := choose_get bs (allOf n) k c hc
      have hpg := paysC_get hc
      have hgain := won_gain HI.out hlt hc
      obtain ⟨gP, capP, hAP, hgP, hgP2⟩ := World.ownsRow.form HP2.out (by omega)
      injection hAP with hAP _ hcP
      subst hAP hcP
      obtain ⟨hw0, hw1⟩ := woW_bd HWF.out HI.out k
      have hok := (okb_of HWF.out HI.out).1
      have hW0 := W_nonneg bs (allOf n)
      have hW1 : W bs (allOf n) ≤ 35184372088832 := by simpa using hok.W_le 0 (allOf n)
      have hsub : IntKind.i64.wrap (coinAt bs k c - payAt n bs k c) = gainAt n bs k := by
        rw [hgain]
        exact IntWalk.i64_in _ (by unfold gainAt; omega)
      have hpc : wr.cell? ⟨gP, k, none⟩ = some (.int .i64 (payAt n bs k c)) := by
        rw [(own_grow HP2.out hbr).cellAt k (by omega)]
        simp [ints, hpg]
      have hsl : Sl wr (fun _ => True) (.slice AC bs.length cC) (bestC n bs).length 1 (ints (bestC n bs)) := by
        rw [hlC]
        exact (Sl.of_own (own_grow HC2.out hbr)).mono fun _ _ _ => trivial
      have HSL := Lib.hid (show Sl wr.drew (fun _ => True) (.slice AC bs.length cC) (bestC n bs).length 1 (ints (bestC n bs)) from hsl)
      have HBD := Lib.hid (show Buys wr.drew R (.slice A bs.length cap) bs from HBY.out)
      have HCC := Lib.hid hc
      have HGOOD := Lib.hid hgood
      have hgPr : gP < wr.heap.size := by omega
      clear hX hQ hown hbr hbw hc hgood hpg hgain hsl hlC
      go_wp2_with fail
      go_region_held3 (fun w' => w'.cell? ⟨w.heap.size, 0, none⟩ = some (.int .i64 n) ∧ w'.cell? ⟨w.heap.size, 1, none⟩ = some (.slice A bs.length cap) ∧ w'.cell? ⟨w1.heap.size, 0, none⟩ = some (.slice AC bs.length cC) ∧ w'.cell? ⟨w1.heap.size, 2, none⟩ = some (.slice (some ⟨gP, 0, none⟩) bs.length cP) ∧ w'.cell? ⟨gP, k, none⟩ = some (.int .i64 (payAt n bs k c))) (go_keep)
        (first
          | (go_at_call 82; refine (refWon_any n bs (bestC n bs) _ _ R _ k c _ _ HBD.out HSL.out HCC.out rfl HGOOD.out).mono ?_; rintro e w4 ⟨rfl, hb4⟩; obtain ⟨z0, z1, z2, z3, z4⟩ : w4.cell? ⟨w.heap.size, 0, none⟩ = some (.int .i64 n) ∧ w4.cell? ⟨w.heap.size, 1, none⟩ = some (.slice A bs.length cap) ∧ w4.cell? ⟨w1.heap.size, 0, none⟩ = some (.slice AC bs.length cC) ∧ w4.cell? ⟨w1.heap.size, 2, none⟩ = some (.slice (some ⟨gP, 0, none⟩) bs.length cP) ∧ w4.cell? ⟨gP, k, none⟩ = some (.int .i64 (payAt n bs k c)) := ⟨(hb4.cell (p := ⟨w.heap.size, 0, none⟩) (by simp; omega)).trans x0, (hb4.cell (p := ⟨w.heap.size, 1, none⟩) (by simp; omega)).trans x1, (hb4.cell (p := ⟨w1.heap.size, 0, none⟩) (by simp; omega)).trans q0, (hb4.cell (p := ⟨w1.heap.size, 2, none⟩) (by simp; omega)).trans q2, (hb4.cell (p := ⟨gP, k, none⟩) (by simp; omega)).trans hpc⟩; have hsz4 : wr.heap.size ≤ w4.heap.size := hb4.size; have HB4 := Lib.hid hb4; have HO4 := Lib.hid (show w4.ownsRow _ _ _ _ _ _ from own_grow (show wr.drew.ownsRow _ _ _ _ _ _ from HO.out) hb4); clear hb4)
          | (refine step_app _ rfl (.tmp 23) (.tmp 35) et_i64 rfl w2.heap.size (.slice A' k cap') k (ints ((gainsC n bs).take k)) rfl (HO4.out.alloc _) _ _ 1 _ rfl (Sl.new w4 #[.int .i64 (gainAt n bs k)] _ 1 1 (by unfold maxLen; omega) rfl) (by simp [Value.oneCell']) (by omega) (by unfold maxLen; omega) (by simp; omega) ?_; intro A3 cap3 w5 hown5 hg5 hloc5; have hfar : ∀ b, b < w2.heap.size → some b ≠ (Value.slice A' k cap').ownBlock := (fun b hb e => by have := (HO4.out.lt b e.symm).1; omega); obtain ⟨u0, u1, u2, u3, u4⟩ : w5.cell? ⟨w.heap.size, 0, none⟩ = some (.int .i64 n) ∧ w5.cell? ⟨w.heap.size, 1, none⟩ = some (.slice A bs.length cap) ∧ w5.cell? ⟨w1.heap.size, 0, none⟩ = some (.slice AC bs.length cC) ∧ w5.cell? ⟨w1.heap.size, 2, none⟩ = some (.slice (some ⟨gP, 0, none⟩) bs.length cP) ∧ w5.cell? ⟨gP, k, none⟩ = some (.int .i64 (payAt n bs k c)) := ⟨hg5.cell (cellAlloc z0 _) (hfar w.heap.size (by omega)), hg5.cell (cellAlloc z1 _) (hfar w.heap.size (by omega)), hg5.cell (cellAlloc z2 _) (hfar w1.heap.size (by omega)), hg5.cell (cellAlloc z3 _) (hfar w1.heap.size (by omega)), hg5.cell (cellAlloc z4 _) (hfar gP (by omega))⟩; have HG5 := Lib.hid hg5; have HO5 := Lib.hid hown5; clear hg5 hown5 hloc5))
      go_wp2_with fail
      go_roundw
      case rel =>
        have h4 : Below wr.heap.size wr w4 := (Below.refl _ _).drew.trans (show Below wr.heap.size wr.drew w4 from HB4.out)
        refine ⟨k + 1, A3, cap3, by omega, by go_num, rfl, ?_, ((HBR.out.trans (h4.mono hszr)).alloc (by omega) _).grown HG5.out (by simp; omega) (fun g e => (HO4.out.lt g e).1)⟩
        have := HO5.out
        rw [take_gains hlt]
        simpa [ints] using this
      case measure => simp [intOf]; omega
    · obtain rfl : k = bs.length := by omega
      have htk : (gainsC n bs).take bs.length = gainsC n bs := List.take_of_length_le (by simp [gainsC])
      rw [htk] at hown
      have HO' := Lib.hid hown
      clear hX hQ hown hbr hbw htk
      go_wp2_with fail
      go_ret2
      exact ⟨A', cap', rfl, own_mono HO'.out (by omega), HBW.out⟩
end Go.Proofs.Ytcigobiolbojhaa.Vb

/- Law 17's own: num, great, Income. -/
namespace Go.Proofs.Ytcigobiolbojhaa.Vb
open Go.RowKit

set_option maxHeartbeats 400000 in
theorem num_any (x : Int) (_ : -9223372036854775808 ≤ x) (_ : x ≤ 9223372036854775807) (w : World) :
    Calls Try.prog 18 #[.int .i64 x] w fun e w' => e = .returned (.int .i64 x) ∧ w = w' := by
  go_enter Try.func18, Try.ntmps18
  go_wp2
  go_ret
  exact ⟨rfl, rfl⟩

def greatB (bs : List (List Off)) : Bool := bs.any (fun l => decide (40 < l.length)) || decide (40 < bs.length)
theorem greatB_of {bs : List (List Off)} {k : Nat} {l : List Off} (h : bs[k]? = some l) (hl : 40 < l.length) : greatB bs = true := by
  unfold greatB
  rw [List.any_eq_true.2 ⟨l, List.mem_of_getElem? h, by simpa using hl⟩]
  rfl
theorem greatB_none {bs : List (List Off)} (h : ∀ j l, j < bs.length → bs[j]? = some l → ¬ 40 < l.length) : greatB bs = decide (40 < bs.length) := by
  unfold greatB
  have : bs.any (fun l => decide (40 < l.length)) = false := by
    rw [List.any_eq_false]
    intro l hl
    obtain ⟨j, hj, rfl⟩ := List.getElem_of_mem hl
    simpa using h j _ hj (List.getElem?_eq_getElem hj)
  rw [this]
  rfl

set_option maxHeartbeats 800000 in
theorem great_any (n : Int) (bs : List (List Off)) (v : Value) (R : Nat → Prop) (w : World) (hl : Buys w R v bs) :
    Calls Try.prog 13 #[.agg #[.int .i64 n, v]] w fun e w' => e = .returned (.bool (greatB bs)) ∧ Below w.heap.size w w' := by
  obtain ⟨vs, ⟨hlen, A, cap, rfl, hncap, hcap, hcells⟩, hvs⟩ := id hl
  unfold maxLen at hcap
  have hnl : bs.length ≤ 9223372036854775807 := by omega
  have HC := Lib.hid hcells
  have HV := Lib.hid hvs
  clear hl hcells hvs hlen
  go_enter Try.func13, Try.ntmps13
  go_wp2
  go_loop [3] (fun i => ∃ k : Nat, k ≤ bs.length ∧ i = .int .i64 k ∧ ∀ j l, j < k → bs[j]? = some l → ¬ 40 < l.length) (fun i => bs.length - (intOf i).toNat)
  case atStart => exact ⟨0, Nat.zero_le _, rfl, fun j x hj => by omega⟩
  case round =>
    obtain ⟨k, hk, rfl, hno⟩ := hrel
    have HN := Lib.hid hno
    clear hno
    by_cases hlt : k < bs.length
    · obtain ⟨bb, off, rfl, _, hbb, hcs⟩ := HC.out (by omega)
      obtain ⟨l, ho⟩ : ∃ l, bs[k]? = some l := ⟨_, List.getElem?_eq_getElem hlt⟩
      obtain ⟨u, hu, hol⟩ := HV.out k l ho
      have c0 := cellAlloc (hcs _ _ hu)
      obtain ⟨⟨_, A', cap', rfl, _⟩, _⟩ := hol
      clear hcs hu
      have HO := Lib.hid ho
      clear ho
      by_cases h8 : 40 < l.length
      · have h8' := Lib.hid h8
        go_wp2
        go_ret
        rw [greatB_of HO.out h8'.out]
        exact ⟨rfl, (Below.refl _ _).alloc (Nat.le_refl _) _⟩
      · have h8' := Lib.hid h8
        go_wp2
        go_round
        case rel =>
          refine ⟨k + 1, by omega, by go_num, fun j x hj hx => ?_⟩
          by_cases hjk : j < k
          · exact HN.out j x hjk hx
          · obtain rfl : j = k := by omega
            rw [HO.out] at hx
            cases hx
            exact h8'.out
        case measure => simp [intOf]; omega
    · obtain rfl : k = bs.length := by omega
      have hg := greatB_none HN.out
      have HG := Lib.hid hg
      clear hg
      go_wp2
      go_ret
      refine ⟨ret_bool ?_, (Below.refl _ _).alloc (Nat.le_refl _) _⟩
      rw [HG.out, Bool.eq_iff_iff]
      simp
      omega

def sumI : List Int → Int
  | [] => 0
  | x :: l => x + sumI l
theorem sumI_app : ∀ (a b : List Int), sumI (a ++ b) = sumI a + sumI b
  | [], b => by simp [sumI]
  | x :: a, b => by simp only [List.cons_append, sumI, sumI_app a b]; omega
theorem sumI_take {ps : List Int} {k : Nat} {c : Int} (h : ps[k]? = some c) : sumI (ps.take (k + 1)) = sumI (ps.take k) + c := by
  rw [List.take_add_one, h, sumI_app]
  simp [sumI]
theorem sumI_bd {M : Int} : ∀ (l : List Int), (∀ x ∈ l, -M ≤ x ∧ x ≤ M) → -(l.length * M) ≤ sumI l ∧ sumI l ≤ l.length * M
  | [], _ => by simp [sumI]
  | x :: l, h => by
    have h1 := h x (by simp)
    have h2 := sumI_bd l (fun y hy => h y (by simp [hy]))
    simp only [sumI, List.length_cons]
    have : ((l.length + 1 : Nat) : Int) * M = l.length * M + M := by rw [Int.natCast_add, Int.add_mul]; simp
    rw [this]
    omega

set_option maxHeartbeats 800000 in
theorem income_any (W0 : Int) (ps : List Int) (cv pv : Value) (R : Nat → Prop) (w : World) (h : Sl w R pv ps.length 1 (ints ps)) (hb : ∀ x ∈ ps, -9007199254740992 ≤ x ∧ x ≤ 9007199254740992) (hn : ps.length ≤ 40) :
    Calls Try.prog 23 #[.agg #[cv, .int .i64 W0, pv]] w fun e w' => e = .returned (.int .i64 (sumI ps)) ∧ Below w.heap.size w w' := by
  obtain ⟨_, A, cap, rfl, hnc, hcm, hcs⟩ := h
  unfold maxLen at hcm
  have HC := Lib.hid hcs
  have HB := Lib.hid hb
  clear hcs hb
  go_enter Try.func23, Try.ntmps23
  go_wp2
  go_loop [3, 9] (fun s i => ∃ k : Nat, k ≤ ps.length ∧ i = .int .i64 k ∧ s = .int .i64 (sumI (ps.take k))) (fun _ i => ps.length - (intOf i).toNat)
  case atStart => exact ⟨0, Nat.zero_le _, rfl, rfl⟩
  case round =>
    obtain ⟨k, hk, rfl, rfl⟩ := hrel
    by_cases hlt : k < ps.length
    · obtain ⟨bb, off, rfl, _, hbb, hcs⟩ := HC.out (by omega)
      obtain ⟨c, hc⟩ : ∃ c, ps[k]? = some c := ⟨_, List.getElem?_eq_getElem hlt⟩
      have c0 := cellAlloc (hcs _ _ (ints_get hc))
      have hst := sumI_take hc
      have h1 := sumI_bd (ps.take k) (fun x hx => HB.out x (List.mem_of_mem_take hx))
      have h2 := HB.out c (List.mem_of_getElem? hc)
      have hkl : ((ps.take k).length : Int) = k := by simp; omega
      rw [hkl] at h1
      have hsum : IntKind.i64.wrap (sumI (ps.take k) + c) = sumI (ps.take k) + c := IntWalk.i64_in _ (by omega)
      have HST := Lib.hid hst
      clear hst h1 h2 hc hcs
      go_wp2
      go_round
      case rel => exact ⟨k + 1, by omega, by go_num, by rw [HST.out]⟩
      case measure => simp [intOf]; omega
    · obtain rfl : k = ps.length := by omega
      rw [List.take_length]
      go_wp2
      go_ret
      exact ⟨rfl, (Below.refl _ _).alloc (Nat.le_refl _) _⟩
end Go.Proofs.Ytcigobiolbojhaa.Vb

/- vcg.Each: what it tells (the going over itself apart). -/
namespace Go.Proofs.Ytcigobiolbojhaa.Vb
open Go.RowKit

theorem ints_one (cs : List Int) : ∀ u ∈ ints cs, u.oneCell' = true := by
  intro u hu
  simp [ints] at hu
  obtain ⟨x, _, rfl⟩ := hu
  rfl

set_option maxHeartbeats 400000 in
theorem clone_i64 (xs : List Value) (n : Nat) (v : Value) (R : Nat → Prop) (w : World) (hl : Sl w R v n 1 xs) (h1 : ∀ u ∈ xs, u.oneCell' = true) (hb : n * 8 ≤ 140737488355328) :
    Calls Try.prog 78 #[v] w fun e w' => ∃ A' cap', e = .returned (.slice A' n cap') ∧ w'.ownsRow w.heap.size 2 1 (.slice A' n cap') n xs ∧ Below w.heap.size w w' := by
  obtain ⟨hlen, A, cap, rfl, hncap, hcap, hcells⟩ := id hl
  have HS := Lib.hid hl
  clear hl hcells
  have hq := fun (W : World) (a : Option Addr) => Lib.run_eql_slice_nil (P := Try.prog) W 34 2 a n cap 0 0 Try.underlying34
  cases A with
  | none =>
    have hn : n = 0 := by
      obtain ⟨_, A, c, h, _, _, hc⟩ := HS.out
      injection h with hA _ _
      subst hA
      rcases Nat.eq_zero_or_pos n with h0 | h0
      · exact h0
      · obtain ⟨b, off, h, _⟩ := hc h0
        cases h
    subst hn
    have hx : xs = [] := List.eq_nil_of_length_eq_zero (by simpa using hlen)
    subst hx
    go_enter Try.func78, Try.ntmps78
    go_wp2
    go_ret
    exact ⟨none, 0, rfl, World.ownsRow_nil _ _ _ _, Below.refl _ _⟩
  | some ad =>
    clear hlen
    go_enter Try.func78, Try.ntmps78
    go_wp2_with (at_builtin; refine wpList_app _ rfl (.tmp 5) (.tmp 6) et_i64 rfl w.heap.size (.slice (some ⟨w.heap.size, 0, none⟩) 0 0) 0 [] rfl (World.ownsRow_lit w #[] 0 (Nat.le_refl _) (Nat.zero_le _) rfl) R _ n xs rfl (HS.out.alloc _) h1 (by omega) (by unfold maxLen; omega) (by simp) ?_; intro A' cap' w1 hown hg hloc)
    go_ret
    refine ⟨A', cap', by simp, by simpa using hown, ((Below.refl _ _).alloc (Nat.le_refl _) _).grown hg (by simp) (by simp [Value.ownBlock])⟩

set_option maxHeartbeats 800000 in
theorem each_err (n : Int) (bs : List (List Off)) (v : Value) (R : Nat → Prop) (w : World) (hl : Buys w R v bs) (hs : Small bs) (hi : instE n bs ≠ 0) :
    Calls Try.prog 16 #[.agg #[.int .i64 n, v]] w fun e w' => e = .returned (.tuple #[.nilFunc, .int .i64 (instE n bs)]) ∧ Below w.heap.size w w' := by
  obtain ⟨vs, ⟨_, A, cap, rfl, _⟩, _⟩ := id hl
  have HB := Lib.hid hl
  have HS := Lib.hid hs
  have hcb : (instE n bs != 0) = true := by simpa using hi
  have HI := Lib.hid hi
  clear hl hi hs
  go_enter Try.func16, Try.ntmps16
  go_wp2_with (first
    | (go_at_call 77; refine (copy_any n bs _ R _ (HB.out.alloc _) HS.out).mono ?_; rintro e w1 ⟨A1, c1, rfl, hob, hb1⟩; have hs1 := hb1.size; have HB1 := Lib.hid (((Below.refl _ _).alloc (Nat.le_refl _) _).trans (hb1.mono (B' := w.heap.size) (by simp))); have HOB := Lib.hid hob; clear hb1 hob)
    | (go_at_call 21; refine (costs_err n bs _ _ _ HOB.out.buys HI.out).mono ?_; rintro e w2 ⟨rfl, hb2⟩; have HB2 := Lib.hid (HB1.out.trans (hb2.mono HB1.out.size)); clear hb2))
  go_ret2
  exact ⟨rfl, HB2.out.alloc HB2.out.size _⟩

/-- where the iterator's two variables lie, and what they hold -/
structure EachAt (w : World) (lo pb pp : Nat) (n : Int) (bs : List (List Off)) : Prop where
  at_ : ∃ A1 c1 A2 c2 A3 c3, Blk w pb 36 #[.slice A1 bs.length c1, .int .i64 (W bs (allOf n)), .slice A2 bs.length c2] ∧ Blk w pp 34 #[.slice A3 bs.length c3] ∧
    w.ownsRow lo 3 1 (.slice A1 bs.length c1) bs.length (ints (bestC n bs)) ∧ w.ownsRow lo 2 1 (.slice A3 bs.length c3) bs.length (ints (paysC n bs))

theorem EachAt.grow {w w' : World} {lo pb pp : Nat} {n : Int} {bs : List (List Off)} (h : EachAt w lo pb pp n bs) (hb : Below w.heap.size w w') : EachAt w' lo pb pp n bs := by
  obtain ⟨A1, c1, A2, c2, A3, c3, h1, h2, h3, h4⟩ := h.at_
  exact ⟨A1, c1, A2, c2, A3, c3, h1.grow hb, h2.grow hb, own_grow h3 hb, own_grow h4 hb⟩

set_option maxHeartbeats 800000 in
theorem each_ok (n : Int) (bs : List (List Off)) (v : Value) (R : Nat → Prop) (w : World) (hl : Buys w R v bs) (hi : instE n bs = 0) :
    Calls Try.prog 16 #[.agg #[.int .i64 n, v]] w fun e w' => ∃ pb pp, e = .returned (.tuple #[.func (.func 79) #[] #[.pointer (some ⟨pb, 0, none⟩), .pointer (some ⟨pp, 0, none⟩)], .int .i64 0]) ∧
      EachAt w' w.heap.size pb pp n bs ∧ w.heap.size ≤ pb ∧ w.heap.size ≤ pp ∧ Below w.heap.size w w' := by
  obtain ⟨vs, ⟨_, A, cap, rfl, _⟩, _⟩ := id hl
  have HB := Lib.hid hl
  have HS := Lib.hid (instE_small hi)
  have hl32 := (instE_zero hi).2.2.1
  have HI := Lib.hid hi
  clear hl hi
  go_enter Try.func16, Try.ntmps16
  go_wp2_with (first
    | (go_at_call 77; refine (copy_any n bs _ R _ (HB.out.alloc _) HS.out).mono ?_; rintro e w1 ⟨A1, c1, rfl, hob, hb1⟩; have hs1 := hb1.size; simp at hs1; have HB1 := Lib.hid (((Below.refl _ _).alloc (Nat.le_refl _) _).trans (hb1.mono (B' := w.heap.size) (by simp))); have HOB := Lib.hid hob; clear hb1 hob)
    | (go_at_call 21; refine (costs_ok n bs _ _ _ HOB.out.buys HI.out).mono ?_; rintro e w2 ⟨AC, cC, AP, cP, rfl, hownC, hownP, hb2⟩; have hs2 := hb2.size; have HB2 := Lib.hid (HB1.out.trans (hb2.mono HB1.out.size)); have HC2 := Lib.hid hownC; have HP2 := Lib.hid hownP; clear hb2 hownC hownP)
    | (go_at_call 78; refine (clone_i64 (ints (paysC n bs)) bs.length _ _ _ ((Sl.of_own HP2.out).alloc _) (ints_one _) (by omega)).mono ?_; rintro e w3 ⟨A3, c3, rfl, hown3, hb3⟩; have HB3 := Lib.hid hb3; have HO3 := Lib.hid hown3; clear hb3 hown3))
  go_ret2
  have h3 := HB3.out.size
  simp at h3
  refine ⟨_, _, rfl, ⟨AC, cC, AP, cP, A3, c3, ((Blk.new w2 _ _).grow HB3.out).alloc _, Blk.new w3 _ _, ?_, ?_⟩, by omega, by omega, ?_⟩
  · exact own_mono (own_alloc (own_grow (own_alloc HC2.out _) HB3.out) _) (by omega)
  · exact own_mono (own_alloc HO3.out _) (by simp; omega)
  · exact ((HB2.out.alloc HB2.out.size _).trans (HB3.out.mono (by simp; omega))).alloc (by omega) _
end Go.Proofs.Ytcigobiolbojhaa.Vb

/- Law 17's own: three, works. -/
namespace Go.Proofs.Ytcigobiolbojhaa.Vb
open Go.RowKit

def bs3 : List (List Off) := [[⟨1, 6⟩, ⟨3, 9⟩], [⟨2, 5⟩], [⟨3, 10⟩]]

theorem Sl.blk {w : World} {g n cap sz : Nat} {t : TypeId} {cs : Array Value} (h : Blk w g t cs) (h1 : n ≤ cap) (h2 : cap ≤ maxLen) (h3 : cs.size = n * sz) : Sl w (fun _ => True) (.slice (some ⟨g, 0, none⟩) n cap) n sz cs.toList :=
  ⟨by simpa using h3, some ⟨g, 0, none⟩, cap, rfl, h1, h2, fun _ => ⟨g, 0, rfl, trivial, h.lt, fun j u hj => by
    rw [show 0 + j = j from by omega]
    exact (h.cell j).trans (by simpa using hj)⟩⟩

theorem three_buys {w : World} {g g1 g2 g3 : Nat} {t u : TypeId} (h1 : Blk w g1 t #[.int .u32 1, .int .i64 6, .int .u32 3, .int .i64 9]) (h2 : Blk w g2 t #[.int .u32 2, .int .i64 5]) (h3 : Blk w g3 t #[.int .u32 3, .int .i64 10])
    (h : Blk w g u #[.slice (some ⟨g1, 0, none⟩) 2 2, .slice (some ⟨g2, 0, none⟩) 1 1, .slice (some ⟨g3, 0, none⟩) 1 1]) : Buys w (fun _ => True) (.slice (some ⟨g, 0, none⟩) 3 3) bs3 := by
  refine ⟨_, Sl.blk (sz := 1) h (by omega) (by unfold maxLen; omega) rfl, fun k l hk => ?_⟩
  rcases k with _ | _ | _ | k
  · obtain rfl : [⟨1, 6⟩, ⟨3, 9⟩] = l := by simpa [bs3] using hk
    exact ⟨_, rfl, Sl.blk (sz := 2) h1 (by omega) (by unfold maxLen; omega) rfl, fun o ho => by simp at ho; rcases ho with rfl | rfl <;> simp [Off.wf]⟩
  · obtain rfl : [⟨2, 5⟩] = l := by simpa [bs3] using hk
    exact ⟨_, rfl, Sl.blk (sz := 2) h2 (by omega) (by unfold maxLen; omega) rfl, fun o ho => by simp at ho; subst ho; simp [Off.wf]⟩
  · obtain rfl : [⟨3, 10⟩] = l := by simpa [bs3] using hk
    exact ⟨_, rfl, Sl.blk (sz := 2) h3 (by omega) (by unfold maxLen; omega) rfl, fun o ho => by simp at ho; subst ho; simp [Off.wf]⟩
  · simp [bs3] at hk

theorem Blk.new' {w : World} {g : Nat} (t : TypeId) (cs : Array Value) (hg : w.heap.size = g) : Blk (w.alloc (.cells cs t)) g t cs := by subst hg; exact Blk.new w t cs

set_option maxHeartbeats 800000 in
theorem three_any (w : World) :
    Calls Try.prog 76 #[] w fun e w' => ∃ A cap, e = .returned (.agg #[.int .i64 2, .slice A 3 cap]) ∧ Buys w' (fun _ => True) (.slice A 3 cap) bs3 ∧ Below w.heap.size w w' := by
  go_enter Try.func76, Try.ntmps76
  go_wp2
  refine bodyPost_ret (v := .agg #[.int .i64 2, .slice (some ⟨w.heap.size + 1 + 1 + 1 + 1, 0, none⟩) 3 3]) (by simp [results, Try.results76, go_sem]) rfl ⟨_, _, rfl, three_buys (((Blk.new' _ _ (by simp)).alloc _).alloc _ |>.alloc _) (((Blk.new' _ _ (by simp)).alloc _).alloc _) ((Blk.new' _ _ (by simp)).alloc _) (Blk.new' _ _ (by simp)), ?_⟩
  exact (((((Below.refl _ _).alloc (Nat.le_refl _) _).alloc (by simp) _).alloc (by simp; omega) _).alloc (by simp; omega) _).alloc (by simp; omega) _

theorem bs3_inst : instE 2 bs3 = 0 := by decide
theorem bs3_W : W bs3 (allOf 2) = 11 := by decide
theorem bs3_pays : paysC 2 bs3 = [5, 4, 0] := by decide
theorem bs3_wo : woW 2 bs3 0 = 10 := by decide
theorem bs3_with : withE 2 bs3 0 [] = 0 := by decide
end Go.Proofs.Ytcigobiolbojhaa.Vb

/- Law 17's own: works. -/
namespace Go.Proofs.Ytcigobiolbojhaa.Vb
open Go.RowKit

theorem neq_func_nil (fn : Fn) (fi ca : Array Value) (W : World) : (binOp .neq 29 (.func fn fi ca) .nilFunc).run Try.prog W = .ok (.bool true) W := by kernel_rfl

set_option maxRecDepth 100000 in
set_option maxHeartbeats 1600000 in
theorem works_any (w : World) : Calls Try.prog 14 #[] w fun e w' => e = .returned (.bool true) ∧ Below w.heap.size w w' := by
  have hnf := neq_func_nil
  go_enter Try.func14, Try.ntmps14
  go_wp2_with (first
    | (go_at_call 76; have := HWO; refine (three_any w5).mono ?_; rintro e w6 ⟨T3, k3, rfl, ht3, hb6⟩; have hs6 := hb6.size; have HT3 := Lib.hid ht3; have HB6 := Lib.hid (HB5.out.trans (hb6.mono HB5.out.size)); have HQ6 := Lib.hid (HQ5.out.grow hb6); have HD6 := Lib.hid (own_grow HD5.out hb6); clear hb6 ht3)
    | (go_at_call 76; have := HC2; refine (three_any _).mono ?_; rintro e w4 ⟨T2, k2, rfl, ht2, hb4⟩; have hs4 := hb4.size; simp at hs4; have HT2 := Lib.hid ht2; have HQ4 := Lib.hid (HQ2.out.grow hb4); have HD4 := Lib.hid (own_grow (own_alloc HP2.out _) hb4); have HB4 := Lib.hid ((HB2.out.alloc HB2.out.size _).trans (hb4.mono (by have := HB2.out.size; simp; omega))); clear hb4 ht2)
    | (go_at_call 76; refine (three_any w).mono ?_; rintro e w1 ⟨T1, k1, rfl, ht1, hb1⟩; have HT1 := Lib.hid ht1; have HB1 := Lib.hid hb1; clear hb1 ht1)
    | (go_at_call 21; refine (costs_ok 2 bs3 _ _ _ HT1.out bs3_inst).mono ?_; rintro e w2 ⟨AC, cC, AP, cP, rfl, hownC, hownP, hb2⟩; rw [bs3_W]; have HC2 := Lib.hid hownC; have HP2 := Lib.hid hownP; have HB2 := Lib.hid (HB1.out.trans (hb2.mono HB1.out.size)); have HQ2 := Lib.hid (Blk.new w2 36 #[.slice AC 3 cC, .int .i64 11, .slice AP 3 cP]); clear hb2 hownC hownP)
    | (go_at_call 24; refine (vcgWithout_any 2 bs3 0 _ _ _ HT2.out).mono ?_; rintro e w5 ⟨rfl, hb5⟩; rw [bs3_wo, bs3_with]; have hs5 := hb5.size; have HWO := Lib.hid True.intro; have HQ5 := Lib.hid (HQ4.out.grow hb5); have HD5 := Lib.hid (own_grow HD4.out hb5); have HB5 := Lib.hid (HB4.out.trans (hb5.mono HB4.out.size)); clear hb5)
    | (go_at_call 16; refine (each_ok 2 bs3 _ _ _ HT3.out bs3_inst).mono ?_; rintro e w7 ⟨pb, pp, rfl, _, _, _, hb7⟩; have hD7 := own_grow HD6.out hb7; rw [bs3_pays] at hD7; obtain ⟨g, rfl, _, _, _, _, _⟩ := own_some hD7 (by decide); obtain ⟨q1, q2, c0, c1, c2⟩ : w7.cell? ⟨w2.heap.size, 1, none⟩ = some (.int .i64 11) ∧ w7.cell? ⟨w2.heap.size, 2, none⟩ = some (.slice (some ⟨g, 0, none⟩) 3 cP) ∧ w7.cell? ⟨g, 0, none⟩ = some (.int .i64 5) ∧ w7.cell? ⟨g, 1, none⟩ = some (.int .i64 4) ∧ w7.cell? ⟨g, 2, none⟩ = some (.int .i64 0) := ⟨(HQ6.out.grow hb7).cell 1, (HQ6.out.grow hb7).cell 2, hD7.cellAt 0 (by decide), hD7.cellAt 1 (by decide), hD7.cellAt 2 (by decide)⟩; have HB7 := Lib.hid (HB6.out.trans (hb7.mono HB6.out.size)); clear hb7 hD7)
    | (go_at_call 18; refine (num_any 0 (by decide) (by decide) _).mono ?_; rintro e w9 ⟨rfl, rfl⟩))
  go_ret
  exact ⟨rfl, HB7.out⟩
end Go.Proofs.Ytcigobiolbojhaa.Vb

/- Law 17's own: what given makes. -/
namespace Go.Proofs.Ytcigobiolbojhaa.Vb
open Go.RowKit

/-- each list in memory of its own, with one offer of 77 behind it -/
def Giv (w : World) (lo : Nat) (v : Value) (bs : List (List Off)) : Prop :=
  ∃ vs, w.ownsRow lo 41 1 v bs.length vs ∧ ∀ (k : Nat) (l : List Off), bs[k]? = some l → ∃ b cap, vs[k]? = some (.slice (some ⟨b, 0, none⟩) l.length cap) ∧
    w.ownsRow lo 45 2 (.slice (some ⟨b, 0, none⟩) (l.length + 1) cap) (l.length + 1) (Off.all (l ++ [⟨77, 0⟩])) ∧ ∀ o ∈ l, o.wf
theorem Giv.grow {w w' : World} {lo : Nat} {v : Value} {bs : List (List Off)} (h : Giv w lo v bs) (hb : Below w.heap.size w w') : Giv w' lo v bs := by
  obtain ⟨vs, hs, ho⟩ := h
  exact ⟨vs, own_grow hs hb, fun k l hk => let ⟨b, c, h1, h2, h3⟩ := ho k l hk; ⟨b, c, h1, own_grow h2 hb, h3⟩⟩
theorem Giv.mono {w : World} {lo lo' : Nat} {v : Value} {bs : List (List Off)} (h : Giv w lo v bs) (hl : lo' ≤ lo) : Giv w lo' v bs := by
  obtain ⟨vs, hs, ho⟩ := h
  exact ⟨vs, own_mono hs hl, fun k l hk => let ⟨b, c, h1, h2, h3⟩ := ho k l hk; ⟨b, c, h1, own_mono h2 hl, h3⟩⟩
theorem own_lo {w w' : World} {lo : Nat} {e : TypeId} {sz n : Nat} {v : Value} {xs : List Value} {row : Option Nat} (h : w.ownsRow lo e sz v n xs) (hg : w.grownBy w' row) (hr : ∀ k, row = some k → k < lo) : w'.ownsRow lo e sz v n xs :=
  own_far h hg fun g e he => by have := (h.lt g he).1; have := hr g e; omega
theorem Giv.far {w w' : World} {lo : Nat} {v : Value} {bs : List (List Off)} {row : Option Nat} (h : Giv w lo v bs) (hg : w.grownBy w' row) (hr : ∀ k, row = some k → k < lo) : Giv w' lo v bs := by
  obtain ⟨vs, hs, ho⟩ := h
  exact ⟨vs, own_lo hs hg hr, fun k l hk => let ⟨b, c, h1, h2, h3⟩ := ho k l hk; ⟨b, c, h1, own_lo h2 hg hr, h3⟩⟩
theorem Giv.buys {w : World} {lo : Nat} {v : Value} {bs : List (List Off)} (h : Giv w lo v bs) : Buys w (fun _ => True) v bs := by
  obtain ⟨vs, hs, ho⟩ := h
  refine ⟨vs, (Sl.of_own hs).mono fun _ _ _ => trivial, fun k l hk => ?_⟩
  obtain ⟨b, c, h1, h2, h3⟩ := ho k l hk
  obtain ⟨_, A, cap, hv, hnc, hcm, hcs⟩ := Sl.of_own h2
  injection hv with hA _ hc
  subst hA hc
  refine ⟨_, h1, ⟨by rw [Off.all_length], _, _, rfl, by omega, hcm, fun h0 => ?_⟩, h3⟩
  obtain ⟨b', off, e, _, hlt, hcell⟩ := hcs (by omega)
  refine ⟨b', off, e, trivial, hlt, fun j u hj => hcell j u ?_⟩
  have : Off.all (l ++ [⟨77, 0⟩]) = Off.all l ++ Off.all [⟨77, 0⟩] := by simp [Off.all]
  rw [this, List.getElem?_append_left (List.getElem?_eq_some_iff.1 hj).1]
  exact hj
/-- One list more. -/
theorem Giv.snoc {w w' : World} {lo : Nat} {v : Value} {bs : List (List Off)} {vs : List Value} {l : List Off} {b cap : Nat} {A' : Option Addr} {cap' n : Nat} (hn : bs.length = n)
    (hs : w.ownsRow lo 41 1 v n vs)
    (ho : ∀ (k : Nat) (l : List Off), bs[k]? = some l → ∃ b cap, vs[k]? = some (.slice (some ⟨b, 0, none⟩) l.length cap) ∧ w.ownsRow lo 45 2 (.slice (some ⟨b, 0, none⟩) (l.length + 1) cap) (l.length + 1) (Off.all (l ++ [⟨77, 0⟩])) ∧ ∀ o ∈ l, o.wf)
    (hl : w.ownsRow lo 45 2 (.slice (some ⟨b, 0, none⟩) (l.length + 1) cap) (l.length + 1) (Off.all (l ++ [⟨77, 0⟩]))) (hw : ∀ o ∈ l, o.wf)
    (hown : w'.ownsRow lo 41 1 (.slice A' (n + 1) cap') (n + 1) (vs ++ [.slice (some ⟨b, 0, none⟩) l.length cap])) (hg : w.grownBy w' v.ownBlock) : Giv w' lo (.slice A' (n + 1) cap') (bs ++ [l]) := by
  subst hn
  have hlen : vs.length = bs.length := by simpa using hs.1
  have step : ∀ {u : Value} {m : Nat} {xs : List Value}, w.ownsRow lo 45 2 u m xs → w'.ownsRow lo 45 2 u m xs := fun h => own_far h hg fun g e => own_ne hs h (by decide) e
  refine ⟨vs ++ [.slice (some ⟨b, 0, none⟩) l.length cap], by simpa using hown, fun k l' hk => ?_⟩
  by_cases hkl : k < bs.length
  · rw [List.getElem?_append_left hkl] at hk
    obtain ⟨b', c', h1, h2, h3⟩ := ho k l' hk
    exact ⟨b', c', by rw [List.getElem?_append_left (by omega)]; exact h1, step h2, h3⟩
  · have : k = bs.length := by
      rcases Nat.lt_or_ge k (bs ++ [l]).length with h | h
      · simp at h; omega
      · rw [List.getElem?_eq_none h] at hk; cases hk
    subst this
    simp at hk
    subst hk
    exact ⟨b, cap, by rw [← hlen]; simp, step hl, hw⟩
end Go.Proofs.Ytcigobiolbojhaa.Vb

/- Law 17's own: stays. -/
namespace Go.Proofs.Ytcigobiolbojhaa.Vb
open Go.RowKit

set_option maxRecDepth 100000 in
set_option maxHeartbeats 1600000 in
theorem stays_any (n : Int) (bs : List (List Off)) (vy vx : Value) (lo : Nat) (R : Nat → Prop) (w : World) (hy : Giv w lo vy bs) (hx : Buys w R vx bs) (hsm : Small bs) :
    Calls Try.prog 19 #[.agg #[.int .i64 n, vy], .agg #[.int .i64 n, vx]] w fun e w' => e = .returned (.bool true) ∧ Below w.heap.size w w' := by
  have HGY := Lib.hid hy
  have HGX := Lib.hid hx
  have HSM := Lib.hid hsm.2
  have hlen64 := hsm.1
  obtain ⟨ws, hsy, hwy⟩ := hy
  obtain ⟨vs, ⟨hlen, A, cap, rfl, hncap, hcap, hcells⟩, hvs⟩ := hx
  obtain ⟨_, A', cap', rfl, hncap', hcap', hcells'⟩ := Sl.of_own hsy
  unfold maxLen at hcap hcap'
  have HC := Lib.hid hcells
  have HC' := Lib.hid hcells'
  have HV := Lib.hid hvs
  have HV' := Lib.hid hwy
  clear hcells hcells' hvs hwy hlen hsy hsm
  go_enter Try.func19, Try.ntmps19
  go_wp2
  go_loopw [5] (fun i wr => ∃ k : Nat, k ≤ bs.length ∧ i = .int .i64 k ∧ Below (w.heap.size + 2) ((w.alloc (.cells #[.int .i64 n, .slice A' bs.length cap'] 24)).alloc (.cells #[.int .i64 n, .slice A bs.length cap] 24)) wr) (fun i _ => bs.length - (intOf i).toNat)
  case atStart => exact ⟨0, Nat.zero_le _, rfl, Below.refl _ _⟩
  case round =>
    obtain ⟨k, hk, rfl, hb⟩ := hrel
    obtain ⟨cx0, cx1, cy0, cy1, fx, fy, hs, hbw⟩ := two_new hb
    have HB := Lib.hid hb
    have HBW := Lib.hid hbw
    by_cases hlt : k < bs.length
    · obtain ⟨bb, off, rfl, _, hbb, hcs⟩ := HC.out (by omega)
      obtain ⟨bb', off', rfl, _, hbb', hcs'⟩ := HC'.out (by omega)
      obtain ⟨l, ho⟩ : ∃ l, bs[k]? = some l := ⟨_, List.getElem?_eq_getElem hlt⟩
      have hll := HSM.out l (List.mem_of_getElem? ho)
      obtain ⟨u, hu, hol⟩ := HV.out k l ho
      obtain ⟨gb, gc, hgu, hgo, hgw⟩ := HV'.out k l ho
      have c0 := (hbw.cell hbb).trans (hcs _ _ hu)
      have d0 := (hbw.cell hbb').trans (hcs' _ _ hgu)
      obtain ⟨⟨_, A1, cap1, rfl, _⟩, _⟩ := hol
      obtain ⟨_, _, _, hv1, hnc1, hcm1, hcc1⟩ := Sl.of_own hgo
      injection hv1 with hA1 _ hc1
      subst hA1 hc1
      obtain ⟨b1, o1, hb1, _, hlt1, hcc⟩ := hcc1 (by omega)
      injection hb1 with hb1
      injection hb1 with hb1 ho1 _
      subst hb1 ho1
      have h77 : (Off.all (l ++ [⟨77, 0⟩]))[l.length * 2]? = some (.int .u32 77) := Off.all_fst (l ++ [⟨77, 0⟩]) l.length ⟨77, 0⟩ (by simp)
      have g77 := (hbw.cell (p := ⟨gb, 0 + l.length * 2, none⟩) hlt1).trans (hcc _ _ h77)
      have hwr : IntKind.i64.wrap ((l.length : Int) + 1) = l.length + 1 := IntWalk.i64_in _ (by omega)
      have hn0 : (0 : Int) ≤ (l.length : Int) := by omega
      have hn1 : (l.length : Int) + 1 ≤ (gc : Int) := by omega
      have hn2 : (0 : Int) ≤ (l.length : Int) + 1 := by omega
      have hn3 : ((l.length : Int) + 1).toNat = l.length + 1 := by omega
      have hn4 : (l.length : Int) < ((l.length + 1 : Nat) : Int) := by omega
      rw [Nat.zero_add] at g77
      clear hcs hcs' hu hgu hgo ho hcc hcc1 h77 hb hbw hgw
      go_wp2_with fail
      go_quiet (fail)
      go_wp2_with fail
      go_roundw
      case rel =>
        exact ⟨k + 1, by omega, by go_num, below_drewN HB.out _⟩
      case measure => simp [intOf]; omega
    · clear hb hbw
      go_wp2_with (go_at_call 83; refine (refSameInst_true n bs _ _ _ _ _ (HGY.out.buys.grow HBW.out) (HGX.out.grow HBW.out)).mono ?_; rintro e w1 ⟨rfl, hb1⟩)
      go_ret
      exact ⟨rfl, HBW.out.trans (hb1.mono HBW.out.size)⟩
end Go.Proofs.Ytcigobiolbojhaa.Vb

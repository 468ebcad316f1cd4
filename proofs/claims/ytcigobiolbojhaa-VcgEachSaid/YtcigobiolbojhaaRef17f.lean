/- The reference of layer 17: Gains. -/
import Derived.Test.YtcigobiolbojhaaRef17e
namespace Go.Proofs.Ytcigobiolbojhaa.Vb
open Go.RowKit

/-- append at a step of a region that draws its order -/
theorem step_app {P : Program} (w : World) {ops : Array Oper} {o : Oper} {a : Act} {K : Act → World → Prop} {Q : Exit → Act → World → Prop} {E0 : Prop} (hgd : o.guard = none) (s x : Operand) {t e : TypeId} {sz bytes : Nat} (E : ElemT P t e sz bytes)
    (ho : o.op = .call { callee := .builtin .append, args := #[s, x], argTypes := #[t, t] })
    (base : Nat) (v : Value) (n : Nat) (xs : List Value) (hs : a.eval s = v) (hown : w.ownsRow base e sz v n xs)
    (R : Nat → Prop) (v2 : Value) (m : Nat) (news : List Value) (hx : a.eval x = v2) (hr : Sl w R v2 m sz news) (h1 : ∀ u ∈ news, u.oneCell' = true)
    (hbytes : (n + m) * bytes ≤ 140737488355328) (h63 : n + m ≤ maxLen) (hbase : base ≤ w.heap.size)
    (h : ∀ A' cap' w', w'.ownsRow base e sz (.slice A' (n + m) cap') (n + m) (xs ++ news) → w.grownBy w' v.ownBlock → ((Value.slice A' (n + m) cap').ownBlock = v.ownBlock ∨ (Value.slice A' (n + m) cap').ownBlock = some w.heap.size) → K (a.put o.dst (.slice A' (n + m) cap')) w') :
    if Region.wanted o (yielded ops a.tmps) = true then Oper.wp P o a w K Q else E0 := by
  have hw : Region.wanted o (yielded ops a.tmps) = true := by simp [Region.wanted, hgd]
  rw [if_pos hw]
  exact wp_app w s x E ho base v n xs hs hown R v2 m news hx hr h1 hbytes h63 hbase h

theorem gainsC_length (n : Int) (bs : List (List Off)) : (gainsC n bs).length = bs.length := by simp [gainsC]

set_option maxRecDepth 100000 in
set_option maxHeartbeats 3200000 in
theorem refGains_ok (n : Int) (bs : List (List Off)) (v : Value) (R : Nat → Prop) (w : World) (hl : Buys w R v bs) (hi : instE n bs = 0) :
    Calls Try.prog 27 #[.agg #[.int .i64 n, v]] w fun e w' => ∃ A' cap', e = .returned (.tuple #[.slice A' bs.length cap', .int .i64 0]) ∧
      w'.ownsRow w.heap.size 2 1 (.slice A' bs.length cap') bs.length (ints (gainsC n bs)) ∧ Below w.heap.size w w' := by
  obtain ⟨vs, ⟨_, A, cap, rfl, _⟩, _⟩ := id hl
  have HB := Lib.hid hl
  have HI := Lib.hid hi
  have hl32 := (instE_zero hi).2.2.1
  have HWF := Lib.hid (buys_wf hl)
  clear hl hi
  go_enter Try.func27, Try.ntmps27
  go_wp2_with (go_at_call 17; refine (refCosts_ok n bs _ R _ (HB.out.alloc _) HI.out).mono ?_; rintro e w1 ⟨AC, cC, AP, cP, rfl, hownC, hownP, hb1⟩; have hX := (one_blk' hb1).1; have HX := Lib.hid hX; have HB1 := Lib.hid (one_blk' hb1).2.2; have hs1 := (one_blk' hb1).2.1; have HC := Lib.hid hownC; have HP := Lib.hid hownP; clear hb1 hX hownC hownP)
  have hw2 : ∃ w2, w2 = w1.alloc (.cells #[.slice AC bs.length cC, .int .i64 (W bs (allOf n)), .slice AP bs.length cP] 36) := ⟨_, rfl⟩
  obtain ⟨w2, hW2⟩ := hw2
  have HX2 := Lib.hid (show Blk w2 w.heap.size _ _ from by rw [hW2]; exact HX.out.alloc _)
  have HQ2 := Lib.hid (show Blk w2 w1.heap.size 36 #[.slice AC bs.length cC, .int .i64 (W bs (allOf n)), .slice AP bs.length cP] from by rw [hW2]; exact Blk.new w1 _ _)
  have HC2 := Lib.hid (show w2.ownsRow _ _ _ _ _ _ from by rw [hW2]; exact own_alloc HC.out _)
  have HP2 := Lib.hid (show w2.ownsRow _ _ _ _ _ _ from by rw [hW2]; exact own_alloc HP.out _)
  have HBW2 := Lib.hid (show Below w.heap.size w w2 from by rw [hW2]; exact HB1.out.alloc (by omega) _)
  have hs2 : w2.heap.size = w1.heap.size + 1 := by rw [hW2]; simp
  rw [← hW2]
  clear hW2
  go_loopw [6, 7] (fun s i wr => ∃ (k : Nat) (A' : Option Addr) (cap' : Nat), k ≤ bs.length ∧ i = .int .i64 k ∧ s = .slice A' k cap' ∧
      wr.ownsRow w2.heap.size 2 1 (.slice A' k cap') k (ints ((gainsC n bs).take k)) ∧ Below w2.heap.size w2 wr)
    (fun _ i _ => bs.length - (intOf i).toNat)
  case atStart => exact ⟨0, none, 0, Nat.zero_le _, rfl, rfl, World.ownsRow_nil _ _ _ _, Below.refl _ _⟩
  case round =>
    obtain ⟨k, A', cap', hk, rfl, rfl, hown, hbr⟩ := hrel
    have hX := HX2.out.grow hbr
    have hQ := HQ2.out.grow hbr
    have x0 : wr.cell? ⟨w.heap.size, 0, none⟩ = some (.int .i64 n) := hX.cell 0
    have x1 : wr.cell? ⟨w.heap.size, 1, none⟩ = some (.slice A bs.length cap) := hX.cell 1
    have q0 : wr.cell? ⟨w1.heap.size, 0, none⟩ = some (.slice AC bs.length cC) := hQ.cell 0
    have q2 : wr.cell? ⟨w1.heap.size, 2, none⟩ = some (.slice AP bs.length cP) := hQ.cell 2
    have hbw := HBW2.out.trans (hbr.mono (by omega))
    have hszr := hbr.size
    have HO := Lib.hid hown
    have HBR := Lib.hid hbr
    have HBW := Lib.hid hbw
    have HBY := Lib.hid (HB.out.grow hbw)
    by_cases hlt : k < bs.length
    · obtain ⟨c, hc⟩ : ∃ c, (bestC n bs)[k]? = some c := ⟨_, List.getElem?_eq_getElem (by rw [bestC, choose_length]; exact hlt)⟩
      have hlC : (bestC n bs).length = bs.length := by rw [bestC, choose_length]
      have hgood := choose_get bs (allOf n) k c hc
      have hpg := paysC_get hc
      have hgain := won_gain HI.out hlt hc
      obtain ⟨gP, capP, hAP, hgP, hgP2⟩ := World.ownsRow.form HP2.out (by omega)
      injection hAP with hAP _ hcP
      subst hAP hcP
      obtain ⟨hw0, hw1⟩ := woW_bd HWF.out HI.out k
      have hok := (okb_of HWF.out HI.out).1
      have hW0 := W_nonneg bs (allOf n)
      have hW1 : W bs (allOf n) ≤ 35184372088832 := by simpa using hok.W_le 0 (allOf n)
      have hsub : IntKind.i64.wrap (coinAt bs k c - payAt n bs k c) = gainAt n bs k := by
        rw [hgain]
        exact IntWalk.i64_in _ (by unfold gainAt; omega)
      have hpc : wr.cell? ⟨gP, k, none⟩ = some (.int .i64 (payAt n bs k c)) := by
        rw [(own_grow HP2.out hbr).cellAt k (by omega)]
        simp [ints, hpg]
      have hsl : Sl wr (fun _ => True) (.slice AC bs.length cC) (bestC n bs).length 1 (ints (bestC n bs)) := by
        rw [hlC]
        exact (Sl.of_own (own_grow HC2.out hbr)).mono fun _ _ _ => trivial
      have HSL := Lib.hid (show Sl wr.drew (fun _ => True) (.slice AC bs.length cC) (bestC n bs).length 1 (ints (bestC n bs)) from hsl)
      have HBD := Lib.hid (show Buys wr.drew R (.slice A bs.length cap) bs from HBY.out)
      have HCC := Lib.hid hc
      have HGOOD := Lib.hid hgood
      have hgPr : gP < wr.heap.size := by omega
      clear hX hQ hown hbr hbw hc hgood hpg hgain hsl hlC
      go_wp2_with fail
      go_region_held3 (fun w' => w'.cell? ⟨w.heap.size, 0, none⟩ = some (.int .i64 n) ∧ w'.cell? ⟨w.heap.size, 1, none⟩ = some (.slice A bs.length cap) ∧ w'.cell? ⟨w1.heap.size, 0, none⟩ = some (.slice AC bs.length cC) ∧ w'.cell? ⟨w1.heap.size, 2, none⟩ = some (.slice (some ⟨gP, 0, none⟩) bs.length cP) ∧ w'.cell? ⟨gP, k, none⟩ = some (.int .i64 (payAt n bs k c))) (go_keep)
        (first
          | (go_at_call 82; refine (refWon_any n bs (bestC n bs) _ _ R _ k c _ _ HBD.out HSL.out HCC.out rfl HGOOD.out).mono ?_; rintro e w4 ⟨rfl, hb4⟩; obtain ⟨z0, z1, z2, z3, z4⟩ : w4.cell? ⟨w.heap.size, 0, none⟩ = some (.int .i64 n) ∧ w4.cell? ⟨w.heap.size, 1, none⟩ = some (.slice A bs.length cap) ∧ w4.cell? ⟨w1.heap.size, 0, none⟩ = some (.slice AC bs.length cC) ∧ w4.cell? ⟨w1.heap.size, 2, none⟩ = some (.slice (some ⟨gP, 0, none⟩) bs.length cP) ∧ w4.cell? ⟨gP, k, none⟩ = some (.int .i64 (payAt n bs k c)) := ⟨(hb4.cell (p := ⟨w.heap.size, 0, none⟩) (by simp; omega)).trans x0, (hb4.cell (p := ⟨w.heap.size, 1, none⟩) (by simp; omega)).trans x1, (hb4.cell (p := ⟨w1.heap.size, 0, none⟩) (by simp; omega)).trans q0, (hb4.cell (p := ⟨w1.heap.size, 2, none⟩) (by simp; omega)).trans q2, (hb4.cell (p := ⟨gP, k, none⟩) (by simp; omega)).trans hpc⟩; have hsz4 : wr.heap.size ≤ w4.heap.size := hb4.size; have HB4 := Lib.hid hb4; have HO4 := Lib.hid (show w4.ownsRow _ _ _ _ _ _ from own_grow (show wr.drew.ownsRow _ _ _ _ _ _ from HO.out) hb4); clear hb4)
          | (refine step_app _ rfl (.tmp 23) (.tmp 35) et_i64 rfl w2.heap.size (.slice A' k cap') k (ints ((gainsC n bs).take k)) rfl (HO4.out.alloc _) _ _ 1 _ rfl (Sl.new w4 #[.int .i64 (gainAt n bs k)] _ 1 1 (by unfold maxLen; omega) rfl) (by simp [Value.oneCell']) (by omega) (by unfold maxLen; omega) (by simp; omega) ?_; intro A3 cap3 w5 hown5 hg5 hloc5; have hfar : ∀ b, b < w2.heap.size → some b ≠ (Value.slice A' k cap').ownBlock := (fun b hb e => by have := (HO4.out.lt b e.symm).1; omega); obtain ⟨u0, u1, u2, u3, u4⟩ : w5.cell? ⟨w.heap.size, 0, none⟩ = some (.int .i64 n) ∧ w5.cell? ⟨w.heap.size, 1, none⟩ = some (.slice A bs.length cap) ∧ w5.cell? ⟨w1.heap.size, 0, none⟩ = some (.slice AC bs.length cC) ∧ w5.cell? ⟨w1.heap.size, 2, none⟩ = some (.slice (some ⟨gP, 0, none⟩) bs.length cP) ∧ w5.cell? ⟨gP, k, none⟩ = some (.int .i64 (payAt n bs k c)) := ⟨hg5.cell (cellAlloc z0 _) (hfar w.heap.size (by omega)), hg5.cell (cellAlloc z1 _) (hfar w.heap.size (by omega)), hg5.cell (cellAlloc z2 _) (hfar w1.heap.size (by omega)), hg5.cell (cellAlloc z3 _) (hfar w1.heap.size (by omega)), hg5.cell (cellAlloc z4 _) (hfar gP (by omega))⟩; have HG5 := Lib.hid hg5; have HO5 := Lib.hid hown5; clear hg5 hown5 hloc5))
      go_wp2_with fail
      go_roundw
      case rel =>
        have h4 : Below wr.heap.size wr w4 := (Below.refl _ _).drew.trans (show Below wr.heap.size wr.drew w4 from HB4.out)
        refine ⟨k + 1, A3, cap3, by omega, by go_num, rfl, ?_, ((HBR.out.trans (h4.mono hszr)).alloc (by omega) _).grown HG5.out (by simp; omega) (fun g e => (HO4.out.lt g e).1)⟩
        have := HO5.out
        rw [take_gains hlt]
        simpa [ints] using this
      case measure => simp [intOf]; omega
    · obtain rfl : k = bs.length := by omega
      have htk : (gainsC n bs).take bs.length = gainsC n bs := List.take_of_length_le (by simp [gainsC])
      rw [htk] at hown
      have HO' := Lib.hid hown
      clear hX hQ hown hbr hbw htk
      go_wp2_with fail
      go_ret2
      exact ⟨A', cap', rfl, own_mono HO'.out (by omega), HBW.out⟩
end Go.Proofs.Ytcigobiolbojhaa.Vb

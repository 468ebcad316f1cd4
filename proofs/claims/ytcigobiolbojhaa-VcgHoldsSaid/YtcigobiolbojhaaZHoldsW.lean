/- Law 17: VcgHolds, walked. -/
import Derived.Test.YtcigobiolbojhaaZf
import Derived.Test.YtcigobiolbojhaaZd
namespace Go.Proofs.Ytcigobiolbojhaa.Vb
open Go.RowKit

theorem pivotTo_app (n : Int) (bs : List (List Off)) (k : Nat) : ∀ d, ∃ r, pivotTo n bs (k + d) = pivotTo n bs k ++ r ∧ ∀ x ∈ r, (k : Int) ≤ x
  | 0 => ⟨[], by simp, by simp⟩
  | d + 1 => by
    obtain ⟨r, h1, h2⟩ := pivotTo_app n bs k d
    by_cases hg : 0 < gainAt n bs (k + d)
    · refine ⟨r ++ [((k + d : Nat) : Int)], ?_, fun x hx => ?_⟩
      · rw [← Nat.add_assoc, pivotTo_yes hg, h1, List.append_assoc]
      · rcases List.mem_append.1 hx with h | h
        · exact h2 x h
        · simp at h; omega
    · exact ⟨r, by rw [← Nat.add_assoc, pivotTo_no hg, h1], h2⟩
theorem pivot_at {n : Int} {bs : List (List Off)} {k : Nat} (hk : k < bs.length) (h : 0 < gainAt n bs k) : (pivotC n bs)[(pivotTo n bs k).length]? = some (k : Int) := by
  obtain ⟨r, h1, _⟩ := pivotTo_app n bs (k + 1) (bs.length - (k + 1))
  rw [show k + 1 + (bs.length - (k + 1)) = bs.length by omega] at h1
  unfold pivotC
  rw [h1, pivotTo_yes h]
  simp
theorem pivot_not {n : Int} {bs : List (List Off)} {k : Nat} (hk : k < bs.length) (h : ¬ 0 < gainAt n bs k) {x : Int} (hx : (pivotC n bs)[(pivotTo n bs k).length]? = some x) : x ≠ (k : Int) := by
  obtain ⟨r, h1, h2⟩ := pivotTo_app n bs (k + 1) (bs.length - (k + 1))
  rw [show k + 1 + (bs.length - (k + 1)) = bs.length by omega] at h1
  unfold pivotC at hx
  rw [h1, pivotTo_no h, List.getElem?_append_right (Nat.le_refl _), Nat.sub_self] at hx
  have := h2 x (List.mem_of_getElem? hx)
  omega
/-- what is said of one buyer -/
theorem holds_plain {n : Int} {bs : List (List Off)} (hw : ∀ l ∈ bs, ∀ o ∈ l, o.wf) (hi : instE n bs = 0) {k : Nat} {c : Int} (hk : k < bs.length) (hc : (bestC n bs)[k]? = some c) :
    0 ≤ payAt n bs k c ∧ payAt n bs k c ≤ coinAt bs k c ∧ gainAt n bs k = coinAt bs k c - payAt n bs k c := by
  have hg := won_gain hi hk hc
  have hset := W_set_le bs k (allOf n)
  have hwo : woW n bs (k : Int) = W (bs.set k []) (allOf n) := by unfold woW; rw [if_pos (instE_withE hi hk), Int.toNat_natCast]
  refine ⟨?_, ?_, hg.symm⟩
  · unfold payAt
    split
    · omega
    · rename_i h0
      rcases choose_get _ _ _ _ hc with h | ⟨j, l, o, rfl, hl, ho⟩
      · omega
      · rw [coinAt_some hl ho, hwo]
        have hgood : GoodL bs := fun l hl o ho => (hw l hl o ho).1
        have := W_win bs k (allOf n) j l o hgood (allOf_lt n) hc hl ho
        omega
  · unfold gainAt at hg
    rw [hwo] at hg
    omega

theorem raised_all (n : Int) (bs : List (List Off)) (buyer more : Int) (vx cv pv : Value) (R R1 R2 : Nat → Prop) (w : World) (hl : Buys w R vx bs) (hi : instE n bs = 0)
    (hc : Sl w R1 cv bs.length 1 (ints (bestC n bs))) (hp : Sl w R2 pv bs.length 1 (ints (paysC n bs))) :
    Calls Try.prog 34 #[.agg #[.int .i64 n, vx], .agg #[cv, .int .i64 (W bs (allOf n)), pv], .int .i64 buyer, .int .i64 more] w fun e w' => e = .returned (.bool true) ∧ Below w.heap.size w w' := by
  have hlen := (instE_zero hi).2.2.1
  by_cases hno : buyer < 0 ∨ (bs.length : Int) ≤ buyer ∨ (∃ c, (bestC n bs)[buyer.toNat]? = some c ∧ c < 0) ∨ more < 1 ∨ 1000000 < more
  · exact raised_no n bs buyer more _ vx cv pv R R1 w hl hc (by omega) hno
  · obtain ⟨b, rfl⟩ := Int.eq_ofNat_of_zero_le (show 0 ≤ buyer by omega)
    rw [Int.toNat_natCast] at hno
    have hb : b < bs.length := by omega
    obtain ⟨c, hcb⟩ : ∃ c, (bestC n bs)[b]? = some c := ⟨_, List.getElem?_eq_getElem (by rw [show (bestC n bs).length = bs.length from choose_length _ _]; exact hb)⟩
    have hc0 : ¬ c < 0 := fun h => hno (.inr (.inr (.inl ⟨c, hcb, h⟩)))
    rcases choose_get _ _ _ _ hcb with h | ⟨j, l, o, rfl, hlb, ho⟩
    · omega
    · have h3 : 1 ≤ more := by
        rcases Int.lt_or_le more 1 with h | h
        · exact absurd (.inr (.inr (.inr (.inl h)))) hno
        · exact h
      have h4 : more ≤ 1000000 := by
        rcases Int.lt_or_le 1000000 more with h | h
        · exact absurd (.inr (.inr (.inr (.inr h)))) hno
        · exact h
      exact raised_yes n bs b more j l o vx cv pv R R1 R2 w hl hi hc hp hb hcb hlb ho h3 h4

set_option maxRecDepth 100000 in
set_option maxHeartbeats 6400000 in
theorem holds_walk (n : Int) (bs : List (List Off)) (v : Value) (R : Nat → Prop) (buyer more : Int) (w : World) (hl : Buys w R v bs) :
    Calls Try.prog 6 #[.agg #[.int .i64 n, v], .int .i64 buyer, .int .i64 more] w fun e w' => e = .returned (.bool true) ∧ Below w.heap.size w w' := by
  obtain ⟨_, ⟨_, A, cap, rfl, _⟩, _⟩ := id hl
  have HB := Lib.hid hl
  clear hl
  cases hg : greatB bs with
  | true =>
    have HG := Lib.hid hg
    clear hg
    go_enter Try.func6, Try.ntmps6
    go_wp2_with fail
    refine (great_any n bs _ R _ (HB.out.alloc _)).mono ?_
    rintro e w1 ⟨rfl, hb1⟩
    rw [HG.out]
    have HB1 := Lib.hid (((Below.refl _ _).alloc (Nat.le_refl _) _).trans (hb1.mono (B' := w.heap.size) (by simp)))
    clear hb1
    go_wp2_with fail
    refine (works_any _).mono ?_
    rintro e w2 ⟨rfl, hb2⟩
    have HB2 := Lib.hid (HB1.out.trans (hb2.mono HB1.out.size))
    clear hb2
    go_wp2_with fail
    go_ret
    exact ⟨rfl, HB2.out⟩
  | false =>
    have HG := Lib.hid hg
    clear hg
    by_cases hi : instE n bs = 0
    · have HI := Lib.hid hi
      have hlen := (instE_zero hi).2.2.1
      have HWF := Lib.hid (buys_wf HB.out)
      have hWn := W_nonneg bs (allOf n)
      have hWm : W bs (allOf n) ≤ 35184372088832 := by simpa using (okb_of HWF.out hi).1.W_le 0 (allOf n)
      obtain ⟨W0, hW0⟩ : ∃ W0, W0 = W bs (allOf n) := ⟨_, rfl⟩
      rw [← hW0] at hWn hWm
      have HW0 := Lib.hid hW0
      clear hi hW0
      go_enter Try.func6, Try.ntmps6
      go_wp2_with fail
      refine (great_any n bs _ R _ (HB.out.alloc _)).mono ?_
      rintro e w1 ⟨rfl, hb1⟩
      rw [HG.out]
      have hX := (Blk.new w 24 #[.int .i64 n, .slice A bs.length cap]).grow hb1
      have x0 : w1.cell? ⟨w.heap.size, 0, none⟩ = some (.int .i64 n) := hX.cell 0
      have x1 : w1.cell? ⟨w.heap.size, 1, none⟩ = some (.slice A bs.length cap) := hX.cell 1
      have HX1 := Lib.hid hX
      have HB1 := Lib.hid (((Below.refl _ _).alloc (Nat.le_refl _) _).trans (hb1.mono (B' := w.heap.size) (by simp)))
      clear hb1 hX
      go_wp2_with fail
      refine (refInstance_any n bs _ R _ (HB.out.grow HB1.out)).mono ?_
      rintro e w2 ⟨rfl, hb2⟩
      rw [HI.out]
      have hX := HX1.out.grow hb2
      have y0 : w2.cell? ⟨w.heap.size, 0, none⟩ = some (.int .i64 n) := hX.cell 0
      have y1 : w2.cell? ⟨w.heap.size, 1, none⟩ = some (.slice A bs.length cap) := hX.cell 1
      have HX2 := Lib.hid hX
      have HB2 := Lib.hid (HB1.out.trans (hb2.mono HB1.out.size))
      clear hb2 hX x0 x1
      go_wp2_with fail
      refine (costs_ok n bs _ R _ (HB.out.grow HB2.out) HI.out).mono ?_
      rintro e w3 ⟨CA, ca, PA, pa, rfl, hc3, hp3, hb3⟩
      rw [← HW0.out]
      have hX := (HX2.out.grow hb3).alloc (.cells #[.slice CA bs.length ca, .int .i64 W0, .slice PA bs.length pa] 36)
      have hP := Blk.new w3 36 #[.slice CA bs.length ca, .int .i64 W0, .slice PA bs.length pa]
      have hC := ((Sl.of_own hc3).alloc (.cells #[.slice CA bs.length ca, .int .i64 W0, .slice PA bs.length pa] 36)).any
      have hY := ((Sl.of_own hp3).alloc (.cells #[.slice CA bs.length ca, .int .i64 W0, .slice PA bs.length pa] 36)).any
      have hB := (HB2.out.trans (hb3.mono HB2.out.size)).alloc (HB2.out.trans (hb3.mono HB2.out.size)).size (.cells #[.slice CA bs.length ca, .int .i64 W0, .slice PA bs.length pa] 36)
      obtain ⟨u3, hu3⟩ : ∃ u, u = w3.alloc (.cells #[.slice CA bs.length ca, .int .i64 W0, .slice PA bs.length pa] 36) := ⟨_, rfl⟩
      rw [← hu3] at hX hP hC hY hB
      have x0 : u3.cell? ⟨w.heap.size, 0, none⟩ = some (.int .i64 n) := hX.cell 0
      have x1 : u3.cell? ⟨w.heap.size, 1, none⟩ = some (.slice A bs.length cap) := hX.cell 1
      have HX3 := Lib.hid hX
      have HP3 := Lib.hid hP
      have HC3 := Lib.hid hC
      have HY3 := Lib.hid hY
      have HB3 := Lib.hid hB
      rw [hu3] at x0 x1
      have HU3 := Lib.hid hu3
      clear hX hP hC hY hB hc3 hp3 hb3 y0 y1 hu3
      go_wp2_with fail
      rw [← HU3.out]
      refine (best_ok n bs _ R _ (HB.out.grow HB3.out) HI.out).mono ?_
      rintro e w4 ⟨DA, da, rfl, hd4, hb4⟩
      rw [← HW0.out]
      have hX := (HX3.out.grow hb4).alloc (.cells #[.slice DA bs.length da, .int .i64 W0] 66)
      have hP := (HP3.out.grow hb4).alloc (.cells #[.slice DA bs.length da, .int .i64 W0] 66)
      have hQ := Blk.new w4 66 #[.slice DA bs.length da, .int .i64 W0]
      have hC := (HC3.out.grow hb4).alloc (.cells #[.slice DA bs.length da, .int .i64 W0] 66)
      have hY := (HY3.out.grow hb4).alloc (.cells #[.slice DA bs.length da, .int .i64 W0] 66)
      have hD := ((Sl.of_own hd4).alloc (.cells #[.slice DA bs.length da, .int .i64 W0] 66)).any
      have hB := (HB3.out.trans (hb4.mono HB3.out.size)).alloc (HB3.out.trans (hb4.mono HB3.out.size)).size (.cells #[.slice DA bs.length da, .int .i64 W0] 66)
      obtain ⟨u4, hu4⟩ : ∃ u, u = w4.alloc (.cells #[.slice DA bs.length da, .int .i64 W0] 66) := ⟨_, rfl⟩
      rw [← hu4] at hX hP hQ hC hY hD hB
      have y0 : u4.cell? ⟨w.heap.size, 0, none⟩ = some (.int .i64 n) := hX.cell 0
      have y1 : u4.cell? ⟨w.heap.size, 1, none⟩ = some (.slice A bs.length cap) := hX.cell 1
      have HX4 := Lib.hid hX
      have HP4 := Lib.hid hP
      have HQ4 := Lib.hid hQ
      have HC4 := Lib.hid hC
      have HY4 := Lib.hid hY
      have HD4 := Lib.hid hD
      have HB4 := Lib.hid hB
      rw [hu4] at y0 y1
      have HU4 := Lib.hid hu4
      clear hX hP hQ hC hY hD hB hd4 hb4 x0 x1 hu4
      go_wp2_with fail
      rw [← HU4.out]
      refine (gains_ok n bs _ R _ (HB.out.grow HB4.out) HI.out).mono ?_
      rintro e w5 ⟨GA, ga, rfl, hg5, hb5⟩
      have hX := HX4.out.grow hb5
      have x0 : w5.cell? ⟨w.heap.size, 0, none⟩ = some (.int .i64 n) := hX.cell 0
      have x1 : w5.cell? ⟨w.heap.size, 1, none⟩ = some (.slice A bs.length cap) := hX.cell 1
      have HX5 := Lib.hid hX
      have HP5 := Lib.hid (HP4.out.grow hb5)
      have HQ5 := Lib.hid (HQ4.out.grow hb5)
      have HC5 := Lib.hid (HC4.out.grow hb5)
      have HY5 := Lib.hid (HY4.out.grow hb5)
      have HD5 := Lib.hid (HD4.out.grow hb5)
      have HG5 := Lib.hid (Sl.of_own hg5).any
      have HB5 := Lib.hid (HB4.out.trans (hb5.mono HB4.out.size))
      clear hX hg5 hb5 y0 y1
      go_wp2_with fail
      refine (pivotal_ok n bs _ R _ (HB.out.grow HB5.out) HI.out).mono ?_
      rintro e w6 ⟨LA, la, rfl, hl6, hb6⟩
      obtain ⟨pn, hpn⟩ : ∃ pn, pn = (pivotC n bs).length := ⟨_, rfl⟩
      have hpnl : pn ≤ bs.length := by rw [hpn]; exact pivotTo_len n bs bs.length
      rw [← hpn] at hl6 ⊢
      have HPN := Lib.hid hpn
      have hX := HX5.out.grow hb6
      have hP := HP5.out.grow hb6
      have hQ := HQ5.out.grow hb6
      have x1' : w6.cell? ⟨w.heap.size, 1, none⟩ = some (.slice A bs.length cap) := hX.cell 1
      have p0 : w6.cell? ⟨w3.heap.size, 0, none⟩ = some (.slice CA bs.length ca) := hP.cell 0
      have p1 : w6.cell? ⟨w3.heap.size, 1, none⟩ = some (.int .i64 W0) := hP.cell 1
      have p2 : w6.cell? ⟨w3.heap.size, 2, none⟩ = some (.slice PA bs.length pa) := hP.cell 2
      have q1 : w6.cell? ⟨w4.heap.size, 1, none⟩ = some (.int .i64 W0) := hQ.cell 1
      have HX6 := Lib.hid hX
      have HP6 := Lib.hid hP
      have HQ6 := Lib.hid hQ
      have HC6 := Lib.hid (HC5.out.grow hb6)
      have HY6 := Lib.hid (HY5.out.grow hb6)
      have HD6 := Lib.hid (HD5.out.grow hb6)
      have HG6 := Lib.hid (HG5.out.grow hb6)
      have HL6 := Lib.hid (Sl.of_own hl6).any
      have HB6 := Lib.hid (HB5.out.trans (hb6.mono HB5.out.size))
      clear hX hP hQ hl6 hb6 x0 x1 hpn
      go_wp2_with (go_at_call 18; refine (num_any 0 (by decide) (by decide) _).mono ?_; rintro e w9 ⟨rfl, rfl⟩)
      go_loopw [15, 16] (fun a i wr => ∃ k : Nat, k ≤ bs.length ∧ i = .int .i64 k ∧ a = .int .i64 ((pivotTo n bs k).length : Nat) ∧ Below w6.heap.size w6 wr) (fun _ i _ => bs.length - (intOf i).toNat)
      case atStart => exact ⟨0, Nat.zero_le _, rfl, rfl, Below.refl _ _⟩
      case round =>
        clear x1' p0 p1 p2 q1
        obtain ⟨k, hk, rfl, rfl, hb⟩ := hrel
        have HWB0 := Lib.hid hb
        have hX := HX6.out.grow hb
        have x0 : wr.cell? ⟨w.heap.size, 0, none⟩ = some (.int .i64 n) := hX.cell 0
        have x1 : wr.cell? ⟨w.heap.size, 1, none⟩ = some (.slice A bs.length cap) := hX.cell 1
        have HXr := Lib.hid hX
        have hbw := HB6.out.trans (hb.mono (B' := w.heap.size) HB6.out.size)
        have HBr := Lib.hid hbw
        have hatl := pivotTo_len n bs k
        obtain ⟨at_, hat⟩ : ∃ at_, at_ = (pivotTo n bs k).length := ⟨_, rfl⟩
        rw [← hat] at hatl ⊢
        have HAT := Lib.hid hat
        clear hb hX hbw hat
        by_cases hlt : k < bs.length
        · have hwz := instE_withE HI.out hlt
          have hin := instE_nil (i := k) HI.out
          have HWZ := Lib.hid hwz
          have HIN := Lib.hid hin
          have hbest : bestW n (bs.set k []) = W (bs.set k []) (allOf n) := by unfold bestW; rw [if_pos hin]
          obtain ⟨Wk, hWk⟩ : ∃ Wk, Wk = W (bs.set k []) (allOf n) := ⟨_, rfl⟩
          rw [← hWk] at hbest
          have hk0 : 0 ≤ Wk := by rw [hWk]; exact W_nonneg _ _
          have hk1 : Wk ≤ W0 := by rw [hWk, HW0.out]; exact W_set_le _ _ _
          have hgain : gainAt n bs k = W0 - Wk := by
            unfold gainAt woW
            rw [if_pos hwz, Int.toNat_natCast, ← hWk, ← HW0.out]
          have HBEST := Lib.hid hbest
          have HGAIN := Lib.hid hgain
          clear hwz hin hbest hWk hgain
          go_wp2_with fail
          refine (without_ok n bs (k : Int) _ R _ (HB.out.grow HBr.out) HWZ.out).mono ?_
          rintro e w7 ⟨YA, ya, rfl, hob, hb7⟩
          rw [Int.toNat_natCast] at hob
          have HOB := Lib.hid hob
          have HWB7 := Lib.hid (HWB0.out.trans (hb7.mono (B' := w6.heap.size) HWB0.out.size))
          clear hob hb7 x0 x1
          go_wp2_with fail
          refine (W_any n (bs.set k []) _ _ _ (HOB.out.buys.alloc _)).mono ?_
          rintro e w8 ⟨rfl, hb8⟩
          rw [HBEST.out, HIN.out]
          have hwb := (HWB7.out.alloc HWB7.out.size (.cells #[.int .i64 n, .slice YA bs.length ya] 24)).trans (hb8.mono (B' := w6.heap.size) (by have := HWB7.out.size; simp; omega))
          have hX := HX6.out.grow hwb
          have hP := HP6.out.grow hwb
          have hQ := HQ6.out.grow hwb
          have x1 : w8.cell? ⟨w.heap.size, 1, none⟩ = some (.slice A bs.length cap) := hX.cell 1
          obtain ⟨b1, o1, c, rfl, _, hcc, hc1⟩ := (HC6.out.grow hwb).int_at hlt
          obtain ⟨b2, o2, y, rfl, _, hyy, hc2⟩ := (HY6.out.grow hwb).int_at hlt
          obtain ⟨b3, o3, d, rfl, _, hdd, hc3⟩ := (HD6.out.grow hwb).int_at hlt
          obtain ⟨b4, o4, g, rfl, _, hgg, hc4⟩ := (HG6.out.grow hwb).int_at hlt
          have p0 : w8.cell? ⟨w3.heap.size, 0, none⟩ = some (.slice (some ⟨b1, o1, none⟩) bs.length ca) := hP.cell 0
          have p1 : w8.cell? ⟨w3.heap.size, 1, none⟩ = some (.int .i64 W0) := hP.cell 1
          have p2 : w8.cell? ⟨w3.heap.size, 2, none⟩ = some (.slice (some ⟨b2, o2, none⟩) bs.length pa) := hP.cell 2
          have q0 : w8.cell? ⟨w4.heap.size, 0, none⟩ = some (.slice (some ⟨b3, o3, none⟩) bs.length da) := hQ.cell 0
          have hdc : d = c := by rw [hcc] at hdd; exact (Option.some.inj hdd).symm
          subst hdc
          have hyv : y = payAt n bs k d := by rw [paysC_get hcc] at hyy; exact (Option.some.inj hyy).symm
          have hgv : g = W0 - Wk := by
            have : (gainsC n bs)[k]? = some (gainAt n bs k) := by simp [gainsC, hlt]
            rw [this] at hgg
            rw [← HGAIN.out]
            exact (Option.some.inj hgg).symm
          subst hgv
          obtain ⟨hh1, hh2, hh3⟩ := holds_plain HWF.out HI.out hlt hcc
          rw [← hyv] at hh1 hh2 hh3
          rw [HGAIN.out] at hh3
          obtain ⟨won, hwon⟩ : ∃ won, won = coinAt bs k d := ⟨_, rfl⟩
          rw [← hwon] at hh2 hh3
          have hwon0 := coinAt_bd HWF.out HI.out k d
          rw [← hwon] at hwon0
          obtain ⟨hwon1, hwon2⟩ := hwon0
          have hwr1 : IntKind.i64.wrap (W0 - Wk) = W0 - Wk := IntWalk.i64_in _ (by omega)
          have hwr2 : IntKind.i64.wrap (won - y) = won - y := IntWalk.i64_in _ (by omega)
          have hgne : ((W0 - Wk) != (won - y)) = false := by rw [hh3]; simp
          have hy0 : decide (y < 0) = false := by simp; omega
          have hyw : decide (won < y) = false := by simp; omega
          have e1 : (0 : Int) ≤ (k : Int) := by omega
          have e2 : (k : Int) < (bs.length : Int) := by omega
          have HWB := Lib.hid hwb
          have HWON := Lib.hid hwon
          have HCC := Lib.hid hcc
          have hgp : (0 < gainAt n bs k) ↔ Wk < W0 := by rw [HGAIN.out]; omega
          have HGPI := Lib.hid hgp
          have hxb : ∃ bq off, A = some ⟨bq, off, none⟩ := by
            obtain ⟨_, ⟨_, A9, c9, hv9, _, _, hc9⟩, _⟩ := HB.out
            injection hv9 with hA9 _ _
            subst hA9
            obtain ⟨b9, o9, hA, _⟩ := hc9 (by omega)
            exact ⟨b9, o9, hA⟩
          -- the offer that is won, where there is one
          have hoff : 0 ≤ d → ∃ (j : Nat) (l : List Off) (o : Off) (A1 : Option Addr) (bq off cap1 : Nat) (b5 o5 : Nat), d = (j : Int) ∧ o.c = won ∧ j < l.length ∧ A = some ⟨bq, off, none⟩ ∧ A1 = some ⟨b5, o5, none⟩ ∧ w8.cell? ⟨bq, off + k, none⟩ = some (.slice A1 l.length cap1) ∧ w8.cell? ⟨b5, o5 + j * 2 + 1, none⟩ = some (.int .i64 o.c) := by
            intro hd0
            rcases choose_get _ _ _ _ HCC.out with h | ⟨j, l, o, hj, hl, ho⟩
            · omega
            · have hbu := HB.out.grow (HB6.out.trans (HWB.out.mono (B' := w.heap.size) HB6.out.size))
              obtain ⟨us, ⟨_, A9, c9, hv9, _, _, hc9⟩, hus⟩ := hbu
              injection hv9 with hA9 _ _
              subst hA9
              obtain ⟨b9, o9, hA, _, _, hcs9⟩ := hc9 (by omega)
              obtain ⟨u, hu, hol⟩ := hus k l hl
              obtain ⟨⟨_, A1, cap1, rfl, _⟩, _⟩ := id hol
              obtain ⟨b5, o5, hA1, _, _, hcl⟩ := hol.at_ ho
              exact ⟨j, l, o, A1, b9, o9, cap1, b5, o5, hj, by rw [HWON.out, hj, coinAt_some hl ho], (List.getElem?_eq_some_iff.1 ho).1, hA, hA1, hcs9 _ _ hu, hcl⟩
          have HOFF := Lib.hid hoff
          have hneg : ¬ 0 ≤ d → won = 0 := fun h => by rw [hwon]; unfold coinAt; rw [if_pos (by omega)]
          clear hX hP hQ hwb hyy hdd hgg hyv hwon hcc hgp hoff hh3 hb8
          have HWBQ := Lib.hid (fun q => below_drewN HWB.out q : ∀ q, Below w6.heap.size w6 (w8.drewN q))
          by_cases hd0 : 0 ≤ d
          · obtain ⟨j, l, o, A1, bq, off, cap1, b5, o5, rfl, hoc, hjl, rfl, rfl, hcb, hcl⟩ := HOFF.out hd0
            rw [hoc] at hcl
            have e3 : (0 : Int) ≤ (j : Int) := by omega
            have e4 : (j : Int) < (l.length : Int) := by omega
            clear hoc hneg hxb
            by_cases hgp : Wk < W0
            · have HGP := Lib.hid (HGPI.out.2 hgp)
              have hpat := pivot_at hlt HGP.out
              rw [← HAT.out] at hpat
              have hapn : at_ < pn := by rw [HPN.out]; exact (List.getElem?_eq_some_iff.1 hpat).1
              obtain ⟨b6, o6, z, rfl, _, hzz, hc6⟩ := (HL6.out.grow HWB.out).int_at hapn
              rw [hpat] at hzz
              have hzz' := (Option.some.inj hzz).symm
              subst hzz'
              have hgd : decide (Wk < W0) = true := by simpa using hgp
              have e5 : (0 : Int) ≤ (at_ : Int) := by omega
              have e6 : (at_ : Int) < (pn : Int) := by omega
              clear hpat hzz hgp
              go_wp2_with fail
              go_quiet ((go_at_call 18; exact quiet_left (num_any 0 (by decide) (by decide) _)))
              go_wp2_with fail
              go_quiet (fail)
              go_wp2_with fail
              go_quiet (fail)
              go_wp2_with fail
              go_roundw
              case rel => exact ⟨k + 1, by omega, by go_num, by rw [pivotTo_yes HGP.out, List.length_append, ← HAT.out]; go_num, HWBQ.out _⟩
              case measure => simp [intOf]; omega
            · have HGP := Lib.hid (fun h => hgp (HGPI.out.1 h) : ¬ 0 < gainAt n bs k)
              have hgd : decide (Wk < W0) = false := by simpa using hgp
              clear hgp
              by_cases hapn : at_ < pn
              · obtain ⟨b6, o6, z, rfl, _, hzz, hc6⟩ := (HL6.out.grow HWB.out).int_at hapn
                have hzk : z ≠ (k : Int) := pivot_not hlt HGP.out (by rw [← HAT.out]; exact hzz)
                have hzb : (z == (k : Int)) = false := by simpa using hzk
                have e5 : (0 : Int) ≤ (at_ : Int) := by omega
                have e6 : (at_ : Int) < (pn : Int) := by omega
                clear hzz hzk
                go_wp2_with fail
                go_quiet ((go_at_call 18; exact quiet_left (num_any 0 (by decide) (by decide) _)))
                go_wp2_with fail
                go_quiet (fail)
                go_wp2_with fail
                go_quiet (fail)
                go_wp2_with fail
                go_roundw
                case rel => exact ⟨k + 1, by omega, by go_num, by rw [pivotTo_no HGP.out, ← HAT.out], HWBQ.out _⟩
                case measure => simp [intOf]; omega
              · have hapd : decide ((at_ : Int) < (pn : Int)) = false := by simp; omega
                have hapn' : decide (at_ < pn) = false := by simpa using hapn
                go_wp2_with fail
                go_quiet ((go_at_call 18; exact quiet_left (num_any 0 (by decide) (by decide) _)))
                go_wp2_with fail
                go_quiet (fail)
                go_wp2_with fail
                go_quiet (fail)
                go_wp2_with fail
                go_roundw
                case rel => exact ⟨k + 1, by omega, by go_num, by rw [pivotTo_no HGP.out, ← HAT.out], HWBQ.out _⟩
                case measure => simp [intOf]; omega
          · have hw0 := hneg hd0
            subst hw0
            have hdd : decide (0 ≤ d) = false := by simpa using hd0
            clear hneg hd0 hxb
            by_cases hgp : Wk < W0
            · have HGP := Lib.hid (HGPI.out.2 hgp)
              have hpat := pivot_at hlt HGP.out
              rw [← HAT.out] at hpat
              have hapn : at_ < pn := by rw [HPN.out]; exact (List.getElem?_eq_some_iff.1 hpat).1
              obtain ⟨b6, o6, z, rfl, _, hzz, hc6⟩ := (HL6.out.grow HWB.out).int_at hapn
              rw [hpat] at hzz
              have hzz' := (Option.some.inj hzz).symm
              subst hzz'
              have hgd : decide (Wk < W0) = true := by simpa using hgp
              have e5 : (0 : Int) ≤ (at_ : Int) := by omega
              have e6 : (at_ : Int) < (pn : Int) := by omega
              clear hpat hzz hgp
              go_wp2_with fail
              go_quiet ((go_at_call 18; exact quiet_left (num_any 0 (by decide) (by decide) _)))
              go_wp2_with fail
              go_quiet (fail)
              go_wp2_with fail
              go_roundw
              case rel => exact ⟨k + 1, by omega, by go_num, by rw [pivotTo_yes HGP.out, List.length_append, ← HAT.out]; go_num, HWBQ.out _⟩
              case measure => simp [intOf]; omega
            · have HGP := Lib.hid (fun h => hgp (HGPI.out.1 h) : ¬ 0 < gainAt n bs k)
              have hgd : decide (Wk < W0) = false := by simpa using hgp
              clear hgp
              by_cases hapn : at_ < pn
              · obtain ⟨b6, o6, z, rfl, _, hzz, hc6⟩ := (HL6.out.grow HWB.out).int_at hapn
                have hzk : z ≠ (k : Int) := pivot_not hlt HGP.out (by rw [← HAT.out]; exact hzz)
                have hzb : (z == (k : Int)) = false := by simpa using hzk
                have e5 : (0 : Int) ≤ (at_ : Int) := by omega
                have e6 : (at_ : Int) < (pn : Int) := by omega
                clear hzz hzk
                go_wp2_with fail
                go_quiet ((go_at_call 18; exact quiet_left (num_any 0 (by decide) (by decide) _)))
                go_wp2_with fail
                go_quiet (fail)
                go_wp2_with fail
                go_roundw
                case rel => exact ⟨k + 1, by omega, by go_num, by rw [pivotTo_no HGP.out, ← HAT.out], HWBQ.out _⟩
                case measure => simp [intOf]; omega
              · have hapd : decide ((at_ : Int) < (pn : Int)) = false := by simp; omega
                have hapn' : decide (at_ < pn) = false := by simpa using hapn
                go_wp2_with fail
                go_quiet ((go_at_call 18; exact quiet_left (num_any 0 (by decide) (by decide) _)))
                go_wp2_with fail
                go_quiet (fail)
                go_wp2_with fail
                go_roundw
                case rel => exact ⟨k + 1, by omega, by go_num, by rw [pivotTo_no HGP.out, ← HAT.out], HWBQ.out _⟩
                case measure => simp [intOf]; omega
        · obtain rfl : k = bs.length := by omega
          have hatp : at_ = pn := by rw [HAT.out, HPN.out]; rfl
          subst hatp
          have hP := HP6.out.grow HWB0.out
          have p0 : wr.cell? ⟨w3.heap.size, 0, none⟩ = some (.slice CA bs.length ca) := hP.cell 0
          have p1 : wr.cell? ⟨w3.heap.size, 1, none⟩ = some (.int .i64 W0) := hP.cell 1
          have p2 : wr.cell? ⟨w3.heap.size, 2, none⟩ = some (.slice PA bs.length pa) := hP.cell 2
          have HPr := Lib.hid hP
          have HCr := Lib.hid (HC6.out.grow HWB0.out)
          have HYr := Lib.hid (HY6.out.grow HWB0.out)
          have hraise := raised_all n bs buyer more _ _ _ R _ _ wr (HB.out.grow HBr.out) HI.out HCr.out HYr.out
          rw [← HW0.out] at hraise
          have HRAISE := Lib.hid hraise
          clear hP hraise
          go_wp2_with (first
            | (go_at_call 34; refine HRAISE.out.mono ?_; rintro e w9 ⟨rfl, hb9⟩; have hX := HXr.out.grow hb9; have hP := HPr.out.grow hb9; obtain ⟨x0, x1, p0, p1, p2⟩ : w9.cell? ⟨w.heap.size, 0, none⟩ = some (.int .i64 n) ∧ w9.cell? ⟨w.heap.size, 1, none⟩ = some (.slice A bs.length cap) ∧ w9.cell? ⟨w3.heap.size, 0, none⟩ = some (.slice CA bs.length ca) ∧ w9.cell? ⟨w3.heap.size, 1, none⟩ = some (.int .i64 W0) ∧ w9.cell? ⟨w3.heap.size, 2, none⟩ = some (.slice PA bs.length pa) := ⟨hX.cell 0, hX.cell 1, hP.cell 0, hP.cell 1, hP.cell 2⟩; have H9 := Lib.hid hb9; clear hb9 hX hP)
            | (go_at_call 35; refine (single_any n bs W0 _ _ _ R _ _ _ ((HB.out.grow HBr.out).grow H9.out) HI.out (HCr.out.grow H9.out) (HYr.out.grow H9.out)).mono ?_; rintro e w10 ⟨rfl, hb10⟩; have H10 := Lib.hid (H9.out.trans (hb10.mono H9.out.size)); clear hb10 x0 x1 p0 p1 p2)
            | (go_at_call 14; refine (works_any _).mono ?_; rintro e w11 ⟨rfl, hb11⟩; have H11 := Lib.hid (H10.out.trans (hb11.mono H10.out.size)); clear hb11))
          go_ret
          exact ⟨rfl, HBr.out.trans (H11.out.mono HBr.out.size)⟩
    · have hie : (instE n bs != 0) = true := by simpa using hi
      have HIE := Lib.hid hi
      clear hi
      go_enter Try.func6, Try.ntmps6
      go_wp2_with fail
      refine (great_any n bs _ R _ (HB.out.alloc _)).mono ?_
      rintro e w1 ⟨rfl, hb1⟩
      rw [HG.out]
      have hX := (Blk.new w 24 #[.int .i64 n, .slice A bs.length cap]).grow hb1
      have x0 : w1.cell? ⟨w.heap.size, 0, none⟩ = some (.int .i64 n) := hX.cell 0
      have x1 : w1.cell? ⟨w.heap.size, 1, none⟩ = some (.slice A bs.length cap) := hX.cell 1
      have HB1 := Lib.hid (((Below.refl _ _).alloc (Nat.le_refl _) _).trans (hb1.mono (B' := w.heap.size) (by simp)))
      clear hb1 hX
      go_wp2_with fail
      refine (refInstance_any n bs _ R _ (HB.out.grow HB1.out)).mono ?_
      rintro e w2 ⟨rfl, hb2⟩
      have HB2 := Lib.hid (HB1.out.trans (hb2.mono HB1.out.size))
      clear hb2 x0 x1
      go_wp2_with fail
      refine (works_any _).mono ?_
      rintro e w3 ⟨rfl, hb3⟩
      have HB3 := Lib.hid (HB2.out.trans (hb3.mono HB2.out.size))
      clear hb3
      go_wp2_with fail
      go_ret
      exact ⟨rfl, HB3.out⟩
end Go.Proofs.Ytcigobiolbojhaa.Vb

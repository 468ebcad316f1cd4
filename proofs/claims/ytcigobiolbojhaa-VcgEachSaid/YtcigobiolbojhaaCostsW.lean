/- Law 17: VcgCosts, walked. -/
import Derived.Test.YtcigobiolbojhaaAsks
namespace Go.Proofs.Ytcigobiolbojhaa.Vb
open Go.RowKit

theorem coinAt_bd {n : Int} {bs : List (List Off)} (hw : ∀ l ∈ bs, ∀ o ∈ l, o.wf) (h : instE n bs = 0) (i : Nat) (c : Int) : 0 ≤ coinAt bs i c ∧ coinAt bs i c ≤ 1099511627776 := by
  have hok := (okb_of hw h).1
  unfold coinAt
  split
  · omega
  · cases hb : bs[i]? with
    | none => simp
    | some l =>
      cases hl : l[c.toNat]? with
      | none => simp [hl]
      | some o =>
        have := hok.offer hb hl
        simp only [Option.getD_some, hl, Option.map_some]
        exact ⟨by have := this.2.2.1; omega, this.2.2.2⟩
theorem paysL_bd {n : Int} {bs : List (List Off)} (hw : ∀ l ∈ bs, ∀ o ∈ l, o.wf) : ∀ x ∈ paysL n bs, -9007199254740992 ≤ x ∧ x ≤ 9007199254740992 := by
  intro x hx
  unfold paysL at hx
  split at hx
  · rename_i hi
    simp only [paysC, List.mem_mapIdx] at hx
    obtain ⟨i, hlt, rfl⟩ := hx
    unfold payAt
    split
    · omega
    · obtain ⟨h0, h1⟩ := coinAt_bd hw hi i ((bestC n bs)[i])
      obtain ⟨h2, h3⟩ := woW_bd hw hi i
      have h4 := W_nonneg bs (allOf n)
      have h5 : W bs (allOf n) ≤ 35184372088832 := by simpa using (okb_of hw hi).1.W_le 0 (allOf n)
      omega
  · cases hx
theorem paysL_len (n : Int) (bs : List (List Off)) : (paysL n bs).length = (choiceL n bs).length := by
  unfold paysL choiceL
  split
  · rw [paysC_length, bestC_len]
  · rfl
theorem choiceL_len (n : Int) (bs : List (List Off)) : (choiceL n bs).length ≤ bs.length := by
  unfold choiceL
  split
  · rw [bestC_len]; exact Nat.le_refl _
  · simp

/-- only blocks from a up to b have turned -/
def Mid (a b : Nat) (w w' : World) : Prop := Below a w w' ∧ ∀ i, b ≤ i → i < w.heap.size → w'.heap[i]? = w.heap[i]?
theorem Mid.refl (a b : Nat) (w : World) : Mid a b w w := ⟨Below.refl _ _, fun _ _ _ => rfl⟩
theorem Mid.set {a b : Nat} {w w' : World} (h : Mid a b w w') {p : Addr} (h1 : a ≤ p.block) (h2 : p.block < b) (u : Value) : Mid a b w (w'.setCell p u) :=
  ⟨h.1.setCell h1 u, fun i hi hl => (Below.heap_setCell w' p u i (by omega)).trans (h.2 i hi hl)⟩
theorem Mid.sl {a b : Nat} {w w' : World} {R : Nat → Prop} {v : Value} {n sz : Nat} {xs : List Value} (h : Mid a b w w') (hs : Sl w R v n sz xs) (hR : ∀ i, i < w.heap.size → R i → b ≤ i) : Sl w' R v n sz xs :=
  hs.keep h.1.size fun i hi hr => h.2 i (hR i hi hr) hi
theorem Mid.blk {a b : Nat} {w w' : World} {g : Nat} {t : TypeId} {cs : Array Value} (h : Mid a b w w') (hs : Blk w g t cs) (hg : b ≤ g) : Blk w' g t cs := (h.2 g hg hs.lt).trans hs
/-- a row from a base on -/
theorem Sl.own_from {w : World} {base : Nat} {e : TypeId} {sz n : Nat} {v : Value} {xs : List Value} (h : w.ownsRow base e sz v n xs) : Sl w (fun b => base ≤ b) v n sz xs :=
  (Sl.of_own h).mono fun b _ hb => (h.lt b hb).1

set_option maxRecDepth 100000 in
set_option maxHeartbeats 3200000 in
theorem costs_walk (n : Int) (bs : List (List Off)) (v : Value) (R : Nat → Prop) (w : World) (hl : Buys w R v bs) :
    Calls Try.prog 4 #[.agg #[.int .i64 n, v]] w fun e w' => e = .returned (.bool true) ∧ Below w.heap.size w w' := by
  obtain ⟨_, ⟨_, A, cap, rfl, _⟩, _⟩ := id hl
  have HB := Lib.hid hl
  have HWF := Lib.hid (buys_wf hl)
  clear hl
  cases hg : greatB bs with
  | true =>
    have HG := Lib.hid hg
    clear hg
    go_enter Try.func4, Try.ntmps4
    go_wp2_with fail
    refine (great_any n bs _ R _ (HB.out.alloc _)).mono ?_
    rintro e w1 ⟨rfl, hb1⟩
    rw [HG.out]
    have HB1 := Lib.hid (((Below.refl _ _).alloc (Nat.le_refl _) _).trans (hb1.mono (B' := w.heap.size) (by simp)))
    clear hb1
    go_wp2_with fail
    refine (works_any _).mono ?_
    rintro e w2 ⟨rfl, hb2⟩
    have HB2 := Lib.hid (HB1.out.trans (hb2.mono HB1.out.size))
    clear hb2
    go_wp2_with fail
    go_ret
    exact ⟨rfl, HB2.out⟩
  | false =>
    obtain ⟨hs1, hs2⟩ := greatB_small hg
    have HSM := Lib.hid (show Small bs from ⟨by omega, fun l hl => by have := hs2 l hl; omega⟩)
    have HG := Lib.hid hg
    obtain ⟨hi0, hi1⟩ := instE_bd n bs
    obtain ⟨ie, hie⟩ : ∃ ie, ie = instE n bs := ⟨_, rfl⟩
    rw [← hie] at hi0 hi1
    have HIE := Lib.hid hie
    have hcl := Nat.le_trans (choiceL_len n bs) hs1
    obtain ⟨cl, hcle⟩ : ∃ cl, cl = choiceL n bs := ⟨_, rfl⟩
    obtain ⟨pl, hple⟩ : ∃ pl, pl = paysL n bs := ⟨_, rfl⟩
    obtain ⟨m, hm⟩ : ∃ m, m = cl.length := ⟨_, rfl⟩
    obtain ⟨W0, hW0⟩ : ∃ W0, W0 = worthL n bs := ⟨_, rfl⟩
    rw [← hcle, ← hm] at hcl
    have hpl := paysL_len n bs
    rw [← hcle, ← hple, ← hm] at hpl
    have hpb := paysL_bd (n := n) HWF.out
    rw [← hple] at hpb
    have HPB := Lib.hid hpb
    have HPL := Lib.hid hpl
    have HM := Lib.hid hm
    have HCE := Lib.hid hcle
    have HPE := Lib.hid hple
    have HWE := Lib.hid hW0
    clear hg hie hcle hple hW0 hs2 hpl hm hpb
    have hcost : ∀ (vb : Value) (R' : Nat → Prop) (w' : World), Buys w' R' vb bs → ∀ f, f = 21 ∨ f = 17 → Calls Try.prog f #[.agg #[.int .i64 n, vb]] w' fun e w2 => ∃ A1 c1 A2 c2, e = .returned (.tuple #[.agg #[.slice A1 m c1, .int .i64 W0, .slice A2 m c2], .int .i64 ie]) ∧
        w2.ownsRow w'.heap.size 3 1 (.slice A1 m c1) m (ints cl) ∧ w2.ownsRow w'.heap.size 2 1 (.slice A2 m c2) m (ints pl) ∧ Below w'.heap.size w' w2 := by
      intro vb R' w' hbu f hf
      rw [HIE.out, HWE.out, HM.out, HPE.out, HCE.out]
      rcases hf with rfl | rfl
      · exact costs_all n bs vb R' w' hbu
      · exact refCosts_all n bs vb R' w' hbu
    have HCOST := Lib.hid hcost
    clear hcost
    go_enter Try.func4, Try.ntmps4
    go_wp2_with fail
    refine (great_any n bs _ R _ (HB.out.alloc _)).mono ?_
    rintro e w1 ⟨rfl, hb1⟩
    rw [HG.out]
    have hX := (Blk.new w 24 #[.int .i64 n, .slice A bs.length cap]).grow hb1
    have x0 : w1.cell? ⟨w.heap.size, 0, none⟩ = some (.int .i64 n) := hX.cell 0
    have x1 : w1.cell? ⟨w.heap.size, 1, none⟩ = some (.slice A bs.length cap) := hX.cell 1
    have HX := Lib.hid hX
    have HB1 := Lib.hid (((Below.refl _ _).alloc (Nat.le_refl _) _).trans (hb1.mono (B' := w.heap.size) (by simp)))
    clear hb1 hX
    go_wp2_with fail
    refine (given_any n bs _ R w1 (HB.out.grow HB1.out) HSM.out).mono ?_
    rintro e w2 ⟨A2, k2, rfl, hgv, hb2⟩
    have HX2 := Lib.hid (HX.out.grow hb2)
    have HV2 := Lib.hid hgv
    have HB2 := Lib.hid (HB1.out.trans (hb2.mono HB1.out.size))
    clear hb2 hgv x0 x1
    go_wp2_with fail
    -- the instance's copy lies; all up to here stands below u3
    obtain ⟨u3, hu3⟩ : ∃ u, u = w2.alloc (.cells #[.int .i64 n, .slice A2 bs.length k2] 24) := ⟨_, rfl⟩
    have hX := HX2.out.alloc (.cells #[.int .i64 n, .slice A2 bs.length k2] 24)
    have hY := Blk.new w2 24 #[.int .i64 n, .slice A2 bs.length k2]
    have hV := HV2.out.grow ((Below.refl _ _).alloc (Nat.le_refl _) (.cells #[.int .i64 n, .slice A2 bs.length k2] 24))
    have hB := HB2.out.alloc HB2.out.size (.cells #[.int .i64 n, .slice A2 bs.length k2] 24)
    rw [← hu3] at hX hY hV hB ⊢
    have HX3 := Lib.hid hX
    have HY3 := Lib.hid hY
    have HV3 := Lib.hid hV
    have HB3 := Lib.hid hB
    clear hu3 hX hY hV hB
    refine (HCOST.out _ _ _ HV3.out.buys _ (.inl rfl)).mono ?_
    rintro e w3 ⟨CA, ca, PA, pa, rfl, hc3, hp3, hb3⟩
    have hU : Below u3.heap.size u3 (w3.alloc (.cells #[.slice CA m ca, .int .i64 W0, .slice PA m pa] 36)) := hb3.alloc hb3.size _
    have hY := HY3.out.grow hU
    have y0 : (w3.alloc (.cells #[.slice CA m ca, .int .i64 W0, .slice PA m pa] 36)).cell? ⟨w2.heap.size, 0, none⟩ = some (.int .i64 n) := hY.cell 0
    have y1 : (w3.alloc (.cells #[.slice CA m ca, .int .i64 W0, .slice PA m pa] 36)).cell? ⟨w2.heap.size, 1, none⟩ = some (.slice A2 bs.length k2) := hY.cell 1
    have HU3 := Lib.hid hb3
    have HCA3 := Lib.hid hc3
    have HPA3 := Lib.hid hp3
    have hlt3 := hb3.size
    clear hU hY hb3 hc3 hp3
    go_wp2_with fail
    obtain ⟨u4, hu4⟩ : ∃ u, u = w3.alloc (.cells #[.slice CA m ca, .int .i64 W0, .slice PA m pa] 36) := ⟨_, rfl⟩
    have hPa := Blk.new w3 36 #[.slice CA m ca, .int .i64 W0, .slice PA m pa]
    have hU4 := HU3.out.alloc HU3.out.size (.cells #[.slice CA m ca, .int .i64 W0, .slice PA m pa] 36)
    have h34 : Below w3.heap.size w3 (w3.alloc (.cells #[.slice CA m ca, .int .i64 W0, .slice PA m pa] 36)) := (Below.refl _ _).alloc (Nat.le_refl _) _
    have hs4 : w3.heap.size + 1 ≤ u4.heap.size := by rw [hu4]; simp
    rw [← hu4] at hPa hU4 h34 ⊢
    have HPa4 := Lib.hid hPa
    have HU4 := Lib.hid hU4
    have HCA4 := Lib.hid (own_grow HCA3.out h34)
    have HPA4 := Lib.hid (own_grow HPA3.out h34)
    clear hu4 hPa hU4 h34 y0 y1
    refine (HCOST.out _ _ _ (HV3.out.grow HU4.out).buys _ (.inl rfl)).mono ?_
    rintro e w5 ⟨CB, cb, PB, pb, rfl, hc5, hp5, hb5⟩
    have hX := HX3.out.grow (HU4.out.trans (hb5.mono (B' := u3.heap.size) HU4.out.size))
    have x0 : (w5.alloc (.cells #[.slice CB m cb, .int .i64 W0, .slice PB m pb] 36)).cell? ⟨w.heap.size, 0, none⟩ = some (.int .i64 n) := (hX.alloc _).cell 0
    have x1 : (w5.alloc (.cells #[.slice CB m cb, .int .i64 W0, .slice PB m pb] 36)).cell? ⟨w.heap.size, 1, none⟩ = some (.slice A bs.length cap) := (hX.alloc _).cell 1
    have HU5 := Lib.hid (HU4.out.trans (hb5.mono (B' := u3.heap.size) HU4.out.size))
    have H45 := Lib.hid hb5
    have HCB5 := Lib.hid hc5
    have HPB5 := Lib.hid hp5
    clear hX hb5 hc5 hp5
    go_wp2_with fail
    obtain ⟨u6, hu6⟩ : ∃ u, u = w5.alloc (.cells #[.slice CB m cb, .int .i64 W0, .slice PB m pb] 36) := ⟨_, rfl⟩
    have hPb := Blk.new w5 36 #[.slice CB m cb, .int .i64 W0, .slice PB m pb]
    have h46 := H45.out.alloc H45.out.size (.cells #[.slice CB m cb, .int .i64 W0, .slice PB m pb] 36)
    have h56 : Below w5.heap.size w5 (w5.alloc (.cells #[.slice CB m cb, .int .i64 W0, .slice PB m pb] 36)) := (Below.refl _ _).alloc (Nat.le_refl _) _
    have hs6 := H45.out.size
    rw [← hu6] at hPb h46 h56 ⊢
    have HPb6 := Lib.hid hPb
    have H46 := Lib.hid h46
    have HCB6 := Lib.hid (own_grow HCB5.out h56)
    have HPB6 := Lib.hid (own_grow HPB5.out h56)
    clear hu6 hPb h46 h56 x0 x1
    have HU6 := Lib.hid (HU4.out.trans (H46.out.mono (B' := u3.heap.size) HU4.out.size))
    refine (HCOST.out _ _ _ (HB.out.grow (HB3.out.trans (HU6.out.mono HB3.out.size))) _ (.inr rfl)).mono ?_
    rintro e w7 ⟨CW, cw, PW, pw, rfl, hc7, hp7, hb7⟩
    -- want lies: u8
    have h48 := (H46.out.trans (hb7.mono (B' := u4.heap.size) H46.out.size)).alloc (Nat.le_trans H46.out.size hb7.size) (.cells #[.slice CW m cw, .int .i64 W0, .slice PW m pw] 36)
    have h68 := hb7.alloc hb7.size (.cells #[.slice CW m cw, .int .i64 W0, .slice PW m pw] 36)
    have h78 : Below w7.heap.size w7 (w7.alloc (.cells #[.slice CW m cw, .int .i64 W0, .slice PW m pw] 36)) := (Below.refl _ _).alloc (Nat.le_refl _) _
    obtain ⟨u8, hu8⟩ : ∃ u, u = w7.alloc (.cells #[.slice CW m cw, .int .i64 W0, .slice PW m pw] 36) := ⟨_, rfl⟩
    have hPw := Blk.new w7 36 #[.slice CW m cw, .int .i64 W0, .slice PW m pw]
    have hs7 := Nat.le_trans H46.out.size hb7.size
    rw [← hu8] at h48 h68 h78 hPw
    have HPw8 := Lib.hid hPw
    have HPb8 := Lib.hid (HPb6.out.grow h68)
    have HPa8 := Lib.hid (HPa4.out.grow h48)
    have HCA8 := Lib.hid (own_grow HCA4.out h48)
    have HPA8 := Lib.hid (own_grow HPA4.out h48)
    have HCB8 := Lib.hid (own_mono (own_grow HCB6.out h68) (show w3.heap.size ≤ u4.heap.size by omega))
    have HPB8 := Lib.hid (own_mono (own_grow HPB6.out h68) (show w3.heap.size ≤ u4.heap.size by omega))
    have HCW8 := Lib.hid (own_mono (own_grow hc7 h78) (show w3.heap.size ≤ u6.heap.size by have := H46.out.size; omega))
    have HPW8 := Lib.hid (own_mono (own_grow hp7 h78) (show w3.heap.size ≤ u6.heap.size by have := H46.out.size; omega))
    have HU8 := Lib.hid (HU4.out.trans (h48.mono (B' := u3.heap.size) HU4.out.size))
    have hg7 : w3.heap.size + 1 ≤ w7.heap.size := by omega
    clear h48 h68 h78 hPw hc7 hp7 hb7 hs6
    go_wp2_with fail
    rw [← hu8]
    clear hu8
    have hX := HX3.out.grow HU8.out
    have hY := HY3.out.grow HU8.out
    have x0 : u8.cell? ⟨w.heap.size, 0, none⟩ = some (.int .i64 n) := hX.cell 0
    have x1 : u8.cell? ⟨w.heap.size, 1, none⟩ = some (.slice A bs.length cap) := hX.cell 1
    have y0 : u8.cell? ⟨w2.heap.size, 0, none⟩ = some (.int .i64 n) := hY.cell 0
    have y1 : u8.cell? ⟨w2.heap.size, 1, none⟩ = some (.slice A2 bs.length k2) := hY.cell 1
    have a0 : u8.cell? ⟨w3.heap.size, 0, none⟩ = some (.slice CA m ca) := HPa8.out.cell 0
    have a1 : u8.cell? ⟨w3.heap.size, 1, none⟩ = some (.int .i64 W0) := HPa8.out.cell 1
    have a2 : u8.cell? ⟨w3.heap.size, 2, none⟩ = some (.slice PA m pa) := HPa8.out.cell 2
    have t0 : u8.cell? ⟨w7.heap.size, 0, none⟩ = some (.slice CW m cw) := HPw8.out.cell 0
    have t1 : u8.cell? ⟨w7.heap.size, 1, none⟩ = some (.int .i64 W0) := HPw8.out.cell 1
    have t2 : u8.cell? ⟨w7.heap.size, 2, none⟩ = some (.slice PW m pw) := HPw8.out.cell 2
    have HX8 := Lib.hid hX
    have HY8 := Lib.hid hY
    clear hX hY
    have hsame : ∀ (w' : World) (CA PA CB PB : Option Addr) (ca pa cb pb : Nat) (R1 R2 R3 R4 : Nat → Prop), Sl w' R1 (.slice CA m ca) m 1 (ints cl) → Sl w' R2 (.slice CB m cb) m 1 (ints cl) → Sl w' R3 (.slice PA m pa) m 1 (ints pl) → Sl w' R4 (.slice PB m pb) m 1 (ints pl) →
        Calls Try.prog 22 #[.agg #[.slice CA m ca, .int .i64 W0, .slice PA m pa], .agg #[.slice CB m cb, .int .i64 W0, .slice PB m pb]] w' fun e w2 => e = .returned (.bool true) ∧ Below w'.heap.size w' w2 := by
      intro w' CA PA CB PB ca pa cb pb R1 R2 R3 R4 h1 h2 h3 h4
      have hm := HM.out
      have hp := HPL.out
      refine samePaid_true W0 cl pl _ _ _ _ R1 R2 R3 R4 w' ?_ ?_ ?_ ?_
      · rw [← hm]; exact h1
      · rw [← hm]; exact h2
      · rw [hp]; exact h3
      · rw [hp]; exact h4
    have HSAME := Lib.hid hsame
    clear hsame
    go_wp2_with (first
      | (go_at_call 18; refine (num_any _ (by omega) (by omega) _).mono ?_; rintro e w9 ⟨rfl, rfl⟩)
      | (go_at_call 22; refine (HSAME.out _ _ _ _ _ _ _ _ _ _ _ _ _ (Sl.of_own HCA8.out) (Sl.of_own HCW8.out) (Sl.of_own HPA8.out) (Sl.of_own HPW8.out)).mono ?_; rintro e w9 ⟨rfl, hb9⟩; have HB9 := Lib.hid hb9; have hX := HX8.out.grow hb9; have hY := HY8.out.grow hb9; obtain ⟨x0, x1, y0, y1⟩ : w9.cell? ⟨w.heap.size, 0, none⟩ = some (.int .i64 n) ∧ w9.cell? ⟨w.heap.size, 1, none⟩ = some (.slice A bs.length cap) ∧ w9.cell? ⟨w2.heap.size, 0, none⟩ = some (.int .i64 n) ∧ w9.cell? ⟨w2.heap.size, 1, none⟩ = some (.slice A2 bs.length k2) := ⟨hX.cell 0, hX.cell 1, hY.cell 0, hY.cell 1⟩; clear hb9 hX hY)
      | (go_at_call 19; refine (stays_any n bs _ _ _ R _ ((HV3.out.grow HU8.out).grow HB9.out) ((HB.out.grow (HB3.out.trans (HU8.out.mono HB3.out.size))).grow HB9.out) HSM.out).mono ?_; rintro e w10 ⟨rfl, hb10⟩; have H8 := Lib.hid (HB9.out.trans (hb10.mono HB9.out.size)); clear hb10 HB9 x0 x1 y0 y1 a0 a1 a2 t0 t1 t2))
    have hPw := HPw8.out.grow H8.out
    have t2 : w10.cell? ⟨w7.heap.size, 2, none⟩ = some (.slice PW m pw) := hPw.cell 2
    have HPw10 := Lib.hid hPw
    clear hPw
    have hslw := (Sl.of_own HPW8.out).grow H8.out
    have HSLW := Lib.hid hslw
    clear hslw
    go_loop [10, 11] (fun s i => ∃ k : Nat, k ≤ m ∧ i = .int .i64 k ∧ s = .int .i64 (sumI (pl.take k))) (fun _ i => m - (intOf i).toNat)
    case atStart => exact ⟨0, Nat.zero_le _, rfl, rfl⟩
    case round =>
      obtain ⟨k, hk, rfl, rfl⟩ := hrel
      by_cases hlt : k < m
      · obtain ⟨bw, ow, xw, rfl, hbw, hxw, hcw⟩ := HSLW.out.int_at hlt
        have hst := sumI_take hxw
        have h1 := sumI_bd (pl.take k) (fun x hx => HPB.out x (List.mem_of_mem_take hx))
        have h2 := HPB.out xw (List.mem_of_getElem? hxw)
        have hkl : ((pl.take k).length : Int) ≤ k := by simp; omega
        have h3 : ((pl.take k).length : Int) * 9007199254740992 ≤ 40 * 9007199254740992 := Int.mul_le_mul_of_nonneg_right (by omega) (by omega)
        have hsum : IntKind.i64.wrap (sumI (pl.take k) + xw) = sumI (pl.take k) + xw := IntWalk.i64_in _ (by omega)
        have HST := Lib.hid hst
        have e1 : (0 : Int) ≤ (k : Int) := by omega
        have e2 : (k : Int) < (m : Int) := by omega
        clear hst h1 h2 h3 hkl hxw
        go_wp2_with fail
        go_round
        case rel => exact ⟨k + 1, by omega, by go_num, by rw [HST.out]⟩
        case measure => simp [intOf]; omega
      · have hkm : k = pl.length := by rw [HPL.out]; omega
        have hsum0 : sumI (pl.take k) = sumI pl := by rw [hkm, List.take_length]
        rw [hsum0]
        have hPa := HPa8.out.grow H8.out
        have a0 : w10.cell? ⟨w3.heap.size, 0, none⟩ = some (.slice CA m ca) := hPa.cell 0
        have a1 : w10.cell? ⟨w3.heap.size, 1, none⟩ = some (.int .i64 W0) := hPa.cell 1
        have a2 : w10.cell? ⟨w3.heap.size, 2, none⟩ = some (.slice PA m pa) := hPa.cell 2
        have HPa10 := Lib.hid hPa
        clear hPa hkm hsum0
        have hinc : Calls Try.prog 23 #[.agg #[.slice CA m ca, .int .i64 W0, .slice PA m pa]] w10 fun e w' => e = .returned (.int .i64 (sumI pl)) ∧ Below w10.heap.size w10 w' :=
          income_any W0 pl _ _ _ w10 (by rw [HPL.out]; exact (Sl.of_own HPA8.out).grow H8.out) HPB.out (by rw [HPL.out]; omega)
        have HINC := Lib.hid hinc
        clear hinc
        go_wp2_with fail
        refine HINC.out.mono ?_
        rintro e w11 ⟨rfl, hb11⟩
        have H11 := Lib.hid (H8.out.trans (hb11.mono H8.out.size))
        clear hb11 a0 a1 a2
        have hPa := HPa8.out.grow H11.out
        have a0 : w11.cell? ⟨w3.heap.size, 0, none⟩ = some (.slice CA m ca) := hPa.cell 0
        have a2 : w11.cell? ⟨w3.heap.size, 2, none⟩ = some (.slice PA m pa) := hPa.cell 2
        have HPa11 := Lib.hid hPa
        clear hPa
        go_wp2_with fail
        clear a0 a2
        go_loopw [12] (fun i wr => ∃ (k : Nat) (xs ys : List Value), k ≤ m ∧ i = .int .i64 k ∧ Mid u3.heap.size w3.heap.size w11 wr ∧ wr.ownsRow u3.heap.size 3 1 (.slice CA m ca) m xs ∧ wr.ownsRow u3.heap.size 2 1 (.slice PA m pa) m ys) (fun i _ => m - (intOf i).toNat)
        case atStart => exact ⟨0, _, _, Nat.zero_le _, rfl, Mid.refl _ _ _, own_grow HCA8.out H11.out, own_grow HPA8.out H11.out⟩
        case round =>
          obtain ⟨j2, xs, ys, hk2, rfl, hmid, ho1, ho2⟩ := hrel
          have hPa := hmid.blk HPa11.out (Nat.le_refl _)
          have a0 : wr.cell? ⟨w3.heap.size, 0, none⟩ = some (.slice CA m ca) := hPa.cell 0
          have a2 : wr.cell? ⟨w3.heap.size, 2, none⟩ = some (.slice PA m pa) := hPa.cell 2
          by_cases hlt2 : j2 < m
          · obtain ⟨gA, rfl, hA0, hA1, hA2, hA3, hA4⟩ := own_some ho1 (by omega)
            obtain ⟨gP, rfl, hP0, hP1, hP2, hP3, hP4⟩ := own_some ho2 (by omega)
            have hAlt := (HCA3.out.lt gA rfl).2
            have hPlt := (HPA3.out.lt gP rfl).2
            have hne : gA ≠ gP := fun e => own_ne ho1 ho2 (by decide) (g := gA) rfl (by simp [Value.ownBlock, e])
            obtain ⟨uA, _, cA⟩ := hA4 j2 hlt2
            obtain ⟨uP, _, cP⟩ := hP4 j2 hlt2
            have fA := hA3 j2
            have fP := hP3 j2
            have b0 : (wr.setCell ⟨gP, j2, none⟩ (.int .i64 (-9))).cell? ⟨w3.heap.size, 0, none⟩ = some (.slice (some ⟨gA, 0, none⟩) m ca) := (World.cell?_setCell_other wr ⟨gP, j2, none⟩ ⟨w3.heap.size, 0, none⟩ _ (fun e => by injection e with e; omega)).trans a0
            have b1 : (wr.setCell ⟨gP, j2, none⟩ (.int .i64 (-9))).cell? ⟨gA, j2, none⟩ = some uA := (World.cell?_setCell_other wr ⟨gP, j2, none⟩ ⟨gA, j2, none⟩ _ (fun e => by injection e with e; omega)).trans cA
            have b2 : (wr.setCell ⟨gP, j2, none⟩ (.int .i64 (-9))).frozen? ⟨gA, j2, none⟩ = false := by rw [World.frozen?_setCell]; exact fA
            have e1 : (0 : Int) ≤ (j2 : Int) := by omega
            have e2 : (j2 : Int) < (m : Int) := by omega
            have HMID := Lib.hid hmid
            have HO1 := Lib.hid ho1
            have HO2 := Lib.hid ho2
            clear hmid ho1 ho2 hPa hA3 hA4 hP3 hP4
            go_wp2_with fail
            go_roundw
            case rel =>
              have s1 := HO2.out.stored j2 (.int .i64 (-9))
              have s2 := (own_far HO1.out s1.2 (fun g e => by simp [Value.ownBlock] at e ⊢; omega)).stored j2 (.int .i64 (-9))
              refine ⟨j2 + 1, _, _, by omega, by go_num, (HMID.out.set (p := ⟨gP, j2, none⟩) hP0 hPlt _).set (p := ⟨gA, j2, none⟩) hA0 hAlt _, s2.1, own_far s1.1 s2.2 (fun g e => by simp [Value.ownBlock] at e ⊢; omega)⟩
            case measure => simp [intOf]; omega
          · have hPb := hmid.blk (HPb8.out.grow H11.out) (by have := H45.out.size; omega)
            have hPw := hmid.blk (HPw8.out.grow H11.out) (by omega)
            have q0 : wr.cell? ⟨w5.heap.size, 0, none⟩ = some (.slice CB m cb) := hPb.cell 0
            have q1 : wr.cell? ⟨w5.heap.size, 1, none⟩ = some (.int .i64 W0) := hPb.cell 1
            have q2 : wr.cell? ⟨w5.heap.size, 2, none⟩ = some (.slice PB m pb) := hPb.cell 2
            have t0 : wr.cell? ⟨w7.heap.size, 0, none⟩ = some (.slice CW m cw) := hPw.cell 0
            have t1 : wr.cell? ⟨w7.heap.size, 1, none⟩ = some (.int .i64 W0) := hPw.cell 1
            have t2 : wr.cell? ⟨w7.heap.size, 2, none⟩ = some (.slice PW m pw) := hPw.cell 2
            have hX := (HX8.out.grow H11.out).below hmid.1 (by have := HX3.out.lt; omega)
            have hY := (HY8.out.grow H11.out).below hmid.1 (by have := HY3.out.lt; omega)
            have x0 : wr.cell? ⟨w.heap.size, 0, none⟩ = some (.int .i64 n) := hX.cell 0
            have x1 : wr.cell? ⟨w.heap.size, 1, none⟩ = some (.slice A bs.length cap) := hX.cell 1
            have y0 : wr.cell? ⟨w2.heap.size, 0, none⟩ = some (.int .i64 n) := hY.cell 0
            have y1 : wr.cell? ⟨w2.heap.size, 1, none⟩ = some (.slice A2 bs.length k2) := hY.cell 1
            have HMID := Lib.hid hmid
            have hH11 := H11.out.size
            have hbC := HMID.out.sl ((Sl.own_from HCB8.out).grow H11.out) (fun i _ h => h)
            have hbP := HMID.out.sl ((Sl.own_from HPB8.out).grow H11.out) (fun i _ h => h)
            have hwC := HMID.out.sl ((Sl.own_from HCW8.out).grow H11.out) (fun i _ h => h)
            have hwP := HMID.out.sl ((Sl.own_from HPW8.out).grow H11.out) (fun i _ h => h)
            have hall : Below u3.heap.size u3 wr := (HU8.out.trans (H11.out.mono HU8.out.size)).trans (HMID.out.1.mono (Nat.le_refl _))
            have HALL := Lib.hid hall
            have HBC := Lib.hid hbC
            have HBP := Lib.hid hbP
            have HWC := Lib.hid hwC
            have HWP := Lib.hid hwP
            have HXr := Lib.hid hX
            have HYr := Lib.hid hY
            clear hmid hPb hPw hX hY hbC hbP hwC hwP hall ho1 ho2 a0 hPa
            go_wp2_with (first
              | (go_at_call 22; refine (HSAME.out _ _ _ _ _ _ _ _ _ _ _ _ _ HBC.out HWC.out HBP.out HWP.out).mono ?_; rintro e w12 ⟨rfl, hb12⟩; have H12 := Lib.hid hb12; have hX := HXr.out.grow hb12; have hY := HYr.out.grow hb12; obtain ⟨x0, x1, y0, y1⟩ : w12.cell? ⟨w.heap.size, 0, none⟩ = some (.int .i64 n) ∧ w12.cell? ⟨w.heap.size, 1, none⟩ = some (.slice A bs.length cap) ∧ w12.cell? ⟨w2.heap.size, 0, none⟩ = some (.int .i64 n) ∧ w12.cell? ⟨w2.heap.size, 1, none⟩ = some (.slice A2 bs.length k2) := ⟨hX.cell 0, hX.cell 1, hY.cell 0, hY.cell 1⟩; clear hb12 hX hY)
              | (go_at_call 19; refine (stays_any n bs _ _ _ R _ ((HV3.out.grow HALL.out).grow H12.out) ((HB.out.grow (HB3.out.trans (HALL.out.mono HB3.out.size))).grow H12.out) HSM.out).mono ?_; rintro e w13 ⟨rfl, hb13⟩; have H13 := Lib.hid (H12.out.trans (hb13.mono H12.out.size)); clear hb13 x0 x1 y0 y1 q0 q1 q2 t0 t1 t2)
              | (go_at_call 14; refine (works_any _).mono ?_; rintro e w14 ⟨rfl, hb14⟩; have H14 := Lib.hid (H13.out.trans (hb14.mono H13.out.size)); clear hb14))
            go_ret
            exact ⟨rfl, (HB3.out.trans (HALL.out.mono HB3.out.size)).trans (H14.out.mono (HB3.out.trans (HALL.out.mono HB3.out.size)).size)⟩
end Go.Proofs.Ytcigobiolbojhaa.Vb

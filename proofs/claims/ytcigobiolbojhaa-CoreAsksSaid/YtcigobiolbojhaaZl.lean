/- Joined by program: Asks18W. -/
import Derived.Test.YtcigobiolbojhaaZk
/- Law 18: CoreAsks, walked. -/
namespace Go.Proofs.Ytcigobiolbojhaa.Vb
open Go.RowKit

/-- what stands through the calls -/
structure AStd (w : World) (lo b2 gm cm : Nat) (n : Int) (v vy : Value) (bs : List (List Off)) (pay : List Int) (V : World) : Prop where
  x : Blk V w.heap.size 24 #[.int .i64 n, v]
  y : Blk V b2 24 #[.int .i64 n, vy]
  l : Lent V lo vy bs
  m : V.ownsRow b2 2 1 (.slice (some ⟨gm, 0, none⟩) (pay.length + 1) cm) (pay.length + 1) (ints (pay ++ [4242]))
  b : Below w.heap.size w V
theorem AStd.grow {w : World} {lo b2 gm cm : Nat} {n : Int} {v vy : Value} {bs : List (List Off)} {pay : List Int} {V V' : World} (h : AStd w lo b2 gm cm n v vy bs pay V) (hb : Below V.heap.size V V') : AStd w lo b2 gm cm n v vy bs pay V' :=
  ⟨h.x.grow hb, h.y.grow hb, h.l.grow hb, own_grow h.m hb, h.b.trans (hb.mono h.b.size)⟩
theorem AStd.sl {w : World} {lo b2 gm cm : Nat} {n : Int} {v vy : Value} {bs : List (List Off)} {pay : List Int} {V : World} (h : AStd w lo b2 gm cm n v vy bs pay V) : Sl V (fun _ => True) (.slice (some ⟨gm, 0, none⟩) pay.length cm) pay.length 1 (ints pay) := sl_front h.m rfl

set_option maxRecDepth 100000 in
set_option maxHeartbeats 12800000 in
theorem asks18_walk (n : Int) (bs : List (List Off)) (v : Value) (R : Nat → Prop) (pay : List Int) (vp : Value) (Rp : Nat → Prop) (buyer : Int) (w : World) (hl : Buys w R v bs) (hp : Sl w Rp vp pay.length 1 (ints pay)) :
    Calls Try.prog 10 #[.agg #[.int .i64 n, v], vp, .int .i64 buyer] w fun e w' => e = .returned (.bool true) ∧ Below w.heap.size w w' := by
  obtain ⟨_, ⟨_, A, cap, rfl, _⟩, _⟩ := id hl
  obtain ⟨_, AP, capP, rfl, hnp, hcp, _⟩ := id hp
  unfold maxLen at hcp
  have HB := Lib.hid hl
  have HP := Lib.hid hp
  clear hl hp
  by_cases hgr : largeB bs = true ∨ 60 < pay.length
  · go_enter Try.func10, Try.ntmps10
    go_wp2_with fail
    refine (large_any n bs _ R _ (HB.out.alloc _)).mono ?_
    rintro e w1 ⟨rfl, hb1⟩
    have HB1 := Lib.hid (((Below.refl _ _).alloc (Nat.le_refl _) _).trans (hb1.mono (B' := w.heap.size) (by simp)))
    clear hb1
    rcases (show largeB bs = true ∨ (largeB bs = false ∧ 60 < pay.length) by
      cases h : largeB bs
      · rcases hgr with h2 | h2
        · rw [h] at h2; cases h2
        · exact .inr ⟨rfl, h2⟩
      · exact .inl rfl) with hg | ⟨hg, h60⟩
    · rw [hg]
      clear hgr hg
      go_wp2_with fail
      refine (known_any _).mono ?_
      rintro e w2 ⟨rfl, hb2⟩
      have HB2 := Lib.hid (HB1.out.trans (hb2.mono HB1.out.size))
      clear hb2
      go_wp2_with fail
      go_ret
      exact ⟨rfl, HB2.out⟩
    · rw [hg]
      have h60i : (60 : Int) < (pay.length : Int) := by omega
      clear hgr hg
      go_wp2_with fail
      refine (known_any _).mono ?_
      rintro e w2 ⟨rfl, hb2⟩
      have HB2 := Lib.hid (HB1.out.trans (hb2.mono HB1.out.size))
      clear hb2
      go_wp2_with fail
      go_ret
      exact ⟨rfl, HB2.out⟩
  · have hg : largeB bs = false := by
      cases h : largeB bs
      · rfl
      · exact absurd (.inl h) hgr
    have h60 : ¬ 60 < pay.length := fun h => hgr (.inr h)
    have h60i : decide ((60 : Int) < (pay.length : Int)) = false := by simp; omega
    obtain ⟨hs40, hs20⟩ := largeB_small hg
    have HSM := Lib.hid (show Small bs from ⟨by omega, fun l hl => by have := hs20 l hl; omega⟩)
    have HG := Lib.hid hg
    obtain ⟨ae, hae⟩ : ∃ z, z = askE n bs pay := ⟨_, rfl⟩
    obtain ⟨bb, hbb⟩ : ∃ z, z = blockB n bs pay := ⟨_, rfl⟩
    obtain ⟨bm, hbm⟩ : ∃ z, z = blockM n bs pay := ⟨_, rfl⟩
    obtain ⟨bl, hbl⟩ : ∃ z, z = blockL n bs pay := ⟨_, rfl⟩
    obtain ⟨lv, hlv⟩ : ∃ z, z = leastV n bs pay buyer := ⟨_, rfl⟩
    obtain ⟨le, hle⟩ : ∃ z, z = leastE n bs pay buyer := ⟨_, rfl⟩
    obtain ⟨tb, htb⟩ : ∃ z, z = tightB n bs pay := ⟨_, rfl⟩
    obtain ⟨la, hla⟩ : ∃ z, z = lowA n bs pay := ⟨_, rfl⟩
    obtain ⟨ln, hln⟩ : ∃ z, z = lowN n bs pay := ⟨_, rfl⟩
    have hie := instE_bd n bs
    have haeb : -9223372036854775808 ≤ ae ∧ ae ≤ 9223372036854775807 := by
      rw [hae]; unfold askE; split
      · split <;> omega
      · omega
    have hleb : -9223372036854775808 ≤ le ∧ le ≤ 9223372036854775807 := by
      rw [hle]; unfold leastE; rw [← hae]; split
      · omega
      · split <;> omega
    have HAE := Lib.hid hae
    have HBB := Lib.hid hbb
    have HBM := Lib.hid hbm
    have HBL := Lib.hid hbl
    have HLV := Lib.hid hlv
    have HLE := Lib.hid hle
    have HTB := Lib.hid htb
    have HLA := Lib.hid hla
    have HLN := Lib.hid hln
    clear hgr hg hs20 hae hbb hbm hbl hlv hle htb hla hln hie
    go_enter Try.func10, Try.ntmps10
    go_wp2_with fail
    refine (large_any n bs _ R _ (HB.out.alloc _)).mono ?_
    rintro e w1 ⟨rfl, hb1⟩
    rw [HG.out]
    obtain ⟨hX, hs1, hbw⟩ := one_blk' hb1
    have x0 : w1.cell? ⟨w.heap.size, 0, none⟩ = some (.int .i64 n) := hX.cell 0
    have x1 : w1.cell? ⟨w.heap.size, 1, none⟩ = some (.slice A bs.length cap) := hX.cell 1
    have HX1 := Lib.hid hX
    have HB1 := Lib.hid hbw
    clear hb1 hX hbw
    go_wp2_with fail
    refine (lent_any n bs _ R _ (HB.out.grow HB1.out) HSM.out).mono ?_
    rintro e w2 ⟨vy, rfl, hlent, hb2⟩
    obtain ⟨gy0, cy0, _, _, hvy, _⟩ := id hlent
    have HX2 := Lib.hid (HX1.out.grow hb2)
    have HB2 := Lib.hid (HB1.out.trans (hb2.mono HB1.out.size))
    have HLT := Lib.hid hlent
    have hs12 := hb2.size
    clear hb2 hlent x0 x1
    subst hvy
    have hmk : ∀ (V : World) (gm c4 : Nat), Below (w2.heap.size + 1) (w2.alloc (.cells #[.int .i64 n, .slice (some ⟨gy0, 0, none⟩) bs.length cy0] 24)) V → V.ownsRow (w2.heap.size + 1) 2 1 (.slice (some ⟨gm, 0, none⟩) (pay.length + 1) c4) (pay.length + 1) (ints pay ++ [.int .i64 4242]) →
        AStd w w1.heap.size w2.heap.size gm c4 n (.slice A bs.length cap) (.slice (some ⟨gy0, 0, none⟩) bs.length cy0) bs pay V := by
      intro V gm c4 hG hO
      have hal := (Below.refl w2.heap.size w2).alloc (Nat.le_refl _) (.cells #[.int .i64 n, .slice (some ⟨gy0, 0, none⟩) bs.length cy0] 24)
      have hg4 : Below (w2.alloc (.cells #[.int .i64 n, .slice (some ⟨gy0, 0, none⟩) bs.length cy0] 24)).heap.size (w2.alloc (.cells #[.int .i64 n, .slice (some ⟨gy0, 0, none⟩) bs.length cy0] 24)) V := by simpa using hG
      have h24 := hal.trans (hg4.mono (by simp))
      refine ⟨HX2.out.grow h24, (Blk.new w2 _ _).grow hg4, HLT.out.grow h24, ?_, HB2.out.trans (h24.mono HB2.out.size)⟩
      have := own_mono hO (show w2.heap.size ≤ w2.heap.size + 1 by omega)
      simpa [ints] using this
    have HMK := Lib.hid hmk
    clear hmk
    go_wp2_with (at_builtin; first
      | (refine wpList_app _ rfl (.const (.slice none 0 0)) (.tmp 40) et_i64 rfl (w2.heap.size + 1) (.slice none 0 0) 0 [] rfl (World.ownsRow_nil _ _ _ _) _ _ pay.length (ints pay) rfl ((HP.out.grow HB2.out).alloc _) (by simp [ints, Value.oneCell']) (by omega) (by unfold maxLen; omega) (by simp) ?_; intro A3 c3 w3 hown3 hg3 _; rw [Nat.zero_add] at hown3 ⊢; rw [List.nil_append] at hown3; have HO3 := Lib.hid hown3; have HG3 := Lib.hid ((Below.refl (w2.heap.size + 1) (w2.alloc (.cells #[.int .i64 n, .slice (some ⟨gy0, 0, none⟩) bs.length cy0] 24))).grown hg3 (by simp) (fun r e => by cases e)); have hs3 := hg3.size; simp at hs3; clear hown3 hg3)
      | (have := HO3; go_must (refine wpList_app _ rfl (.tmp 41) (.tmp 42) et_i64 rfl (w2.heap.size + 1) (.slice A3 pay.length c3) pay.length (ints pay) rfl (HO3.out.alloc _) _ _ 1 _ rfl (Sl.new w3 #[.int .i64 4242] _ 1 1 (by unfold maxLen; omega) rfl) (by simp [Value.oneCell']) (by omega) (by unfold maxLen; omega) (by simp <;> omega) ?_); go_must (intro A4 c4 w4 hown4 hg4 _; obtain ⟨gm, cm, hform, hgm1, hgm2⟩ := World.ownsRow.form hown4 (by omega); injection hform with hA4 _ hc4; subst hA4 hc4; obtain ⟨_, A9, _, hv9, hnc9, hcm9, _⟩ := Sl.of_own hown4; injection hv9 with hA9 _ hc9; subst hc9 hA9; have hc41 : ((pay.length : Nat) : Int) ≤ (c4 : Int) := (by omega); have hc40 : (0 : Int) ≤ ((pay.length : Nat) : Int) := (by omega); have hstd := HMK.out w4 gm c4 ((HG3.out.alloc (by omega) (.cells #[.int .i64 4242] 2)).grown hg4 (by simp <;> omega) (fun r e => by have := (HO3.out.lt r e).1; omega)) hown4; obtain ⟨y0, y1⟩ : w4.cell? ⟨w2.heap.size, 0, none⟩ = some (.int .i64 n) ∧ w4.cell? ⟨w2.heap.size, 1, none⟩ = some (.slice (some ⟨gy0, 0, none⟩) bs.length cy0) := ⟨hstd.y.cell 0, hstd.y.cell 1⟩; have HS4 := Lib.hid hstd; clear hstd; clear hown4 hg4)))
    clear HO3 HG3
    refine (coreBlocks_all n bs _ _ _ pay _ w4 HS4.out.l.buys HS4.out.sl).mono ?_
    rintro e w5 ⟨A5, c5, rfl, hown5, hb5⟩
    rw [← HAE.out, ← HBB.out, ← HBM.out]
    rw [← HBL.out] at hown5 ⊢
    have hal5 := hb5.alloc hb5.size (.cells #[.slice A5 bl.length c5, .int .i64 bm] 85)
    have hQ5 := Blk.new w5 85 #[.slice A5 bl.length c5, .int .i64 bm]
    have hO5 := own_alloc hown5 (.cells #[.slice A5 bl.length c5, .int .i64 bm] 85)
    have hstd := HS4.out.grow hal5
    obtain ⟨z5, hz5⟩ : ∃ V, V = w5.alloc (.cells #[.slice A5 bl.length c5, .int .i64 bm] 85) := ⟨_, rfl⟩
    have x0 : (w5.alloc (.cells #[.slice A5 bl.length c5, .int .i64 bm] 85)).cell? ⟨w.heap.size, 0, none⟩ = some (.int .i64 n) := hstd.x.cell 0
    have x1 : (w5.alloc (.cells #[.slice A5 bl.length c5, .int .i64 bm] 85)).cell? ⟨w.heap.size, 1, none⟩ = some (.slice A bs.length cap) := hstd.x.cell 1
    rw [← hz5] at hQ5 hO5 hstd
    have HS5 := Lib.hid hstd
    have HQ5 := Lib.hid hQ5
    have HO5 := Lib.hid (Sl.of_own hO5).any
    clear hb5 hown5 hal5 hQ5 hO5 hstd y0 y1
    go_wp2_with fail
    rw [← hz5]
    refine (refBlocks_all n bs _ R Rp pay _ z5 (HB.out.grow HS5.out.b) (HP.out.grow HS5.out.b)).mono ?_
    rintro e w6 ⟨A6, c6, rfl, hown6, hb6⟩
    rw [← HAE.out, ← HBB.out, ← HBM.out]
    rw [← HBL.out] at hown6 ⊢
    have hal6 := hb6.alloc hb6.size (.cells #[.slice A6 bl.length c6, .int .i64 bm] 85)
    have hQ6 := Blk.new w6 85 #[.slice A6 bl.length c6, .int .i64 bm]
    have hO6 := own_alloc hown6 (.cells #[.slice A6 bl.length c6, .int .i64 bm] 85)
    have hstd := HS5.out.grow hal6
    have hq := HQ5.out.grow hal6
    have ho := HO5.out.grow hal6
    obtain ⟨z6, hz6⟩ : ∃ V, V = w6.alloc (.cells #[.slice A6 bl.length c6, .int .i64 bm] 85) := ⟨_, rfl⟩
    have y0 : (w6.alloc (.cells #[.slice A6 bl.length c6, .int .i64 bm] 85)).cell? ⟨w2.heap.size, 0, none⟩ = some (.int .i64 n) := hstd.y.cell 0
    have y1 : (w6.alloc (.cells #[.slice A6 bl.length c6, .int .i64 bm] 85)).cell? ⟨w2.heap.size, 1, none⟩ = some (.slice (some ⟨gy0, 0, none⟩) bs.length cy0) := hstd.y.cell 1
    rw [← hz6] at hQ6 hO6 hstd hq ho
    have HS6 := Lib.hid hstd
    have HQ6 := Lib.hid hq
    have HO6 := Lib.hid ho
    have HR6 := Lib.hid hQ6
    have HP6 := Lib.hid (Sl.of_own hO6).any
    clear hb6 hown6 hal6 hQ6 hO6 hstd hq ho x0 x1 hz5 HQ5 HO5
    go_wp2_with fail
    rw [← hz6]
    refine (coreLeast_any n bs _ _ _ pay _ buyer z6 HS6.out.l.buys HS6.out.sl).mono ?_
    rintro e w7 ⟨rfl, hb7⟩
    rw [← HLV.out, ← HLE.out]
    have HS7 := Lib.hid (HS6.out.grow hb7)
    have HQ7 := Lib.hid (HQ6.out.grow hb7)
    have HO7 := Lib.hid (HO6.out.grow hb7)
    have HR7 := Lib.hid (HR6.out.grow hb7)
    have HP7 := Lib.hid (HP6.out.grow hb7)
    have x0 : w7.cell? ⟨w.heap.size, 0, none⟩ = some (.int .i64 n) := HS7.out.x.cell 0
    have x1 : w7.cell? ⟨w.heap.size, 1, none⟩ = some (.slice A bs.length cap) := HS7.out.x.cell 1
    clear hb7 y0 y1 hz6
    go_wp2_with fail
    refine (refLeastX_any n bs _ R Rp pay _ buyer w7 (HB.out.grow HS7.out.b) (HP.out.grow HS7.out.b)).mono ?_
    rintro e w8 ⟨rfl, hb8⟩
    rw [← HLV.out, ← HLE.out]
    have HS8 := Lib.hid (HS7.out.grow hb8)
    have HQ8 := Lib.hid (HQ7.out.grow hb8)
    have HO8 := Lib.hid (HO7.out.grow hb8)
    have HR8 := Lib.hid (HR7.out.grow hb8)
    have HP8 := Lib.hid (HP7.out.grow hb8)
    have y0 : w8.cell? ⟨w2.heap.size, 0, none⟩ = some (.int .i64 n) := HS8.out.y.cell 0
    have y1 : w8.cell? ⟨w2.heap.size, 1, none⟩ = some (.slice (some ⟨gy0, 0, none⟩) bs.length cy0) := HS8.out.y.cell 1
    clear hb8 x0 x1
    go_wp2_with fail
    refine (coreTight_any n bs _ _ _ pay _ w8 HS8.out.l.buys HS8.out.sl).mono ?_
    rintro e w9 ⟨rfl, hb9⟩
    rw [← HTB.out, ← HAE.out]
    have HS9 := Lib.hid (HS8.out.grow hb9)
    have HQ9 := Lib.hid (HQ8.out.grow hb9)
    have HO9 := Lib.hid (HO8.out.grow hb9)
    have HR9 := Lib.hid (HR8.out.grow hb9)
    have HP9 := Lib.hid (HP8.out.grow hb9)
    have x0 : w9.cell? ⟨w.heap.size, 0, none⟩ = some (.int .i64 n) := HS9.out.x.cell 0
    have x1 : w9.cell? ⟨w.heap.size, 1, none⟩ = some (.slice A bs.length cap) := HS9.out.x.cell 1
    clear hb9 y0 y1
    go_wp2_with fail
    refine (refTight_any n bs _ R Rp pay _ w9 (HB.out.grow HS9.out.b) (HP.out.grow HS9.out.b)).mono ?_
    rintro e w10 ⟨rfl, hb10⟩
    rw [← HTB.out, ← HAE.out]
    have HS10 := Lib.hid (HS9.out.grow hb10)
    have HQ10 := Lib.hid (HQ9.out.grow hb10)
    have HO10 := Lib.hid (HO9.out.grow hb10)
    have HR10 := Lib.hid (HR9.out.grow hb10)
    have HP10 := Lib.hid (HP9.out.grow hb10)
    have y0 : w10.cell? ⟨w2.heap.size, 0, none⟩ = some (.int .i64 n) := HS10.out.y.cell 0
    have y1 : w10.cell? ⟨w2.heap.size, 1, none⟩ = some (.slice (some ⟨gy0, 0, none⟩) bs.length cy0) := HS10.out.y.cell 1
    clear hb10 x0 x1
    go_wp2_with fail
    refine (coreLowered_all n bs _ _ _ pay _ w10 HS10.out.l.buys HS10.out.sl).mono ?_
    rintro e w11 ⟨A11, c11, rfl, hbu11, hb11⟩
    rw [← HAE.out, ← HLN.out]
    rw [← HLA.out] at hbu11 ⊢
    have hal11 := hb11.alloc hb11.size (.cells #[.int .i64 ln, .slice A11 la.length c11] 24)
    have hZ11 := Blk.new w11 24 #[.int .i64 ln, .slice A11 la.length c11]
    have hbz := hbu11.alloc (.cells #[.int .i64 ln, .slice A11 la.length c11] 24)
    have hstd := HS10.out.grow hal11
    have hq := HQ10.out.grow hal11
    have ho := HO10.out.grow hal11
    have hr := HR10.out.grow hal11
    have hpp := HP10.out.grow hal11
    obtain ⟨z11, hz11⟩ : ∃ V, V = w11.alloc (.cells #[.int .i64 ln, .slice A11 la.length c11] 24) := ⟨_, rfl⟩
    have x0 : (w11.alloc (.cells #[.int .i64 ln, .slice A11 la.length c11] 24)).cell? ⟨w.heap.size, 0, none⟩ = some (.int .i64 n) := hstd.x.cell 0
    have x1 : (w11.alloc (.cells #[.int .i64 ln, .slice A11 la.length c11] 24)).cell? ⟨w.heap.size, 1, none⟩ = some (.slice A bs.length cap) := hstd.x.cell 1
    rw [← hz11] at hZ11 hbz hstd hq ho hr hpp
    have HS11 := Lib.hid hstd
    have HQ11 := Lib.hid hq
    have HO11 := Lib.hid ho
    have HR11 := Lib.hid hr
    have HP11 := Lib.hid hpp
    have HZ11 := Lib.hid hZ11
    have HBZ11 := Lib.hid hbz
    clear hb11 hbu11 hal11 hZ11 hbz hstd hq ho hr hpp y0 y1
    go_wp2_with fail
    rw [← hz11]
    refine (refAsked_any n bs _ R Rp pay _ z11 (HB.out.grow HS11.out.b) (HP.out.grow HS11.out.b)).mono ?_
    rintro e w12 ⟨hcase, hb12⟩
    have HS12 := Lib.hid (HS11.out.grow hb12)
    have HQ12 := Lib.hid (HQ11.out.grow hb12)
    have HO12 := Lib.hid (HO11.out.grow hb12)
    have HR12 := Lib.hid (HR11.out.grow hb12)
    have HP12 := Lib.hid (HP11.out.grow hb12)
    have HZ12 := Lib.hid (HZ11.out.grow hb12)
    have HBZ12 := Lib.hid (HBZ11.out.grow hb12)
    clear hb12 x0 x1 hz11
    rw [← HAE.out] at hcase
    rcases hcase with ⟨h0, A1, c1, A2, c2, rfl, hown1, _⟩ | ⟨h0, rfl⟩
    · have hae0 : askE n bs pay = 0 := by rw [← HAE.out]; exact h0
      have hcase' := askE_zero hae0
      have hla2 : la = lowB n bs pay := by rw [HLA.out]; unfold lowA; rw [if_pos hae0]
      have hln2 : ln = n := by rw [HLN.out]; unfold lowN; rw [if_pos hae0]
      subst h0
      subst hln2
      have hlow12 := (HS12.out.x)
      have HD := Lib.hid (Sl.of_own hown1).any
      have HLA2 := Lib.hid hla2
      have HII := Lib.hid hcase'.1
      have HOK := Lib.hid hcase'.2
      have x0 : (w12.alloc (.cells #[.int .i64 0, .slice none 0 0] 24)).cell? ⟨w.heap.size, 0, none⟩ = some (.int .i64 ln) := (HS12.out.x.alloc _).cell 0
      have x1 : (w12.alloc (.cells #[.int .i64 0, .slice none 0 0] 24)).cell? ⟨w.heap.size, 1, none⟩ = some (.slice A bs.length cap) := (HS12.out.x.alloc _).cell 1
      clear hla2 hlow12 hown1 hae0
      go_wp2_with fail
      have hal12 := (Below.refl w12.heap.size w12).alloc (Nat.le_refl _) (.cells #[.int .i64 0, .slice none 0 0] 24)
      refine (refLower18_any ln bs _ pay _ _ _ Rp R (w12.alloc (.cells #[.int .i64 0, .slice none 0 0] 24)) ((HB.out.grow HS12.out.b).grow hal12) (HD.out.grow hal12) ((HP.out.grow HS12.out.b).grow hal12) HII.out HOK.out).mono ?_
      rintro e w13 ⟨A13, c13, rfl, hob, hb13⟩
      have hbl13 := (Blk.new w12 24 #[.int .i64 0, .slice none 0 0]).grow hb13
      have p0 : w13.cell? ⟨w12.heap.size, 0, none⟩ = some (.int .i64 0) := hbl13.cell 0
      have p1 : w13.cell? ⟨w12.heap.size, 1, none⟩ = some (.slice none 0 0) := hbl13.cell 1
      have p2 := hbl13.frozen 0
      have p3 := hbl13.frozen 1
      have hll : la.length = bs.length := by rw [HLA2.out, lowB_length]
      have hlow := (hbl13.set_ 0 (.int .i64 ln)).set_ 1 (.slice A13 bs.length c13)
      have hob' : OwnBuys w13 (w12.heap.size + 1) (.slice A13 bs.length c13) (lowB ln bs pay) := by simpa using hob
      have hlb := ((hob'.far (grownBy_setCell w13 ⟨w12.heap.size, 0, none⟩ (.int .i64 ln)) (fun j e => by simp at e; omega)).far (grownBy_setCell _ ⟨w12.heap.size, 1, none⟩ (.slice A13 bs.length c13)) (fun j e => by simp at e; omega)).buys.any
      have hBZ : Below w12.heap.size w12 ((w13.setCell ⟨w12.heap.size, 0, none⟩ (.int .i64 ln)).setCell ⟨w12.heap.size, 1, none⟩ (.slice A13 bs.length c13)) := ((hal12.trans (hb13.mono (by simp))).setCell (p := ⟨w12.heap.size, 0, none⟩) (by simp) _).setCell (p := ⟨w12.heap.size, 1, none⟩) (by simp) _
      obtain ⟨Z, hZ⟩ : ∃ V, V = (w13.setCell ⟨w12.heap.size, 0, none⟩ (.int .i64 ln)).setCell ⟨w12.heap.size, 1, none⟩ (.slice A13 bs.length c13) := ⟨_, rfl⟩
      rw [← hZ] at hBZ hlb
      have hlow : Blk Z w12.heap.size 24 #[.int .i64 ln, .slice A13 la.length c13] := by rw [hZ, hll]; exact hlow
      rw [← HLA2.out, ← hll] at hlb
      have HZE := Lib.hid hZ
      clear hob hob' hb13 hbl13 hal12 hll x0 x1 hZ
      have q0 : ((w13.setCell ⟨w12.heap.size, 0, none⟩ (.int .i64 ln)).setCell ⟨w12.heap.size, 1, none⟩ (.slice A13 bs.length c13)).cell? ⟨w5.heap.size, 0, none⟩ = some (.slice A5 bl.length c5) := by rw [← HZE.out]; exact (HQ12.out.grow hBZ).cell 0
      have r0 : ((w13.setCell ⟨w12.heap.size, 0, none⟩ (.int .i64 ln)).setCell ⟨w12.heap.size, 1, none⟩ (.slice A13 bs.length c13)).cell? ⟨w6.heap.size, 0, none⟩ = some (.slice A6 bl.length c6) := by rw [← HZE.out]; exact (HR12.out.grow hBZ).cell 0
      go_wp2_with fail
      rw [← HZE.out]
      clear q0 r0
      clear p0 p1 p2 p3
      have HSZ := Lib.hid (HS12.out.grow hBZ)
      have HQZ := Lib.hid (HQ12.out.grow hBZ)
      have HOZ := Lib.hid (HO12.out.grow hBZ)
      have HRZ := Lib.hid (HR12.out.grow hBZ)
      have HPZ := Lib.hid (HP12.out.grow hBZ)
      have HZZ := Lib.hid (HZ12.out.grow hBZ)
      have HBZZ := Lib.hid (HBZ12.out.grow hBZ)
      have HLOW := Lib.hid hlow
      have HLB := Lib.hid hlb
      have hgm : Z.cell? ⟨gm, pay.length, none⟩ = some (.int .i64 4242) := by
        have h1 := HSZ.out.m.cellAt pay.length (by omega)
        rw [h1]
        simp [ints]
      have HGM := Lib.hid hgm
      have hgml := (HSZ.out.m.lt gm rfl).2
      have hnc9 : pay.length + 1 ≤ c4 := by
        obtain ⟨_, _, _, hv9, hnc9, _, _⟩ := Sl.of_own HSZ.out.m
        injection hv9 with _ _ hc9
        all_goals omega
      have hwr : IntKind.i64.wrap ((pay.length : Int) + 1) = pay.length + 1 := IntWalk.i64_in _ (by omega)
      have hn0 : (0 : Int) ≤ (pay.length : Int) := by omega
      have hn1 : (pay.length : Int) + 1 ≤ (c4 : Int) := by omega
      have hn2 : (0 : Int) ≤ (pay.length : Int) + 1 := by omega
      have hn3 : ((pay.length : Int) + 1).toNat = pay.length + 1 := by omega
      have hn4 : (pay.length : Int) < ((pay.length + 1 : Nat) : Int) := by omega
      clear hBZ hlow hlb hgm hcase'
      refine (same15_true bl _ _ _ _ Z HOZ.out HPZ.out).mono ?_
      rintro e w14 ⟨rfl, hb14⟩
      have HK14 := Lib.hid hb14
      obtain ⟨q1, r1, z0, z1, l0, l1⟩ : w14.cell? ⟨w5.heap.size, 1, none⟩ = some (.int .i64 bm) ∧ w14.cell? ⟨w6.heap.size, 1, none⟩ = some (.int .i64 bm) ∧ w14.cell? ⟨w11.heap.size, 0, none⟩ = some (.int .i64 ln) ∧ w14.cell? ⟨w11.heap.size, 1, none⟩ = some (.slice A11 la.length c11) ∧ w14.cell? ⟨w12.heap.size, 0, none⟩ = some (.int .i64 ln) ∧ w14.cell? ⟨w12.heap.size, 1, none⟩ = some (.slice A13 la.length c13) := ⟨(HQZ.out.grow hb14).cell 1, (HRZ.out.grow hb14).cell 1, (HZZ.out.grow hb14).cell 0, (HZZ.out.grow hb14).cell 1, (HLOW.out.grow hb14).cell 0, (HLOW.out.grow hb14).cell 1⟩
      clear hb14
      go_wp2_with (first
        | (go_at_call 58; refine (same18Inst_true ln la _ _ _ _ w14 (HBZZ.out.grow HK14.out) (HLB.out.grow HK14.out) (by rw [HLA.out]; exact lowA_small HSM.out)).mono ?_; rintro e w15 ⟨rfl, hb15⟩; have HK15 := Lib.hid (HK14.out.trans (hb15.mono HK14.out.size)); have hst := HSZ.out.grow (HK14.out.trans (hb15.mono HK14.out.size)); obtain ⟨x0, x1, y0, y1⟩ : w15.cell? ⟨w.heap.size, 0, none⟩ = some (.int .i64 ln) ∧ w15.cell? ⟨w.heap.size, 1, none⟩ = some (.slice A bs.length cap) ∧ w15.cell? ⟨w2.heap.size, 0, none⟩ = some (.int .i64 ln) ∧ w15.cell? ⟨w2.heap.size, 1, none⟩ = some (.slice (some ⟨gy0, 0, none⟩) bs.length cy0) := ⟨hst.x.cell 0, hst.x.cell 1, hst.y.cell 0, hst.y.cell 1⟩; have HS15 := Lib.hid hst; clear hb15 hst HK14 q1 r1 z0 z1 l0 l1)
        | (go_at_call 44; refine (kept_any ln bs _ _ _ R w15 HS15.out.l (HB.out.grow HS15.out.b) HSM.out).mono ?_; rintro e w16 ⟨rfl, hb16⟩; have HS16 := Lib.hid (HS15.out.grow hb16); have HK16 := Lib.hid (HK15.out.trans (hb16.mono HK15.out.size)); clear hb16 HK15 HS15 x0 x1 y0 y1)
        | (go_at_call 43; refine (same18_true pay _ _ _ _ w16 HS16.out.sl (HP.out.grow HS16.out.b)).mono ?_; rintro e w17 ⟨rfl, hb17⟩; have HS17 := Lib.hid (HS16.out.grow hb17); have hk17 := HK16.out.trans (hb17.mono HK16.out.size); have g0 : w17.cell? ⟨gm, pay.length, none⟩ = some (.int .i64 4242) := (hk17.cell (p := ⟨gm, pay.length, none⟩) hgml).trans HGM.out; clear hb17 hk17 HK16 HS16)
        | (go_at_call 37; refine (known_any _).mono ?_; rintro e w18 ⟨rfl, hb18⟩; have HB18 := Lib.hid (HS17.out.b.trans (hb18.mono HS17.out.b.size)); clear hb18))
      go_ret
      exact ⟨rfl, HB18.out⟩
    · have hae0 : askE n bs pay ≠ 0 := by rw [← HAE.out]; exact h0
      have hcase' := True.intro
      have hla2 : la = [] := by rw [HLA.out]; unfold lowA; rw [if_neg hae0]
      have hln2 : ln = 0 := by rw [HLN.out]; unfold lowN; rw [if_neg hae0]
      have hne : (ae == 0) = false := by simpa using h0
      obtain ⟨A13, hA13⟩ : ∃ A : Option Addr, A = none := ⟨_, rfl⟩
      obtain ⟨c13, hc13⟩ : ∃ c : Nat, c = 0 := ⟨_, rfl⟩
      obtain ⟨Z, hZ⟩ : ∃ V, V = w12.alloc (.cells #[.int .i64 0, .slice none 0 0] 24) := ⟨_, rfl⟩
      have hBZ : Below w12.heap.size w12 Z := by rw [hZ]; exact (Below.refl _ _).alloc (Nat.le_refl _) _
      have hlow : Blk Z w12.heap.size 24 #[.int .i64 ln, .slice A13 la.length c13] := by rw [hZ, hln2, hla2, hA13, hc13]; exact Blk.new w12 _ _
      have hlb : Buys Z (fun _ => True) (.slice A13 la.length c13) la := by rw [hla2, hA13, hc13]; exact ⟨[], ⟨rfl, none, 0, rfl, Nat.le_refl _, Nat.zero_le _, fun h => absurd h (by simp)⟩, fun k l hk => by simp at hk⟩
      have HZE := Lib.hid hZ
      clear hZ hla2 hln2 hA13 hc13 hae0 h0
      have q0 : (w12.alloc (.cells #[.int .i64 0, .slice none 0 0] 24)).cell? ⟨w5.heap.size, 0, none⟩ = some (.slice A5 bl.length c5) := by rw [← HZE.out]; exact (HQ12.out.grow hBZ).cell 0
      have r0 : (w12.alloc (.cells #[.int .i64 0, .slice none 0 0] 24)).cell? ⟨w6.heap.size, 0, none⟩ = some (.slice A6 bl.length c6) := by rw [← HZE.out]; exact (HR12.out.grow hBZ).cell 0
      go_wp2_with fail
      rw [← HZE.out]
      clear q0 r0
      have HSZ := Lib.hid (HS12.out.grow hBZ)
      have HQZ := Lib.hid (HQ12.out.grow hBZ)
      have HOZ := Lib.hid (HO12.out.grow hBZ)
      have HRZ := Lib.hid (HR12.out.grow hBZ)
      have HPZ := Lib.hid (HP12.out.grow hBZ)
      have HZZ := Lib.hid (HZ12.out.grow hBZ)
      have HBZZ := Lib.hid (HBZ12.out.grow hBZ)
      have HLOW := Lib.hid hlow
      have HLB := Lib.hid hlb
      have hgm : Z.cell? ⟨gm, pay.length, none⟩ = some (.int .i64 4242) := by
        have h1 := HSZ.out.m.cellAt pay.length (by omega)
        rw [h1]
        simp [ints]
      have HGM := Lib.hid hgm
      have hgml := (HSZ.out.m.lt gm rfl).2
      have hnc9 : pay.length + 1 ≤ c4 := by
        obtain ⟨_, _, _, hv9, hnc9, _, _⟩ := Sl.of_own HSZ.out.m
        injection hv9 with _ _ hc9
        all_goals omega
      have hwr : IntKind.i64.wrap ((pay.length : Int) + 1) = pay.length + 1 := IntWalk.i64_in _ (by omega)
      have hn0 : (0 : Int) ≤ (pay.length : Int) := by omega
      have hn1 : (pay.length : Int) + 1 ≤ (c4 : Int) := by omega
      have hn2 : (0 : Int) ≤ (pay.length : Int) + 1 := by omega
      have hn3 : ((pay.length : Int) + 1).toNat = pay.length + 1 := by omega
      have hn4 : (pay.length : Int) < ((pay.length + 1 : Nat) : Int) := by omega
      clear hBZ hlow hlb hgm hcase'
      refine (same15_true bl _ _ _ _ Z HOZ.out HPZ.out).mono ?_
      rintro e w14 ⟨rfl, hb14⟩
      have HK14 := Lib.hid hb14
      obtain ⟨q1, r1, z0, z1, l0, l1⟩ : w14.cell? ⟨w5.heap.size, 1, none⟩ = some (.int .i64 bm) ∧ w14.cell? ⟨w6.heap.size, 1, none⟩ = some (.int .i64 bm) ∧ w14.cell? ⟨w11.heap.size, 0, none⟩ = some (.int .i64 ln) ∧ w14.cell? ⟨w11.heap.size, 1, none⟩ = some (.slice A11 la.length c11) ∧ w14.cell? ⟨w12.heap.size, 0, none⟩ = some (.int .i64 ln) ∧ w14.cell? ⟨w12.heap.size, 1, none⟩ = some (.slice A13 la.length c13) := ⟨(HQZ.out.grow hb14).cell 1, (HRZ.out.grow hb14).cell 1, (HZZ.out.grow hb14).cell 0, (HZZ.out.grow hb14).cell 1, (HLOW.out.grow hb14).cell 0, (HLOW.out.grow hb14).cell 1⟩
      clear hb14
      go_wp2_with (first
        | (go_at_call 58; refine (same18Inst_true ln la _ _ _ _ w14 (HBZZ.out.grow HK14.out) (HLB.out.grow HK14.out) (by rw [HLA.out]; exact lowA_small HSM.out)).mono ?_; rintro e w15 ⟨rfl, hb15⟩; have HK15 := Lib.hid (HK14.out.trans (hb15.mono HK14.out.size)); have hst := HSZ.out.grow (HK14.out.trans (hb15.mono HK14.out.size)); obtain ⟨x0, x1, y0, y1⟩ : w15.cell? ⟨w.heap.size, 0, none⟩ = some (.int .i64 n) ∧ w15.cell? ⟨w.heap.size, 1, none⟩ = some (.slice A bs.length cap) ∧ w15.cell? ⟨w2.heap.size, 0, none⟩ = some (.int .i64 n) ∧ w15.cell? ⟨w2.heap.size, 1, none⟩ = some (.slice (some ⟨gy0, 0, none⟩) bs.length cy0) := ⟨hst.x.cell 0, hst.x.cell 1, hst.y.cell 0, hst.y.cell 1⟩; have HS15 := Lib.hid hst; clear hb15 hst HK14 q1 r1 z0 z1 l0 l1)
        | (go_at_call 44; refine (kept_any n bs _ _ _ R w15 HS15.out.l (HB.out.grow HS15.out.b) HSM.out).mono ?_; rintro e w16 ⟨rfl, hb16⟩; have HS16 := Lib.hid (HS15.out.grow hb16); have HK16 := Lib.hid (HK15.out.trans (hb16.mono HK15.out.size)); clear hb16 HK15 HS15 x0 x1 y0 y1)
        | (go_at_call 43; refine (same18_true pay _ _ _ _ w16 HS16.out.sl (HP.out.grow HS16.out.b)).mono ?_; rintro e w17 ⟨rfl, hb17⟩; have HS17 := Lib.hid (HS16.out.grow hb17); have hk17 := HK16.out.trans (hb17.mono HK16.out.size); have g0 : w17.cell? ⟨gm, pay.length, none⟩ = some (.int .i64 4242) := (hk17.cell (p := ⟨gm, pay.length, none⟩) hgml).trans HGM.out; clear hb17 hk17 HK16 HS16)
        | (go_at_call 37; refine (known_any _).mono ?_; rintro e w18 ⟨rfl, hb18⟩; have HB18 := Lib.hid (HS17.out.b.trans (hb18.mono HS17.out.b.size)); clear hb18))
      go_ret
      exact ⟨rfl, HB18.out⟩
end Go.Proofs.Ytcigobiolbojhaa.Vb

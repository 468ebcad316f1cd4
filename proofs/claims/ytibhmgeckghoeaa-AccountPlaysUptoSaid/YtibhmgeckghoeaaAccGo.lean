/- Account: goes. (Printed by tools/gen_goes.py.) -/
import Derived.Test.YtibhmgeckghoeaaAccApp
namespace Go.Proofs.Ytibhmgeckghoeaa.Ac
open Go.RowKit Go.Shelf Go.Maps
open Go.Proofs.Ytibhmgeckghoeaa.Vb
attribute [local go_sem] Oper.semAt_some

set_option maxRecDepth 100000 in
set_option maxHeartbeats 8000000 in
theorem goes_negP {v : Value} {f : Fm} {leave : Int} {g : Nat} {bu sp : Int} {sl : Value} {R : Nat → Prop} {w : World} (h : AtP w v f) (ho : HOk f.M) (hg : Blk w g 75 #[.int .i64 bu, .int .i64 sp, sl]) (hl : Helds w R sl f.M) (hlv : leave ≤ 0) :
    Calls Try.prog 21 #[v, .pointer (some ⟨g, 0, none⟩), .int .i64 leave] w fun e w' => e = .returned (.bool true) ∧ Below w.heap.size w w' := by
  have hln := ho.len
  have hp := h.ptr
  have hs0 : ∃ V, V = (w.alloc (.cells #[.int .i64 leave] 2)).alloc (.cells #[.bool false] 4) := ⟨_, rfl⟩
  obtain ⟨V, hV⟩ := hs0
  have hbV : Below w.heap.size w V := by rw [hV]; exact ((Below.refl _ _).alloc (Nat.le_refl _) _).alloc (by simp) _
  have hsV : w.heap.size + 2 ≤ V.heap.size := by rw [hV]; simp
  have hLb : Blk V w.heap.size 2 #[.int .i64 leave] := by rw [hV]; exact (Blk.new w _ _).alloc _
  have hRb : Blk V (w.heap.size + 1) 4 #[.bool false] := by rw [hV]; exact Blk.new' _ _ (by simp)
  obtain ⟨M, hMM⟩ : ∃ M, M = f.M := ⟨_, rfl⟩
  rw [← hMM] at hl ho hln
  have HL := Lib.hid (hl.grow hbV)
  obtain ⟨⟨_, A, cap, rfl, hncap, hcap, _⟩, _⟩ := hl
  unfold maxLen at hcap
  have HHV := Lib.hid (h.grow hbV)
  have HO := Lib.hid ho
  have HMM := Lib.hid hMM
  have HVV := Lib.hid hV
  have HBV := Lib.hid hbV
  have HLB := Lib.hid hLb
  have HRB := Lib.hid hRb
  have heq := eql_func_nil
  have HG := Lib.hid (hg.grow hbV)
  have c0 : (V.alloc (.cells #[v] 23)).cell? ⟨g, 2, none⟩ = some (.slice A M.length cap) := ((hg.grow hbV).alloc _).cell 2
  have c1 : ((V.alloc (.cells #[v] 23)).alloc (.cells #[.slice none 0 0] 22)).cell? ⟨g, 2, none⟩ = some (.slice A M.length cap) := (((hg.grow hbV).alloc _).alloc _).cell 2
  clear hg
  clear h ho hbV hLb hRb hMM hV
  refine (callsIn_wide (n := 3)).1 (callsIn_of_wp_marks Try.func21 rfl trivial ((wpIn_wide (n := 3)).2 ?_))
  simp only [Try.ntmps21, List.size_toArray, List.length_cons, List.length_nil, Nat.reduceAdd, Nat.reduceSub, Array.replicate_succ, Array.replicate_zero, List.push_toArray, List.append_toArray, List.nil_append, List.cons_append]
  go_wp2_with fail
  rw [← HVV.out]
  refine (all_any hp V).mono ?_
  rintro e w3 ⟨rfl, rfl⟩
  unfold allV
  go_wp2_with fail
  refine wp_loop_rounds 3 ?_
  rw [rounds_succ]
  go_wp2_with fail
  obtain ⟨U0, hU0⟩ : ∃ U, U = ((((V.alloc (.cells #[v] 23)).alloc (.cells #[.slice A M.length cap] 22)).alloc (.cells #[.int .i64 0] 3)).alloc (.cells #[.int .i64 0] 3)) := ⟨_, rfl⟩
  have hbU : Below V.heap.size V U0 := by rw [hU0]; exact ((((Below.refl _ _).alloc (Nat.le_refl _) _).alloc (by simp) _).alloc (by simp; omega) _).alloc (by simp; omega) _
  have hsU : V.heap.size + 4 ≤ U0.heap.size := by rw [hU0]; simp
  have HA0 := Lib.hid (show Blk U0 V.heap.size 23 #[v] from by rw [hU0]; exact (((Blk.new V _ _).alloc _).alloc _).alloc _)
  have HS0 := Lib.hid (show Blk U0 (V.heap.size + 1) 22 #[.slice A M.length cap] from by rw [hU0]; exact ((Blk.new' _ _ (by simp)).alloc _).alloc _)
  have HT0 := Lib.hid (show Blk U0 (V.heap.size + 1 + 1) 3 #[.int .i64 0] from by rw [hU0]; exact (Blk.new' _ _ (by simp)).alloc _)
  have HN0 := Lib.hid (show Blk U0 (V.heap.size + 1 + 1 + 1) 3 #[.int .i64 0] from by rw [hU0]; exact Blk.new' _ _ (by simp))
  have HLv0 := Lib.hid (HLB.out.grow hbU)
  have HR0 := Lib.hid (HRB.out.grow hbU)
  have HB0 := Lib.hid hbU
  have HH0 := Lib.hid (HHV.out.grow hbU)
  rw [← hU0]
  clear hU0 hbU c0 c1
  refine (wpIn_wide (n := 3)).1 ?_
  refine' wpIn_rangeFunc_H (F := Fence.wide) (n := 3) rfl (by omega) (gf := 56) (lb := #[.pointer (some ⟨V.heap.size, 0, none⟩)]) rfl trivial (enters_of Try.func56 (by kernel_rfl) rfl)
    (all1_stops 2 (by omega) V.heap.size v f (by rw [← HMM.out]; exact HO.out.rise) (by rw [← HMM.out]; exact HO.out.len) (fun p hp => by rw [← HMM.out] at hp; have := HO.out.each p hp; omega) U0 (HA0.out.cell 0) HH0.out) (Below.refl _ _) (fun _ => rfl)
    (fun _ pre W => ¬ (1 ≤ leave ∧ leave ≤ (pre.length : Int)) ∧ Chg (· = V.heap.size + 1 + 1 + 1) U0 W ∧ Blk W (V.heap.size + 1 + 1 + 1) 3 #[.int .i64 pre.length])
    (fun _ _ _ _ => False)
    (fun _ => OwnFrom.and (fun _ _ _ _ h _ _ => h) (OwnFrom.and ownFrom_chg (Own.from (fun _ _ _ _ h hg hr => h.cells hg hr) _)))
    (fun _ _ => fun _ _ _ _ h _ _ => h)
    (fun W0 hW0 => ⟨by simp; omega, Chg.of _ hW0, HN0.out.grow hW0⟩) _ ?assign0 ?body0 ?done0 ?stop0
  case assign0 =>
    intro l x W K hK
    gi_wp2
    exact hK
  case body0 =>
    rintro hi l' pre x W hhi ⟨hnl, hC, hN⟩ hsp hlt
    rw [← HMM.out] at hsp hlt
    have hat := prefix_at hsp
    have hsW := hC.size
    obtain ⟨bq, off, hA, hbq, q0', q1'⟩ := HL.out.at_ hat
    subst hA
    have q0 : W.cell? ⟨bq, off + pre.length * 2, none⟩ = some (.int .i64 x.1) := (World.cell?_of_block (a := ⟨bq, off + pre.length * 2, none⟩) (hC.block bq (by omega) (by omega))).trans ((HB0.out.cell (p := ⟨bq, off + pre.length * 2, none⟩) hbq).trans q0')
    have q1 : W.cell? ⟨bq, off + pre.length * 2 + 1, none⟩ = some (.int .i64 x.2) := (World.cell?_of_block (a := ⟨bq, off + pre.length * 2 + 1, none⟩) (hC.block bq (by omega) (by omega))).trans ((HB0.out.cell (p := ⟨bq, off + pre.length * 2 + 1, none⟩) hbq).trans q1')
    have n0 : W.cell? ⟨V.heap.size + 1 + 1 + 1, 0, none⟩ = some (.int .i64 (pre.length : Int)) := hN.cell 0
    have n1 : W.frozen? ⟨V.heap.size + 1 + 1 + 1, 0, none⟩ = false := hN.frozen 0
    have s0 : W.cell? ⟨V.heap.size + 1, 0, none⟩ = some (.slice (some ⟨bq, off, none⟩) M.length cap) := (HS0.out.chg hC (by omega)).cell 0
    have t0 : W.cell? ⟨V.heap.size + 1 + 1, 0, none⟩ = some (.int .i64 0) := (HT0.out.chg hC (by omega)).cell 0
    have lv : W.cell? ⟨w.heap.size, 0, none⟩ = some (.int .i64 leave) := (HLv0.out.chg hC (by omega)).cell 0
    obtain ⟨xa, xb⟩ := x
    simp only at q0 q1
    have hlen : pre.length < M.length := hlt
    have e0 : (0 : Int) ≤ (pre.length : Int) := by omega
    have e1 : (pre.length : Int) < (M.length : Int) := by omega
    have e2 : decide ((M.length : Int) ≤ (pre.length : Int)) = false := by simp; omega
    have e3 : IntKind.i64.wrap ((pre.length : Int) + 1) = (pre.length : Int) + 1 := IntWalk.i64_in _ (by omega)
    have HN := Lib.hid hN
    have HC := Lib.hid hC
    clear hat hsp hC hN q0' q1'
    dsimp only
    have d1 : ((pre.length : Int) + 1 == leave) = false := by simp; omega
    gi_wp2
    exact ⟨KeepsOthers.setCell _ _ _, KeepR.set W (.inl (by simp; omega)) _, by simp; omega, (HC.out).step (Chg.set W ⟨V.heap.size + 1 + 1 + 1, 0, none⟩ _) (fun _ _ e => e), by rw [List.length_append]; exact HN.out.set_ 0 (.int .i64 ((pre.length : Int) + 1))⟩
  case stop0 =>
    rintro hi D c pre W hD hpre2 hf hK
    exact hf.elim
  case done0 =>
    rintro hi D ys W hD hys ⟨hnl, hC, hN⟩ hK
    rw [← HMM.out] at hys
    obtain rfl := hys.symm
    have hsW := hC.size
    have hRW := HR0.out.chg hC (by omega)
    have hLW := HLv0.out.chg hC (by omega)
    have hTW := HT0.out.chg hC (by omega)
    have hSW := HS0.out.chg hC (by omega)
    have hAW := HA0.out.chg hC (by omega)
    have hbW : Below V.heap.size V W := HB0.out.trans (hC.below (by omega) (fun k hk e => by omega))
    have hHW := HHV.out.grow hbW
    have n0 : W.cell? ⟨V.heap.size + 1 + 1 + 1, 0, none⟩ = some (.int .i64 (M.length : Int)) := hN.cell 0
    have t0 : W.cell? ⟨V.heap.size + 1 + 1, 0, none⟩ = some (.int .i64 0) := hTW.cell 0
    have v0 : W.cell? ⟨w.heap.size, 0, none⟩ = some (.int .i64 leave) := hLW.cell 0
    have s0 : W.cell? ⟨V.heap.size + 1, 0, none⟩ = some (.slice A M.length cap) := hSW.cell 0
    have d1 : decide (0 < leave) = false := by simp; omega
    have d2 : decide (leave ≤ 0) = true := by simp; omega
    have HRW := Lib.hid hRW
    have HLW := Lib.hid hLW
    have HTW := Lib.hid hTW
    have HSW := Lib.hid hSW
    have HAW := Lib.hid hAW
    have HBW := Lib.hid hbW
    have HHW := Lib.hid hHW
    have HK := Lib.hid hK
    clear hRW hLW hTW hSW hAW hbW hHW hK hC hN
    go_wp2_with fail
    rw [rounds_succ]
    go_wp2_with fail
    obtain ⟨U1, hU1⟩ : ∃ U, U = ((W.alloc (.cells #[.int .i64 1] 3)).alloc (.cells #[.int .i64 0] 3)) := ⟨_, rfl⟩
    have hb1 : Below W.heap.size W U1 := by rw [hU1]; exact ((Below.refl _ _).alloc (Nat.le_refl _) _).alloc (by simp) _
    have hsU1 : W.heap.size + 2 ≤ U1.heap.size := by rw [hU1]; simp
    have HA1 := Lib.hid (HAW.out.grow hb1)
    have HS1 := Lib.hid (HSW.out.grow hb1)
    have HLv1 := Lib.hid (HLW.out.grow hb1)
    have HR1 := Lib.hid (HRW.out.grow hb1)
    have HT1 := Lib.hid (show Blk U1 W.heap.size 3 #[.int .i64 1] from by rw [hU1]; exact (Blk.new W _ _).alloc _)
    have HN1 := Lib.hid (show Blk U1 (W.heap.size + 1) 3 #[.int .i64 0] from by rw [hU1]; exact Blk.new' _ _ (by simp))
    have HB1 := Lib.hid (HBW.out.trans (hb1.mono HBW.out.size))
    have HH1 := Lib.hid (HHW.out.grow hb1)
    have hDW := (Array.getElem?_eq_some_iff.1 HK.out).1
    have HK1 := Lib.hid (show U1.heap[D]? = some (.deferred (some [])) from (hb1.block D hDW).trans HK.out)
    rw [← hU1]
    clear hU1 hb1 n0 t0 v0 s0
    refine (wpIn_wide (n := 3)).1 ?_
    refine' wpIn_rangeFunc_H (F := Fence.wide) (n := 3) rfl (by omega) (gf := 56) (lb := #[.pointer (some ⟨V.heap.size, 0, none⟩)]) rfl trivial (enters_of Try.func56 (by kernel_rfl) rfl)
      (all1_stops 2 (by omega) V.heap.size v f (by rw [← HMM.out]; exact HO.out.rise) (by rw [← HMM.out]; exact HO.out.len) (fun p hp => by rw [← HMM.out] at hp; have := HO.out.each p hp; omega) U1 (HA1.out.cell 0) HH1.out) (Below.refl _ _) (fun _ => rfl)
      (fun _ pre W1 => Chg (· = W.heap.size + 1) U1 W1 ∧ Blk W1 (W.heap.size + 1) 3 #[.int .i64 pre.length])
      (fun _ _ _ _ => False)
      (fun _ => OwnFrom.and ownFrom_chg (Own.from (fun _ _ _ _ h hg hr => h.cells hg hr) _))
      (fun _ _ => fun _ _ _ _ h _ _ => h)
      (fun W0 hW0 => ⟨Chg.of _ hW0, HN1.out.grow hW0⟩) _ ?assign1 ?body1 ?done1 ?stop1
    case assign1 =>
      intro l x W1 K hK
      gi_wp2
      exact hK
    case body1 =>
      rintro hi l' pre x W1 hhi ⟨hC, hN⟩ hsp hlt
      rw [← HMM.out] at hsp hlt
      have hat := prefix_at hsp
      have hsW := hC.size
      obtain ⟨bq, off, hA, hbq, q0', q1'⟩ := HL.out.at_ hat
      subst hA
      have q0 : W1.cell? ⟨bq, off + pre.length * 2, none⟩ = some (.int .i64 x.1) := (World.cell?_of_block (a := ⟨bq, off + pre.length * 2, none⟩) (hC.block bq (by omega) (by omega))).trans ((HB1.out.cell (p := ⟨bq, off + pre.length * 2, none⟩) hbq).trans q0')
      have q1 : W1.cell? ⟨bq, off + pre.length * 2 + 1, none⟩ = some (.int .i64 x.2) := (World.cell?_of_block (a := ⟨bq, off + pre.length * 2 + 1, none⟩) (hC.block bq (by omega) (by omega))).trans ((HB1.out.cell (p := ⟨bq, off + pre.length * 2 + 1, none⟩) hbq).trans q1')
      have n0 : W1.cell? ⟨W.heap.size + 1, 0, none⟩ = some (.int .i64 (pre.length : Int)) := hN.cell 0
      have n1 : W1.frozen? ⟨W.heap.size + 1, 0, none⟩ = false := hN.frozen 0
      have s0 : W1.cell? ⟨V.heap.size + 1, 0, none⟩ = some (.slice (some ⟨bq, off, none⟩) M.length cap) := (HS1.out.chg hC (by omega)).cell 0
      have t0 : W1.cell? ⟨W.heap.size, 0, none⟩ = some (.int .i64 1) := (HT1.out.chg hC (by omega)).cell 0
      have lv : W1.cell? ⟨w.heap.size, 0, none⟩ = some (.int .i64 leave) := (HLv1.out.chg hC (by omega)).cell 0
      obtain ⟨xa, xb⟩ := x
      simp only at q0 q1
      have hlen : pre.length < M.length := hlt
      have e0 : (0 : Int) ≤ (pre.length : Int) := by omega
      have e1 : (pre.length : Int) < (M.length : Int) := by omega
      have e2 : decide ((M.length : Int) ≤ (pre.length : Int)) = false := by simp; omega
      have e3 : IntKind.i64.wrap ((pre.length : Int) + 1) = (pre.length : Int) + 1 := IntWalk.i64_in _ (by omega)
      have HN := Lib.hid hN
      have HC := Lib.hid hC
      clear hat hsp hC hN q0' q1'
      dsimp only
      gi_wp2
      exact ⟨KeepsOthers.setCell _ _ _, KeepR.set W1 (.inl (by simp; omega)) _, (HC.out).step (Chg.set W1 ⟨W.heap.size + 1, 0, none⟩ _) (fun _ _ e => e), by rw [List.length_append]; exact HN.out.set_ 0 (.int .i64 ((pre.length : Int) + 1))⟩
    case stop1 =>
      rintro hi1 D1 c1 pre1 W1 hD1 hpre2 hf hK1
      exact hf.elim
    case done1 =>
      rintro hi1 D1 ys1 W1 hD1 hys1 ⟨hC1, hN1⟩ hK1
      rw [← HMM.out] at hys1
      obtain rfl := hys1.symm
      have n0 : W1.cell? ⟨W.heap.size + 1, 0, none⟩ = some (.int .i64 (M.length : Int)) := hN1.cell 0
      have t0 : W1.cell? ⟨W.heap.size, 0, none⟩ = some (.int .i64 1) := (HT1.out.chg hC1 (by omega)).cell 0
      have v0 : W1.cell? ⟨w.heap.size, 0, none⟩ = some (.int .i64 leave) := (HLv1.out.chg hC1 (by omega)).cell 0
      have s0 : W1.cell? ⟨V.heap.size + 1, 0, none⟩ = some (.slice A M.length cap) := (HS1.out.chg hC1 (by omega)).cell 0
      have hRX := (HR1.out.chg hC1 (by omega)).alloc (.cells #[.int .i64 2] 3)
      have r0 : (W1.alloc (.cells #[.int .i64 2] 3)).cell? ⟨w.heap.size + 1, 0, none⟩ = some (.bool false) := hRX.cell 0
      have r1 : (W1.alloc (.cells #[.int .i64 2] 3)).frozen? ⟨w.heap.size + 1, 0, none⟩ = false := hRX.frozen 0
      have hb1 : Below V.heap.size V W1 := HB1.out.trans (hC1.below (by omega) (fun k hk e => by omega))
      have HBB := Lib.hid ((HBV.out.trans (hb1.mono HBV.out.size)).alloc (by have := HBV.out.size; have := hb1.size; omega) (.cells #[.int .i64 2] 3))
      have hDne : D ≠ W.heap.size + 1 := by omega
      have hDU := (Array.getElem?_eq_some_iff.1 HK1.out).1
      have HKa := Lib.hid ((Below.heap_alloc W1 (.cells #[.int .i64 2] 3) D (by have := hC1.size; omega)).trans ((hC1.block D hDU hDne).trans HK1.out))
      have HKb := Lib.hid ((Below.heap_alloc W1 (.cells #[.int .i64 2] 3) D1 (Array.getElem?_eq_some_iff.1 hK1).1).trans hK1)
      have HR0 := Lib.hid r0
      clear hC1 hN1 hK1 hRX hb1
      go_wp2_with fail
      rw [rounds_succ]
      go_wp2_with fail
      have k1 := (KeepsOthers.setCell (W1.alloc (.cells #[.int .i64 2] 3)) ⟨w.heap.size + 1, 0, none⟩ (.bool true)).same D1 _ HKb.out rfl
      have k0 := (KeepsOthers.setCell (W1.alloc (.cells #[.int .i64 2] 3)) ⟨w.heap.size + 1, 0, none⟩ (.bool true)).same D _ HKa.out rfl
      have k0' := (World.putObj_heap_other (o := .deferred none) (show D ≠ D1 by omega)).trans k0
      have hc5 := cell_kept (World.cell?_setCell_same' (W1.alloc (.cells #[.int .i64 2] 3)) ⟨w.heap.size + 1, 0, none⟩ (.bool true) (by rw [HR0.out]; rfl)) (grownBy_putObj' _ D1 (.deferred none)) (fun r e => by cases e; exact ⟨_, k1, rfl⟩)
      have hc6 := cell_kept hc5 (grownBy_putObj' _ D (.deferred none)) (fun r e => by cases e; exact ⟨_, k0', rfl⟩)
      refine ⟨by simp, .inl ⟨_, _, rfl, run_takeDeferred k1, by simp, .inl ⟨_, _, rfl, run_takeDeferred k0', ?_⟩⟩⟩
      exact ⟨.bool true, by simp [results, Try.results21, go_sem, hc6], rfl, ((HBB.out.setCell (p := ⟨w.heap.size + 1, 0, none⟩) (by simp) _).trans (belowK_b (w := w) (Nat.le_refl _) _ D1 _ _ (by have := HBV.out.size; omega) k1 rfl rfl)).trans (belowK_b (w := w) (Nat.le_refl _) _ D _ _ (by have := HBV.out.size; omega) k0' rfl rfl)⟩

set_option maxRecDepth 100000 in
set_option maxHeartbeats 8000000 in
theorem goes_bigP {v : Value} {f : Fm} {leave : Int} {g : Nat} {bu sp : Int} {sl : Value} {R : Nat → Prop} {w : World} (h : AtP w v f) (ho : HOk f.M) (hg : Blk w g 75 #[.int .i64 bu, .int .i64 sp, sl]) (hl : Helds w R sl f.M) (hlv : 0 < leave ∧ (f.M.length : Int) < leave) :
    Calls Try.prog 21 #[v, .pointer (some ⟨g, 0, none⟩), .int .i64 leave] w fun e w' => e = .returned (.bool true) ∧ Below w.heap.size w w' := by
  have hln := ho.len
  have hp := h.ptr
  have hs0 : ∃ V, V = (w.alloc (.cells #[.int .i64 leave] 2)).alloc (.cells #[.bool false] 4) := ⟨_, rfl⟩
  obtain ⟨V, hV⟩ := hs0
  have hbV : Below w.heap.size w V := by rw [hV]; exact ((Below.refl _ _).alloc (Nat.le_refl _) _).alloc (by simp) _
  have hsV : w.heap.size + 2 ≤ V.heap.size := by rw [hV]; simp
  have hLb : Blk V w.heap.size 2 #[.int .i64 leave] := by rw [hV]; exact (Blk.new w _ _).alloc _
  have hRb : Blk V (w.heap.size + 1) 4 #[.bool false] := by rw [hV]; exact Blk.new' _ _ (by simp)
  obtain ⟨M, hMM⟩ : ∃ M, M = f.M := ⟨_, rfl⟩
  rw [← hMM] at hl ho hln hlv
  have HL := Lib.hid (hl.grow hbV)
  obtain ⟨⟨_, A, cap, rfl, hncap, hcap, _⟩, _⟩ := hl
  unfold maxLen at hcap
  have HHV := Lib.hid (h.grow hbV)
  have HO := Lib.hid ho
  have HMM := Lib.hid hMM
  have HVV := Lib.hid hV
  have HBV := Lib.hid hbV
  have HLB := Lib.hid hLb
  have HRB := Lib.hid hRb
  have heq := eql_func_nil
  have HG := Lib.hid (hg.grow hbV)
  have c0 : (V.alloc (.cells #[v] 23)).cell? ⟨g, 2, none⟩ = some (.slice A M.length cap) := ((hg.grow hbV).alloc _).cell 2
  have c1 : ((V.alloc (.cells #[v] 23)).alloc (.cells #[.slice none 0 0] 22)).cell? ⟨g, 2, none⟩ = some (.slice A M.length cap) := (((hg.grow hbV).alloc _).alloc _).cell 2
  clear hg
  clear h ho hbV hLb hRb hMM hV
  refine (callsIn_wide (n := 3)).1 (callsIn_of_wp_marks Try.func21 rfl trivial ((wpIn_wide (n := 3)).2 ?_))
  simp only [Try.ntmps21, List.size_toArray, List.length_cons, List.length_nil, Nat.reduceAdd, Nat.reduceSub, Array.replicate_succ, Array.replicate_zero, List.push_toArray, List.append_toArray, List.nil_append, List.cons_append]
  go_wp2_with fail
  rw [← HVV.out]
  refine (all_any hp V).mono ?_
  rintro e w3 ⟨rfl, rfl⟩
  unfold allV
  go_wp2_with fail
  refine wp_loop_rounds 3 ?_
  rw [rounds_succ]
  go_wp2_with fail
  obtain ⟨U0, hU0⟩ : ∃ U, U = ((((V.alloc (.cells #[v] 23)).alloc (.cells #[.slice A M.length cap] 22)).alloc (.cells #[.int .i64 0] 3)).alloc (.cells #[.int .i64 0] 3)) := ⟨_, rfl⟩
  have hbU : Below V.heap.size V U0 := by rw [hU0]; exact ((((Below.refl _ _).alloc (Nat.le_refl _) _).alloc (by simp) _).alloc (by simp; omega) _).alloc (by simp; omega) _
  have hsU : V.heap.size + 4 ≤ U0.heap.size := by rw [hU0]; simp
  have HA0 := Lib.hid (show Blk U0 V.heap.size 23 #[v] from by rw [hU0]; exact (((Blk.new V _ _).alloc _).alloc _).alloc _)
  have HS0 := Lib.hid (show Blk U0 (V.heap.size + 1) 22 #[.slice A M.length cap] from by rw [hU0]; exact ((Blk.new' _ _ (by simp)).alloc _).alloc _)
  have HT0 := Lib.hid (show Blk U0 (V.heap.size + 1 + 1) 3 #[.int .i64 0] from by rw [hU0]; exact (Blk.new' _ _ (by simp)).alloc _)
  have HN0 := Lib.hid (show Blk U0 (V.heap.size + 1 + 1 + 1) 3 #[.int .i64 0] from by rw [hU0]; exact Blk.new' _ _ (by simp))
  have HLv0 := Lib.hid (HLB.out.grow hbU)
  have HR0 := Lib.hid (HRB.out.grow hbU)
  have HB0 := Lib.hid hbU
  have HH0 := Lib.hid (HHV.out.grow hbU)
  rw [← hU0]
  clear hU0 hbU c0 c1
  refine (wpIn_wide (n := 3)).1 ?_
  refine' wpIn_rangeFunc_H (F := Fence.wide) (n := 3) rfl (by omega) (gf := 56) (lb := #[.pointer (some ⟨V.heap.size, 0, none⟩)]) rfl trivial (enters_of Try.func56 (by kernel_rfl) rfl)
    (all1_stops 2 (by omega) V.heap.size v f (by rw [← HMM.out]; exact HO.out.rise) (by rw [← HMM.out]; exact HO.out.len) (fun p hp => by rw [← HMM.out] at hp; have := HO.out.each p hp; omega) U0 (HA0.out.cell 0) HH0.out) (Below.refl _ _) (fun _ => rfl)
    (fun _ pre W => ¬ (1 ≤ leave ∧ leave ≤ (pre.length : Int)) ∧ Chg (· = V.heap.size + 1 + 1 + 1) U0 W ∧ Blk W (V.heap.size + 1 + 1 + 1) 3 #[.int .i64 pre.length])
    (fun _ _ _ _ => False)
    (fun _ => OwnFrom.and (fun _ _ _ _ h _ _ => h) (OwnFrom.and ownFrom_chg (Own.from (fun _ _ _ _ h hg hr => h.cells hg hr) _)))
    (fun _ _ => fun _ _ _ _ h _ _ => h)
    (fun W0 hW0 => ⟨by simp; omega, Chg.of _ hW0, HN0.out.grow hW0⟩) _ ?assign0 ?body0 ?done0 ?stop0
  case assign0 =>
    intro l x W K hK
    gi_wp2
    exact hK
  case body0 =>
    rintro hi l' pre x W hhi ⟨hnl, hC, hN⟩ hsp hlt
    rw [← HMM.out] at hsp hlt
    have hat := prefix_at hsp
    have hsW := hC.size
    obtain ⟨bq, off, hA, hbq, q0', q1'⟩ := HL.out.at_ hat
    subst hA
    have q0 : W.cell? ⟨bq, off + pre.length * 2, none⟩ = some (.int .i64 x.1) := (World.cell?_of_block (a := ⟨bq, off + pre.length * 2, none⟩) (hC.block bq (by omega) (by omega))).trans ((HB0.out.cell (p := ⟨bq, off + pre.length * 2, none⟩) hbq).trans q0')
    have q1 : W.cell? ⟨bq, off + pre.length * 2 + 1, none⟩ = some (.int .i64 x.2) := (World.cell?_of_block (a := ⟨bq, off + pre.length * 2 + 1, none⟩) (hC.block bq (by omega) (by omega))).trans ((HB0.out.cell (p := ⟨bq, off + pre.length * 2 + 1, none⟩) hbq).trans q1')
    have n0 : W.cell? ⟨V.heap.size + 1 + 1 + 1, 0, none⟩ = some (.int .i64 (pre.length : Int)) := hN.cell 0
    have n1 : W.frozen? ⟨V.heap.size + 1 + 1 + 1, 0, none⟩ = false := hN.frozen 0
    have s0 : W.cell? ⟨V.heap.size + 1, 0, none⟩ = some (.slice (some ⟨bq, off, none⟩) M.length cap) := (HS0.out.chg hC (by omega)).cell 0
    have t0 : W.cell? ⟨V.heap.size + 1 + 1, 0, none⟩ = some (.int .i64 0) := (HT0.out.chg hC (by omega)).cell 0
    have lv : W.cell? ⟨w.heap.size, 0, none⟩ = some (.int .i64 leave) := (HLv0.out.chg hC (by omega)).cell 0
    obtain ⟨xa, xb⟩ := x
    simp only at q0 q1
    have hlen : pre.length < M.length := hlt
    have e0 : (0 : Int) ≤ (pre.length : Int) := by omega
    have e1 : (pre.length : Int) < (M.length : Int) := by omega
    have e2 : decide ((M.length : Int) ≤ (pre.length : Int)) = false := by simp; omega
    have e3 : IntKind.i64.wrap ((pre.length : Int) + 1) = (pre.length : Int) + 1 := IntWalk.i64_in _ (by omega)
    have HN := Lib.hid hN
    have HC := Lib.hid hC
    clear hat hsp hC hN q0' q1'
    dsimp only
    have d1 : ((pre.length : Int) + 1 == leave) = false := by simp; omega
    gi_wp2
    exact ⟨KeepsOthers.setCell _ _ _, KeepR.set W (.inl (by simp; omega)) _, by simp; omega, (HC.out).step (Chg.set W ⟨V.heap.size + 1 + 1 + 1, 0, none⟩ _) (fun _ _ e => e), by rw [List.length_append]; exact HN.out.set_ 0 (.int .i64 ((pre.length : Int) + 1))⟩
  case stop0 =>
    rintro hi D c pre W hD hpre2 hf hK
    exact hf.elim
  case done0 =>
    rintro hi D ys W hD hys ⟨hnl, hC, hN⟩ hK
    rw [← HMM.out] at hys
    obtain rfl := hys.symm
    have hsW := hC.size
    have hRW := HR0.out.chg hC (by omega)
    have hLW := HLv0.out.chg hC (by omega)
    have hTW := HT0.out.chg hC (by omega)
    have hSW := HS0.out.chg hC (by omega)
    have hAW := HA0.out.chg hC (by omega)
    have hbW : Below V.heap.size V W := HB0.out.trans (hC.below (by omega) (fun k hk e => by omega))
    have hHW := HHV.out.grow hbW
    have n0 : W.cell? ⟨V.heap.size + 1 + 1 + 1, 0, none⟩ = some (.int .i64 (M.length : Int)) := hN.cell 0
    have t0 : W.cell? ⟨V.heap.size + 1 + 1, 0, none⟩ = some (.int .i64 0) := hTW.cell 0
    have v0 : W.cell? ⟨w.heap.size, 0, none⟩ = some (.int .i64 leave) := hLW.cell 0
    have s0 : W.cell? ⟨V.heap.size + 1, 0, none⟩ = some (.slice A M.length cap) := hSW.cell 0
    have hl1 := hlv.1
    have hl2 := hlv.2
    clear hlv
    have d1 : decide (0 < leave) = true := by simp; omega
    have d2 : decide (leave ≤ 0) = false := by simp; omega
    have hmin : ∀ (ts : Array TypeId) (ty : TypeId) (W : World), (Builtin.min_ ts ty #[.int .i64 leave, .int .i64 (M.length : Int)]).run Try.prog W = .ok (.int .i64 (M.length : Int)) W := fun ts ty W => by
      rw [run_min_int2]
      rw [if_pos (by omega)]
    have HL1 := Lib.hid hl1
    have HL2 := Lib.hid hl2
    clear hl1 hl2
    have HRW := Lib.hid hRW
    have HLW := Lib.hid hLW
    have HTW := Lib.hid hTW
    have HSW := Lib.hid hSW
    have HAW := Lib.hid hAW
    have HBW := Lib.hid hbW
    have HHW := Lib.hid hHW
    have HK := Lib.hid hK
    clear hRW hLW hTW hSW hAW hbW hHW hK hC hN
    go_wp2_with fail
    rw [rounds_succ]
    go_wp2_with fail
    obtain ⟨U1, hU1⟩ : ∃ U, U = ((W.alloc (.cells #[.int .i64 1] 3)).alloc (.cells #[.int .i64 0] 3)) := ⟨_, rfl⟩
    have hb1 : Below W.heap.size W U1 := by rw [hU1]; exact ((Below.refl _ _).alloc (Nat.le_refl _) _).alloc (by simp) _
    have hsU1 : W.heap.size + 2 ≤ U1.heap.size := by rw [hU1]; simp
    have HA1 := Lib.hid (HAW.out.grow hb1)
    have HS1 := Lib.hid (HSW.out.grow hb1)
    have HLv1 := Lib.hid (HLW.out.grow hb1)
    have HR1 := Lib.hid (HRW.out.grow hb1)
    have HT1 := Lib.hid (show Blk U1 W.heap.size 3 #[.int .i64 1] from by rw [hU1]; exact (Blk.new W _ _).alloc _)
    have HN1 := Lib.hid (show Blk U1 (W.heap.size + 1) 3 #[.int .i64 0] from by rw [hU1]; exact Blk.new' _ _ (by simp))
    have HB1 := Lib.hid (HBW.out.trans (hb1.mono HBW.out.size))
    have HH1 := Lib.hid (HHW.out.grow hb1)
    have hDW := (Array.getElem?_eq_some_iff.1 HK.out).1
    have HK1 := Lib.hid (show U1.heap[D]? = some (.deferred (some [])) from (hb1.block D hDW).trans HK.out)
    rw [← hU1]
    clear hU1 hb1 n0 t0 v0 s0
    refine (wpIn_wide (n := 3)).1 ?_
    refine' wpIn_rangeFunc_H (F := Fence.wide) (n := 3) rfl (by omega) (gf := 56) (lb := #[.pointer (some ⟨V.heap.size, 0, none⟩)]) rfl trivial (enters_of Try.func56 (by kernel_rfl) rfl)
      (all1_stops 2 (by omega) V.heap.size v f (by rw [← HMM.out]; exact HO.out.rise) (by rw [← HMM.out]; exact HO.out.len) (fun p hp => by rw [← HMM.out] at hp; have := HO.out.each p hp; omega) U1 (HA1.out.cell 0) HH1.out) (Below.refl _ _) (fun _ => rfl)
      (fun _ pre W1 => Chg (· = W.heap.size + 1) U1 W1 ∧ Blk W1 (W.heap.size + 1) 3 #[.int .i64 pre.length])
      (fun _ _ _ _ => False)
      (fun _ => OwnFrom.and ownFrom_chg (Own.from (fun _ _ _ _ h hg hr => h.cells hg hr) _))
      (fun _ _ => fun _ _ _ _ h _ _ => h)
      (fun W0 hW0 => ⟨Chg.of _ hW0, HN1.out.grow hW0⟩) _ ?assign1 ?body1 ?done1 ?stop1
    case assign1 =>
      intro l x W1 K hK
      gi_wp2
      exact hK
    case body1 =>
      rintro hi l' pre x W1 hhi ⟨hC, hN⟩ hsp hlt
      rw [← HMM.out] at hsp hlt
      have hat := prefix_at hsp
      have hsW := hC.size
      obtain ⟨bq, off, hA, hbq, q0', q1'⟩ := HL.out.at_ hat
      subst hA
      have q0 : W1.cell? ⟨bq, off + pre.length * 2, none⟩ = some (.int .i64 x.1) := (World.cell?_of_block (a := ⟨bq, off + pre.length * 2, none⟩) (hC.block bq (by omega) (by omega))).trans ((HB1.out.cell (p := ⟨bq, off + pre.length * 2, none⟩) hbq).trans q0')
      have q1 : W1.cell? ⟨bq, off + pre.length * 2 + 1, none⟩ = some (.int .i64 x.2) := (World.cell?_of_block (a := ⟨bq, off + pre.length * 2 + 1, none⟩) (hC.block bq (by omega) (by omega))).trans ((HB1.out.cell (p := ⟨bq, off + pre.length * 2 + 1, none⟩) hbq).trans q1')
      have n0 : W1.cell? ⟨W.heap.size + 1, 0, none⟩ = some (.int .i64 (pre.length : Int)) := hN.cell 0
      have n1 : W1.frozen? ⟨W.heap.size + 1, 0, none⟩ = false := hN.frozen 0
      have s0 : W1.cell? ⟨V.heap.size + 1, 0, none⟩ = some (.slice (some ⟨bq, off, none⟩) M.length cap) := (HS1.out.chg hC (by omega)).cell 0
      have t0 : W1.cell? ⟨W.heap.size, 0, none⟩ = some (.int .i64 1) := (HT1.out.chg hC (by omega)).cell 0
      have lv : W1.cell? ⟨w.heap.size, 0, none⟩ = some (.int .i64 leave) := (HLv1.out.chg hC (by omega)).cell 0
      obtain ⟨xa, xb⟩ := x
      simp only at q0 q1
      have hlen : pre.length < M.length := hlt
      have e0 : (0 : Int) ≤ (pre.length : Int) := by omega
      have e1 : (pre.length : Int) < (M.length : Int) := by omega
      have e2 : decide ((M.length : Int) ≤ (pre.length : Int)) = false := by simp; omega
      have e3 : IntKind.i64.wrap ((pre.length : Int) + 1) = (pre.length : Int) + 1 := IntWalk.i64_in _ (by omega)
      have HN := Lib.hid hN
      have HC := Lib.hid hC
      clear hat hsp hC hN q0' q1'
      dsimp only
      gi_wp2
      exact ⟨KeepsOthers.setCell _ _ _, KeepR.set W1 (.inl (by simp; omega)) _, (HC.out).step (Chg.set W1 ⟨W.heap.size + 1, 0, none⟩ _) (fun _ _ e => e), by rw [List.length_append]; exact HN.out.set_ 0 (.int .i64 ((pre.length : Int) + 1))⟩
    case stop1 =>
      rintro hi1 D1 c1 pre1 W1 hD1 hpre2 hf hK1
      exact hf.elim
    case done1 =>
      rintro hi1 D1 ys1 W1 hD1 hys1 ⟨hC1, hN1⟩ hK1
      rw [← HMM.out] at hys1
      obtain rfl := hys1.symm
      have n0 : W1.cell? ⟨W.heap.size + 1, 0, none⟩ = some (.int .i64 (M.length : Int)) := hN1.cell 0
      have t0 : W1.cell? ⟨W.heap.size, 0, none⟩ = some (.int .i64 1) := (HT1.out.chg hC1 (by omega)).cell 0
      have v0 : W1.cell? ⟨w.heap.size, 0, none⟩ = some (.int .i64 leave) := (HLv1.out.chg hC1 (by omega)).cell 0
      have s0 : W1.cell? ⟨V.heap.size + 1, 0, none⟩ = some (.slice A M.length cap) := (HS1.out.chg hC1 (by omega)).cell 0
      have hRX := (HR1.out.chg hC1 (by omega)).alloc (.cells #[.int .i64 2] 3)
      have r0 : (W1.alloc (.cells #[.int .i64 2] 3)).cell? ⟨w.heap.size + 1, 0, none⟩ = some (.bool false) := hRX.cell 0
      have r1 : (W1.alloc (.cells #[.int .i64 2] 3)).frozen? ⟨w.heap.size + 1, 0, none⟩ = false := hRX.frozen 0
      have hb1 : Below V.heap.size V W1 := HB1.out.trans (hC1.below (by omega) (fun k hk e => by omega))
      have HBB := Lib.hid ((HBV.out.trans (hb1.mono HBV.out.size)).alloc (by have := HBV.out.size; have := hb1.size; omega) (.cells #[.int .i64 2] 3))
      have hDne : D ≠ W.heap.size + 1 := by omega
      have hDU := (Array.getElem?_eq_some_iff.1 HK1.out).1
      have HKa := Lib.hid ((Below.heap_alloc W1 (.cells #[.int .i64 2] 3) D (by have := hC1.size; omega)).trans ((hC1.block D hDU hDne).trans HK1.out))
      have HKb := Lib.hid ((Below.heap_alloc W1 (.cells #[.int .i64 2] 3) D1 (Array.getElem?_eq_some_iff.1 hK1).1).trans hK1)
      have HR0 := Lib.hid r0
      clear hC1 hN1 hK1 hRX hb1
      go_wp2_with fail
      rw [rounds_succ]
      go_wp2_with fail
      have k1 := (KeepsOthers.setCell (W1.alloc (.cells #[.int .i64 2] 3)) ⟨w.heap.size + 1, 0, none⟩ (.bool true)).same D1 _ HKb.out rfl
      have k0 := (KeepsOthers.setCell (W1.alloc (.cells #[.int .i64 2] 3)) ⟨w.heap.size + 1, 0, none⟩ (.bool true)).same D _ HKa.out rfl
      have k0' := (World.putObj_heap_other (o := .deferred none) (show D ≠ D1 by omega)).trans k0
      have hc5 := cell_kept (World.cell?_setCell_same' (W1.alloc (.cells #[.int .i64 2] 3)) ⟨w.heap.size + 1, 0, none⟩ (.bool true) (by rw [HR0.out]; rfl)) (grownBy_putObj' _ D1 (.deferred none)) (fun r e => by cases e; exact ⟨_, k1, rfl⟩)
      have hc6 := cell_kept hc5 (grownBy_putObj' _ D (.deferred none)) (fun r e => by cases e; exact ⟨_, k0', rfl⟩)
      refine ⟨by simp, .inl ⟨_, _, rfl, run_takeDeferred k1, by simp, .inl ⟨_, _, rfl, run_takeDeferred k0', ?_⟩⟩⟩
      exact ⟨.bool true, by simp [results, Try.results21, go_sem, hc6], rfl, ((HBB.out.setCell (p := ⟨w.heap.size + 1, 0, none⟩) (by simp) _).trans (belowK_b (w := w) (Nat.le_refl _) _ D1 _ _ (by have := HBV.out.size; omega) k1 rfl rfl)).trans (belowK_b (w := w) (Nat.le_refl _) _ D _ _ (by have := HBV.out.size; omega) k0' rfl rfl)⟩

set_option maxRecDepth 100000 in
set_option maxHeartbeats 8000000 in
theorem goes_nearP {v : Value} {f : Fm} {leave : Int} {g : Nat} {bu sp : Int} {sl : Value} {R : Nat → Prop} {w : World} (h : AtP w v f) (ho : HOk f.M) (hg : Blk w g 75 #[.int .i64 bu, .int .i64 sp, sl]) (hl : Helds w R sl f.M) (hlv : 1 ≤ leave ∧ leave ≤ (f.M.length : Int)) :
    Calls Try.prog 21 #[v, .pointer (some ⟨g, 0, none⟩), .int .i64 leave] w fun e w' => e = .returned (.bool true) ∧ Below w.heap.size w w' := by
  have hln := ho.len
  have hp := h.ptr
  have hs0 : ∃ V, V = (w.alloc (.cells #[.int .i64 leave] 2)).alloc (.cells #[.bool false] 4) := ⟨_, rfl⟩
  obtain ⟨V, hV⟩ := hs0
  have hbV : Below w.heap.size w V := by rw [hV]; exact ((Below.refl _ _).alloc (Nat.le_refl _) _).alloc (by simp) _
  have hsV : w.heap.size + 2 ≤ V.heap.size := by rw [hV]; simp
  have hLb : Blk V w.heap.size 2 #[.int .i64 leave] := by rw [hV]; exact (Blk.new w _ _).alloc _
  have hRb : Blk V (w.heap.size + 1) 4 #[.bool false] := by rw [hV]; exact Blk.new' _ _ (by simp)
  obtain ⟨M, hMM⟩ : ∃ M, M = f.M := ⟨_, rfl⟩
  rw [← hMM] at hl ho hln hlv
  have HL := Lib.hid (hl.grow hbV)
  obtain ⟨⟨_, A, cap, rfl, hncap, hcap, _⟩, _⟩ := hl
  unfold maxLen at hcap
  have HHV := Lib.hid (h.grow hbV)
  have HO := Lib.hid ho
  have HMM := Lib.hid hMM
  have HVV := Lib.hid hV
  have HBV := Lib.hid hbV
  have HLB := Lib.hid hLb
  have HRB := Lib.hid hRb
  have heq := eql_func_nil
  have HG := Lib.hid (hg.grow hbV)
  have c0 : (V.alloc (.cells #[v] 23)).cell? ⟨g, 2, none⟩ = some (.slice A M.length cap) := ((hg.grow hbV).alloc _).cell 2
  have c1 : ((V.alloc (.cells #[v] 23)).alloc (.cells #[.slice none 0 0] 22)).cell? ⟨g, 2, none⟩ = some (.slice A M.length cap) := (((hg.grow hbV).alloc _).alloc _).cell 2
  clear hg
  clear h ho hbV hLb hRb hMM hV
  refine (callsIn_wide (n := 3)).1 (callsIn_of_wp_marks Try.func21 rfl trivial ((wpIn_wide (n := 3)).2 ?_))
  simp only [Try.ntmps21, List.size_toArray, List.length_cons, List.length_nil, Nat.reduceAdd, Nat.reduceSub, Array.replicate_succ, Array.replicate_zero, List.push_toArray, List.append_toArray, List.nil_append, List.cons_append]
  go_wp2_with fail
  rw [← HVV.out]
  refine (all_any hp V).mono ?_
  rintro e w3 ⟨rfl, rfl⟩
  unfold allV
  go_wp2_with fail
  refine wp_loop_rounds 3 ?_
  rw [rounds_succ]
  go_wp2_with fail
  obtain ⟨U0, hU0⟩ : ∃ U, U = ((((V.alloc (.cells #[v] 23)).alloc (.cells #[.slice A M.length cap] 22)).alloc (.cells #[.int .i64 0] 3)).alloc (.cells #[.int .i64 0] 3)) := ⟨_, rfl⟩
  have hbU : Below V.heap.size V U0 := by rw [hU0]; exact ((((Below.refl _ _).alloc (Nat.le_refl _) _).alloc (by simp) _).alloc (by simp; omega) _).alloc (by simp; omega) _
  have hsU : V.heap.size + 4 ≤ U0.heap.size := by rw [hU0]; simp
  have HA0 := Lib.hid (show Blk U0 V.heap.size 23 #[v] from by rw [hU0]; exact (((Blk.new V _ _).alloc _).alloc _).alloc _)
  have HS0 := Lib.hid (show Blk U0 (V.heap.size + 1) 22 #[.slice A M.length cap] from by rw [hU0]; exact ((Blk.new' _ _ (by simp)).alloc _).alloc _)
  have HT0 := Lib.hid (show Blk U0 (V.heap.size + 1 + 1) 3 #[.int .i64 0] from by rw [hU0]; exact (Blk.new' _ _ (by simp)).alloc _)
  have HN0 := Lib.hid (show Blk U0 (V.heap.size + 1 + 1 + 1) 3 #[.int .i64 0] from by rw [hU0]; exact Blk.new' _ _ (by simp))
  have HLv0 := Lib.hid (HLB.out.grow hbU)
  have HR0 := Lib.hid (HRB.out.grow hbU)
  have HB0 := Lib.hid hbU
  have HH0 := Lib.hid (HHV.out.grow hbU)
  rw [← hU0]
  clear hU0 hbU c0 c1
  refine (wpIn_wide (n := 3)).1 ?_
  refine' wpIn_rangeFunc_H (F := Fence.wide) (n := 3) rfl (by omega) (gf := 56) (lb := #[.pointer (some ⟨V.heap.size, 0, none⟩)]) rfl trivial (enters_of Try.func56 (by kernel_rfl) rfl)
    (all1_stops 2 (by omega) V.heap.size v f (by rw [← HMM.out]; exact HO.out.rise) (by rw [← HMM.out]; exact HO.out.len) (fun p hp => by rw [← HMM.out] at hp; have := HO.out.each p hp; omega) U0 (HA0.out.cell 0) HH0.out) (Below.refl _ _) (fun _ => rfl)
    (fun _ pre W => ¬ (1 ≤ leave ∧ leave ≤ (pre.length : Int)) ∧ Chg (· = V.heap.size + 1 + 1 + 1) U0 W ∧ Blk W (V.heap.size + 1 + 1 + 1) 3 #[.int .i64 pre.length])
    (fun _ c pre W => c = .exit 2 ∧ (pre.length : Int) = leave ∧ Chg (· = V.heap.size + 1 + 1 + 1) U0 W ∧ Blk W (V.heap.size + 1 + 1 + 1) 3 #[.int .i64 pre.length])
    (fun _ => OwnFrom.and (fun _ _ _ _ h _ _ => h) (OwnFrom.and ownFrom_chg (Own.from (fun _ _ _ _ h hg hr => h.cells hg hr) _)))
    (fun _ _ => OwnFrom.and (fun _ _ _ _ h _ _ => h) (OwnFrom.and (fun _ _ _ _ h _ _ => h) (OwnFrom.and ownFrom_chg (Own.from (fun _ _ _ _ h hg hr => h.cells hg hr) _))))
    (fun W0 hW0 => ⟨by simp; omega, Chg.of _ hW0, HN0.out.grow hW0⟩) _ ?assign0 ?body0 ?done0 ?stop0
  case assign0 =>
    intro l x W K hK
    gi_wp2
    exact hK
  case body0 =>
    rintro hi l' pre x W hhi ⟨hnl, hC, hN⟩ hsp hlt
    rw [← HMM.out] at hsp hlt
    have hat := prefix_at hsp
    have hsW := hC.size
    obtain ⟨bq, off, hA, hbq, q0', q1'⟩ := HL.out.at_ hat
    subst hA
    have q0 : W.cell? ⟨bq, off + pre.length * 2, none⟩ = some (.int .i64 x.1) := (World.cell?_of_block (a := ⟨bq, off + pre.length * 2, none⟩) (hC.block bq (by omega) (by omega))).trans ((HB0.out.cell (p := ⟨bq, off + pre.length * 2, none⟩) hbq).trans q0')
    have q1 : W.cell? ⟨bq, off + pre.length * 2 + 1, none⟩ = some (.int .i64 x.2) := (World.cell?_of_block (a := ⟨bq, off + pre.length * 2 + 1, none⟩) (hC.block bq (by omega) (by omega))).trans ((HB0.out.cell (p := ⟨bq, off + pre.length * 2 + 1, none⟩) hbq).trans q1')
    have n0 : W.cell? ⟨V.heap.size + 1 + 1 + 1, 0, none⟩ = some (.int .i64 (pre.length : Int)) := hN.cell 0
    have n1 : W.frozen? ⟨V.heap.size + 1 + 1 + 1, 0, none⟩ = false := hN.frozen 0
    have s0 : W.cell? ⟨V.heap.size + 1, 0, none⟩ = some (.slice (some ⟨bq, off, none⟩) M.length cap) := (HS0.out.chg hC (by omega)).cell 0
    have t0 : W.cell? ⟨V.heap.size + 1 + 1, 0, none⟩ = some (.int .i64 0) := (HT0.out.chg hC (by omega)).cell 0
    have lv : W.cell? ⟨w.heap.size, 0, none⟩ = some (.int .i64 leave) := (HLv0.out.chg hC (by omega)).cell 0
    obtain ⟨xa, xb⟩ := x
    simp only at q0 q1
    have hlen : pre.length < M.length := hlt
    have e0 : (0 : Int) ≤ (pre.length : Int) := by omega
    have e1 : (pre.length : Int) < (M.length : Int) := by omega
    have e2 : decide ((M.length : Int) ≤ (pre.length : Int)) = false := by simp; omega
    have e3 : IntKind.i64.wrap ((pre.length : Int) + 1) = (pre.length : Int) + 1 := IntWalk.i64_in _ (by omega)
    have HN := Lib.hid hN
    have HC := Lib.hid hC
    clear hat hsp hC hN q0' q1'
    dsimp only
    by_cases hq : (pre.length : Int) + 1 = leave
    · have d1 : ((pre.length : Int) + 1 == leave) = true := by simpa using hq
      have HQ := Lib.hid hq
      clear hq
      gi_wp2
      exact ⟨KeepsOthers.setCell _ _ _, rfl, by rw [List.length_append]; simpa using HQ.out, (HC.out).step (Chg.set W ⟨V.heap.size + 1 + 1 + 1, 0, none⟩ _) (fun _ _ e => e), by rw [List.length_append]; exact HN.out.set_ 0 (.int .i64 ((pre.length : Int) + 1))⟩
    · have d1 : ((pre.length : Int) + 1 == leave) = false := by simpa using hq
      gi_wp2
      exact ⟨KeepsOthers.setCell _ _ _, KeepR.set W (.inl (by simp; omega)) _, by simp; omega, (HC.out).step (Chg.set W ⟨V.heap.size + 1 + 1 + 1, 0, none⟩ _) (fun _ _ e => e), by rw [List.length_append]; exact HN.out.set_ 0 (.int .i64 ((pre.length : Int) + 1))⟩
  case done0 =>
    rintro hi D ys W hD hys ⟨hnl, hC, hN⟩ hK
    rw [← HMM.out] at hys
    subst hys
    exact absurd hlv hnl
  case stop0 =>
    rintro hi D c pre W hD hpre ⟨rfl, hpl, hC, hN⟩ hK
    have hsW := hC.size
    have hRW := HR0.out.chg hC (by omega)
    have hLW := HLv0.out.chg hC (by omega)
    have hTW := HT0.out.chg hC (by omega)
    have hSW := HS0.out.chg hC (by omega)
    have hAW := HA0.out.chg hC (by omega)
    have hbW : Below V.heap.size V W := HB0.out.trans (hC.below (by omega) (fun k hk e => by omega))
    have hHW := HHV.out.grow hbW
    have n0 : W.cell? ⟨V.heap.size + 1 + 1 + 1, 0, none⟩ = some (.int .i64 (pre.length : Int)) := hN.cell 0
    have t0 : W.cell? ⟨V.heap.size + 1 + 1, 0, none⟩ = some (.int .i64 0) := hTW.cell 0
    have v0 : W.cell? ⟨w.heap.size, 0, none⟩ = some (.int .i64 leave) := hLW.cell 0
    have s0 : W.cell? ⟨V.heap.size + 1, 0, none⟩ = some (.slice A M.length cap) := hSW.cell 0
    have hl1 := hlv.1
    have hl2 := hlv.2
    clear hlv
    refine (wpIn_wide (n := 3)).2 ?_
    have d1 : decide (0 < leave) = true := by simp; omega
    have d2 : decide (leave ≤ 0) = false := by simp; omega
    have hmin : ∀ (ts : Array TypeId) (ty : TypeId) (W : World), (Builtin.min_ ts ty #[.int .i64 leave, .int .i64 (M.length : Int)]).run Try.prog W = .ok (.int .i64 leave) W := fun ts ty W => by
      rw [run_min_int2]
      rw [if_neg (by omega)]
    have HL1 := Lib.hid hl1
    have HL2 := Lib.hid hl2
    clear hl1 hl2
    have HPL := Lib.hid hpl
    have d3 : ((pre.length : Int) != leave) = false := by simpa using hpl
    clear hpl
    have HRW := Lib.hid hRW
    have HLW := Lib.hid hLW
    have HTW := Lib.hid hTW
    have HSW := Lib.hid hSW
    have HAW := Lib.hid hAW
    have HBW := Lib.hid hbW
    have HHW := Lib.hid hHW
    have HK := Lib.hid hK
    clear hRW hLW hTW hSW hAW hbW hHW hK hC hN
    go_wp2_with fail
    rw [rounds_succ]
    go_wp2_with fail
    obtain ⟨U1, hU1⟩ : ∃ U, U = ((W.alloc (.cells #[.int .i64 1] 3)).alloc (.cells #[.int .i64 0] 3)) := ⟨_, rfl⟩
    have hb1 : Below W.heap.size W U1 := by rw [hU1]; exact ((Below.refl _ _).alloc (Nat.le_refl _) _).alloc (by simp) _
    have hsU1 : W.heap.size + 2 ≤ U1.heap.size := by rw [hU1]; simp
    have HA1 := Lib.hid (HAW.out.grow hb1)
    have HS1 := Lib.hid (HSW.out.grow hb1)
    have HLv1 := Lib.hid (HLW.out.grow hb1)
    have HR1 := Lib.hid (HRW.out.grow hb1)
    have HT1 := Lib.hid (show Blk U1 W.heap.size 3 #[.int .i64 1] from by rw [hU1]; exact (Blk.new W _ _).alloc _)
    have HN1 := Lib.hid (show Blk U1 (W.heap.size + 1) 3 #[.int .i64 0] from by rw [hU1]; exact Blk.new' _ _ (by simp))
    have HB1 := Lib.hid (HBW.out.trans (hb1.mono HBW.out.size))
    have HH1 := Lib.hid (HHW.out.grow hb1)
    have hDW := (Array.getElem?_eq_some_iff.1 HK.out).1
    have HK1 := Lib.hid (show U1.heap[D]? = some (.deferred (some [])) from (hb1.block D hDW).trans HK.out)
    rw [← hU1]
    clear hU1 hb1 n0 t0 v0 s0
    refine (wpIn_wide (n := 3)).1 ?_
    refine' wpIn_rangeFunc_H (F := Fence.wide) (n := 3) rfl (by omega) (gf := 56) (lb := #[.pointer (some ⟨V.heap.size, 0, none⟩)]) rfl trivial (enters_of Try.func56 (by kernel_rfl) rfl)
      (all1_stops 2 (by omega) V.heap.size v f (by rw [← HMM.out]; exact HO.out.rise) (by rw [← HMM.out]; exact HO.out.len) (fun p hp => by rw [← HMM.out] at hp; have := HO.out.each p hp; omega) U1 (HA1.out.cell 0) HH1.out) (Below.refl _ _) (fun _ => rfl)
      (fun _ pre W1 => Chg (· = W.heap.size + 1) U1 W1 ∧ Blk W1 (W.heap.size + 1) 3 #[.int .i64 pre.length])
      (fun _ _ _ _ => False)
      (fun _ => OwnFrom.and ownFrom_chg (Own.from (fun _ _ _ _ h hg hr => h.cells hg hr) _))
      (fun _ _ => fun _ _ _ _ h _ _ => h)
      (fun W0 hW0 => ⟨Chg.of _ hW0, HN1.out.grow hW0⟩) _ ?assign1 ?body1 ?done1 ?stop1
    case assign1 =>
      intro l x W1 K hK
      gi_wp2
      exact hK
    case body1 =>
      rintro hi l' pre x W1 hhi ⟨hC, hN⟩ hsp hlt
      rw [← HMM.out] at hsp hlt
      have hat := prefix_at hsp
      have hsW := hC.size
      obtain ⟨bq, off, hA, hbq, q0', q1'⟩ := HL.out.at_ hat
      subst hA
      have q0 : W1.cell? ⟨bq, off + pre.length * 2, none⟩ = some (.int .i64 x.1) := (World.cell?_of_block (a := ⟨bq, off + pre.length * 2, none⟩) (hC.block bq (by omega) (by omega))).trans ((HB1.out.cell (p := ⟨bq, off + pre.length * 2, none⟩) hbq).trans q0')
      have q1 : W1.cell? ⟨bq, off + pre.length * 2 + 1, none⟩ = some (.int .i64 x.2) := (World.cell?_of_block (a := ⟨bq, off + pre.length * 2 + 1, none⟩) (hC.block bq (by omega) (by omega))).trans ((HB1.out.cell (p := ⟨bq, off + pre.length * 2 + 1, none⟩) hbq).trans q1')
      have n0 : W1.cell? ⟨W.heap.size + 1, 0, none⟩ = some (.int .i64 (pre.length : Int)) := hN.cell 0
      have n1 : W1.frozen? ⟨W.heap.size + 1, 0, none⟩ = false := hN.frozen 0
      have s0 : W1.cell? ⟨V.heap.size + 1, 0, none⟩ = some (.slice (some ⟨bq, off, none⟩) M.length cap) := (HS1.out.chg hC (by omega)).cell 0
      have t0 : W1.cell? ⟨W.heap.size, 0, none⟩ = some (.int .i64 1) := (HT1.out.chg hC (by omega)).cell 0
      have lv : W1.cell? ⟨w.heap.size, 0, none⟩ = some (.int .i64 leave) := (HLv1.out.chg hC (by omega)).cell 0
      obtain ⟨xa, xb⟩ := x
      simp only at q0 q1
      have hlen : pre.length < M.length := hlt
      have e0 : (0 : Int) ≤ (pre.length : Int) := by omega
      have e1 : (pre.length : Int) < (M.length : Int) := by omega
      have e2 : decide ((M.length : Int) ≤ (pre.length : Int)) = false := by simp; omega
      have e3 : IntKind.i64.wrap ((pre.length : Int) + 1) = (pre.length : Int) + 1 := IntWalk.i64_in _ (by omega)
      have HN := Lib.hid hN
      have HC := Lib.hid hC
      clear hat hsp hC hN q0' q1'
      dsimp only
      gi_wp2
      exact ⟨KeepsOthers.setCell _ _ _, KeepR.set W1 (.inl (by simp; omega)) _, (HC.out).step (Chg.set W1 ⟨W.heap.size + 1, 0, none⟩ _) (fun _ _ e => e), by rw [List.length_append]; exact HN.out.set_ 0 (.int .i64 ((pre.length : Int) + 1))⟩
    case stop1 =>
      rintro hi1 D1 c1 pre1 W1 hD1 hpre2 hf hK1
      exact hf.elim
    case done1 =>
      rintro hi1 D1 ys1 W1 hD1 hys1 ⟨hC1, hN1⟩ hK1
      rw [← HMM.out] at hys1
      obtain rfl := hys1.symm
      have n0 : W1.cell? ⟨W.heap.size + 1, 0, none⟩ = some (.int .i64 (M.length : Int)) := hN1.cell 0
      have t0 : W1.cell? ⟨W.heap.size, 0, none⟩ = some (.int .i64 1) := (HT1.out.chg hC1 (by omega)).cell 0
      have v0 : W1.cell? ⟨w.heap.size, 0, none⟩ = some (.int .i64 leave) := (HLv1.out.chg hC1 (by omega)).cell 0
      have s0 : W1.cell? ⟨V.heap.size + 1, 0, none⟩ = some (.slice A M.length cap) := (HS1.out.chg hC1 (by omega)).cell 0
      have hRX := (HR1.out.chg hC1 (by omega)).alloc (.cells #[.int .i64 2] 3)
      have r0 : (W1.alloc (.cells #[.int .i64 2] 3)).cell? ⟨w.heap.size + 1, 0, none⟩ = some (.bool false) := hRX.cell 0
      have r1 : (W1.alloc (.cells #[.int .i64 2] 3)).frozen? ⟨w.heap.size + 1, 0, none⟩ = false := hRX.frozen 0
      have hb1 : Below V.heap.size V W1 := HB1.out.trans (hC1.below (by omega) (fun k hk e => by omega))
      have HBB := Lib.hid ((HBV.out.trans (hb1.mono HBV.out.size)).alloc (by have := HBV.out.size; have := hb1.size; omega) (.cells #[.int .i64 2] 3))
      have hDne : D ≠ W.heap.size + 1 := by omega
      have hDU := (Array.getElem?_eq_some_iff.1 HK1.out).1
      have HKa := Lib.hid ((Below.heap_alloc W1 (.cells #[.int .i64 2] 3) D (by have := hC1.size; omega)).trans ((hC1.block D hDU hDne).trans HK1.out))
      have HKb := Lib.hid ((Below.heap_alloc W1 (.cells #[.int .i64 2] 3) D1 (Array.getElem?_eq_some_iff.1 hK1).1).trans hK1)
      have HR0 := Lib.hid r0
      clear hC1 hN1 hK1 hRX hb1
      go_wp2_with fail
      rw [rounds_succ]
      go_wp2_with fail
      have k1 := (KeepsOthers.setCell (W1.alloc (.cells #[.int .i64 2] 3)) ⟨w.heap.size + 1, 0, none⟩ (.bool true)).same D1 _ HKb.out rfl
      have k0 := (KeepsOthers.setCell (W1.alloc (.cells #[.int .i64 2] 3)) ⟨w.heap.size + 1, 0, none⟩ (.bool true)).same D _ HKa.out rfl
      have k0' := (World.putObj_heap_other (o := .deferred none) (show D ≠ D1 by omega)).trans k0
      have hc5 := cell_kept (World.cell?_setCell_same' (W1.alloc (.cells #[.int .i64 2] 3)) ⟨w.heap.size + 1, 0, none⟩ (.bool true) (by rw [HR0.out]; rfl)) (grownBy_putObj' _ D1 (.deferred none)) (fun r e => by cases e; exact ⟨_, k1, rfl⟩)
      have hc6 := cell_kept hc5 (grownBy_putObj' _ D (.deferred none)) (fun r e => by cases e; exact ⟨_, k0', rfl⟩)
      refine ⟨by simp, .inl ⟨_, _, rfl, run_takeDeferred k1, by simp, .inl ⟨_, _, rfl, run_takeDeferred k0', ?_⟩⟩⟩
      exact ⟨.bool true, by simp [results, Try.results21, go_sem, hc6], rfl, ((HBB.out.setCell (p := ⟨w.heap.size + 1, 0, none⟩) (by simp) _).trans (belowK_b (w := w) (Nat.le_refl _) _ D1 _ _ (by have := HBV.out.size; omega) k1 rfl rfl)).trans (belowK_b (w := w) (Nat.le_refl _) _ D _ _ (by have := HBV.out.size; omega) k0' rfl rfl)⟩

set_option maxRecDepth 100000 in
set_option maxHeartbeats 8000000 in
theorem goes_negN {v : Value} {f : Fm} {leave : Int} {w : World} (h : AtP w v f) (ho : HOk f.M) (hM : f.M = []) (hlv : leave ≤ 0) :
    Calls Try.prog 21 #[v, .pointer none, .int .i64 leave] w fun e w' => e = .returned (.bool true) ∧ Below w.heap.size w w' := by
  have hl : Helds w (fun _ => True) (.slice none 0 0) f.M := by rw [hM]; exact Helds.nil _ _
  have hM0 : f.M.length = 0 := by rw [hM]; rfl
  have hln := ho.len
  have hp := h.ptr
  have hs0 : ∃ V, V = (w.alloc (.cells #[.int .i64 leave] 2)).alloc (.cells #[.bool false] 4) := ⟨_, rfl⟩
  obtain ⟨V, hV⟩ := hs0
  have hbV : Below w.heap.size w V := by rw [hV]; exact ((Below.refl _ _).alloc (Nat.le_refl _) _).alloc (by simp) _
  have hsV : w.heap.size + 2 ≤ V.heap.size := by rw [hV]; simp
  have hLb : Blk V w.heap.size 2 #[.int .i64 leave] := by rw [hV]; exact (Blk.new w _ _).alloc _
  have hRb : Blk V (w.heap.size + 1) 4 #[.bool false] := by rw [hV]; exact Blk.new' _ _ (by simp)
  obtain ⟨M, hMM⟩ : ∃ M, M = f.M := ⟨_, rfl⟩
  rw [← hMM] at hl ho hln hM0
  have HL := Lib.hid (hl.grow hbV)
  obtain ⟨⟨_, A, cap, hsl, hncap, hcap, _⟩, _⟩ := hl
  injection hsl with hA hX hC
  clear hX
  subst hA hC
  unfold maxLen at hcap
  have HHV := Lib.hid (h.grow hbV)
  have HO := Lib.hid ho
  have HMM := Lib.hid hMM
  have HVV := Lib.hid hV
  have HBV := Lib.hid hbV
  have HLB := Lib.hid hLb
  have HRB := Lib.hid hRb
  have heq := eql_func_nil
  clear h ho hbV hLb hRb hMM hV
  refine (callsIn_wide (n := 3)).1 (callsIn_of_wp_marks Try.func21 rfl trivial ((wpIn_wide (n := 3)).2 ?_))
  simp only [Try.ntmps21, List.size_toArray, List.length_cons, List.length_nil, Nat.reduceAdd, Nat.reduceSub, Array.replicate_succ, Array.replicate_zero, List.push_toArray, List.append_toArray, List.nil_append, List.cons_append]
  go_wp2_with fail
  rw [← HVV.out]
  refine (all_any hp V).mono ?_
  rintro e w3 ⟨rfl, rfl⟩
  unfold allV
  go_wp2_with fail
  refine wp_loop_rounds 3 ?_
  rw [rounds_succ]
  go_wp2_with fail
  obtain ⟨U0, hU0⟩ : ∃ U, U = ((((V.alloc (.cells #[v] 23)).alloc (.cells #[.slice none 0 0] 22)).alloc (.cells #[.int .i64 0] 3)).alloc (.cells #[.int .i64 0] 3)) := ⟨_, rfl⟩
  have hbU : Below V.heap.size V U0 := by rw [hU0]; exact ((((Below.refl _ _).alloc (Nat.le_refl _) _).alloc (by simp) _).alloc (by simp; omega) _).alloc (by simp; omega) _
  have hsU : V.heap.size + 4 ≤ U0.heap.size := by rw [hU0]; simp
  have HA0 := Lib.hid (show Blk U0 V.heap.size 23 #[v] from by rw [hU0]; exact (((Blk.new V _ _).alloc _).alloc _).alloc _)
  have HS0 := Lib.hid (show Blk U0 (V.heap.size + 1) 22 #[.slice none 0 0] from by rw [hU0]; exact ((Blk.new' _ _ (by simp)).alloc _).alloc _)
  have HT0 := Lib.hid (show Blk U0 (V.heap.size + 1 + 1) 3 #[.int .i64 0] from by rw [hU0]; exact (Blk.new' _ _ (by simp)).alloc _)
  have HN0 := Lib.hid (show Blk U0 (V.heap.size + 1 + 1 + 1) 3 #[.int .i64 0] from by rw [hU0]; exact Blk.new' _ _ (by simp))
  have HLv0 := Lib.hid (HLB.out.grow hbU)
  have HR0 := Lib.hid (HRB.out.grow hbU)
  have HB0 := Lib.hid hbU
  have HH0 := Lib.hid (HHV.out.grow hbU)
  rw [← hU0]
  clear hU0 hbU
  refine (wpIn_wide (n := 3)).1 ?_
  refine' wpIn_rangeFunc_H (F := Fence.wide) (n := 3) rfl (by omega) (gf := 56) (lb := #[.pointer (some ⟨V.heap.size, 0, none⟩)]) rfl trivial (enters_of Try.func56 (by kernel_rfl) rfl)
    (all1_stops 2 (by omega) V.heap.size v f (by rw [← HMM.out]; exact HO.out.rise) (by rw [← HMM.out]; exact HO.out.len) (fun p hp => by rw [← HMM.out] at hp; have := HO.out.each p hp; omega) U0 (HA0.out.cell 0) HH0.out) (Below.refl _ _) (fun _ => rfl)
    (fun _ pre W => ¬ (1 ≤ leave ∧ leave ≤ (pre.length : Int)) ∧ Chg (· = V.heap.size + 1 + 1 + 1) U0 W ∧ Blk W (V.heap.size + 1 + 1 + 1) 3 #[.int .i64 pre.length])
    (fun _ _ _ _ => False)
    (fun _ => OwnFrom.and (fun _ _ _ _ h _ _ => h) (OwnFrom.and ownFrom_chg (Own.from (fun _ _ _ _ h hg hr => h.cells hg hr) _)))
    (fun _ _ => fun _ _ _ _ h _ _ => h)
    (fun W0 hW0 => ⟨by simp; omega, Chg.of _ hW0, HN0.out.grow hW0⟩) _ ?assign0 ?body0 ?done0 ?stop0
  case assign0 =>
    intro l x W K hK
    gi_wp2
    exact hK
  case body0 =>
    rintro hi l' pre x W hhi ⟨hnl, hC, hN⟩ hsp hlt
    rw [← HMM.out] at hsp hlt
    exact absurd hlt (by rw [hM0]; omega)
  case stop0 =>
    rintro hi D c pre W hD hpre2 hf hK
    exact hf.elim
  case done0 =>
    rintro hi D ys W hD hys ⟨hnl, hC, hN⟩ hK
    rw [← HMM.out] at hys
    obtain rfl := hys.symm
    have hsW := hC.size
    have hRW := HR0.out.chg hC (by omega)
    have hLW := HLv0.out.chg hC (by omega)
    have hTW := HT0.out.chg hC (by omega)
    have hSW := HS0.out.chg hC (by omega)
    have hAW := HA0.out.chg hC (by omega)
    have hbW : Below V.heap.size V W := HB0.out.trans (hC.below (by omega) (fun k hk e => by omega))
    have hHW := HHV.out.grow hbW
    have n0 : W.cell? ⟨V.heap.size + 1 + 1 + 1, 0, none⟩ = some (.int .i64 (M.length : Int)) := hN.cell 0
    have t0 : W.cell? ⟨V.heap.size + 1 + 1, 0, none⟩ = some (.int .i64 0) := hTW.cell 0
    have v0 : W.cell? ⟨w.heap.size, 0, none⟩ = some (.int .i64 leave) := hLW.cell 0
    have s0 : W.cell? ⟨V.heap.size + 1, 0, none⟩ = some (.slice none 0 0) := hSW.cell 0
    have d1 : decide (0 < leave) = false := by simp; omega
    have d2 : decide (leave ≤ 0) = true := by simp; omega
    have HRW := Lib.hid hRW
    have HLW := Lib.hid hLW
    have HTW := Lib.hid hTW
    have HSW := Lib.hid hSW
    have HAW := Lib.hid hAW
    have HBW := Lib.hid hbW
    have HHW := Lib.hid hHW
    have HK := Lib.hid hK
    clear hRW hLW hTW hSW hAW hbW hHW hK hC hN
    go_wp2_with fail
    rw [rounds_succ]
    go_wp2_with fail
    obtain ⟨U1, hU1⟩ : ∃ U, U = ((W.alloc (.cells #[.int .i64 1] 3)).alloc (.cells #[.int .i64 0] 3)) := ⟨_, rfl⟩
    have hb1 : Below W.heap.size W U1 := by rw [hU1]; exact ((Below.refl _ _).alloc (Nat.le_refl _) _).alloc (by simp) _
    have hsU1 : W.heap.size + 2 ≤ U1.heap.size := by rw [hU1]; simp
    have HA1 := Lib.hid (HAW.out.grow hb1)
    have HS1 := Lib.hid (HSW.out.grow hb1)
    have HLv1 := Lib.hid (HLW.out.grow hb1)
    have HR1 := Lib.hid (HRW.out.grow hb1)
    have HT1 := Lib.hid (show Blk U1 W.heap.size 3 #[.int .i64 1] from by rw [hU1]; exact (Blk.new W _ _).alloc _)
    have HN1 := Lib.hid (show Blk U1 (W.heap.size + 1) 3 #[.int .i64 0] from by rw [hU1]; exact Blk.new' _ _ (by simp))
    have HB1 := Lib.hid (HBW.out.trans (hb1.mono HBW.out.size))
    have HH1 := Lib.hid (HHW.out.grow hb1)
    have hDW := (Array.getElem?_eq_some_iff.1 HK.out).1
    have HK1 := Lib.hid (show U1.heap[D]? = some (.deferred (some [])) from (hb1.block D hDW).trans HK.out)
    rw [← hU1]
    clear hU1 hb1 n0 t0 v0 s0
    refine (wpIn_wide (n := 3)).1 ?_
    refine' wpIn_rangeFunc_H (F := Fence.wide) (n := 3) rfl (by omega) (gf := 56) (lb := #[.pointer (some ⟨V.heap.size, 0, none⟩)]) rfl trivial (enters_of Try.func56 (by kernel_rfl) rfl)
      (all1_stops 2 (by omega) V.heap.size v f (by rw [← HMM.out]; exact HO.out.rise) (by rw [← HMM.out]; exact HO.out.len) (fun p hp => by rw [← HMM.out] at hp; have := HO.out.each p hp; omega) U1 (HA1.out.cell 0) HH1.out) (Below.refl _ _) (fun _ => rfl)
      (fun _ pre W1 => Chg (· = W.heap.size + 1) U1 W1 ∧ Blk W1 (W.heap.size + 1) 3 #[.int .i64 pre.length])
      (fun _ _ _ _ => False)
      (fun _ => OwnFrom.and ownFrom_chg (Own.from (fun _ _ _ _ h hg hr => h.cells hg hr) _))
      (fun _ _ => fun _ _ _ _ h _ _ => h)
      (fun W0 hW0 => ⟨Chg.of _ hW0, HN1.out.grow hW0⟩) _ ?assign1 ?body1 ?done1 ?stop1
    case assign1 =>
      intro l x W1 K hK
      gi_wp2
      exact hK
    case body1 =>
      rintro hi l' pre x W1 hhi ⟨hC, hN⟩ hsp hlt
      rw [← HMM.out] at hsp hlt
      exact absurd hlt (by rw [hM0]; omega)
    case stop1 =>
      rintro hi1 D1 c1 pre1 W1 hD1 hpre2 hf hK1
      exact hf.elim
    case done1 =>
      rintro hi1 D1 ys1 W1 hD1 hys1 ⟨hC1, hN1⟩ hK1
      rw [← HMM.out] at hys1
      obtain rfl := hys1.symm
      have n0 : W1.cell? ⟨W.heap.size + 1, 0, none⟩ = some (.int .i64 (M.length : Int)) := hN1.cell 0
      have t0 : W1.cell? ⟨W.heap.size, 0, none⟩ = some (.int .i64 1) := (HT1.out.chg hC1 (by omega)).cell 0
      have v0 : W1.cell? ⟨w.heap.size, 0, none⟩ = some (.int .i64 leave) := (HLv1.out.chg hC1 (by omega)).cell 0
      have s0 : W1.cell? ⟨V.heap.size + 1, 0, none⟩ = some (.slice none 0 0) := (HS1.out.chg hC1 (by omega)).cell 0
      have hRX := (HR1.out.chg hC1 (by omega)).alloc (.cells #[.int .i64 2] 3)
      have r0 : (W1.alloc (.cells #[.int .i64 2] 3)).cell? ⟨w.heap.size + 1, 0, none⟩ = some (.bool false) := hRX.cell 0
      have r1 : (W1.alloc (.cells #[.int .i64 2] 3)).frozen? ⟨w.heap.size + 1, 0, none⟩ = false := hRX.frozen 0
      have hb1 : Below V.heap.size V W1 := HB1.out.trans (hC1.below (by omega) (fun k hk e => by omega))
      have HBB := Lib.hid ((HBV.out.trans (hb1.mono HBV.out.size)).alloc (by have := HBV.out.size; have := hb1.size; omega) (.cells #[.int .i64 2] 3))
      have hDne : D ≠ W.heap.size + 1 := by omega
      have hDU := (Array.getElem?_eq_some_iff.1 HK1.out).1
      have HKa := Lib.hid ((Below.heap_alloc W1 (.cells #[.int .i64 2] 3) D (by have := hC1.size; omega)).trans ((hC1.block D hDU hDne).trans HK1.out))
      have HKb := Lib.hid ((Below.heap_alloc W1 (.cells #[.int .i64 2] 3) D1 (Array.getElem?_eq_some_iff.1 hK1).1).trans hK1)
      have HR0 := Lib.hid r0
      clear hC1 hN1 hK1 hRX hb1
      go_wp2_with fail
      rw [rounds_succ]
      go_wp2_with fail
      have k1 := (KeepsOthers.setCell (W1.alloc (.cells #[.int .i64 2] 3)) ⟨w.heap.size + 1, 0, none⟩ (.bool true)).same D1 _ HKb.out rfl
      have k0 := (KeepsOthers.setCell (W1.alloc (.cells #[.int .i64 2] 3)) ⟨w.heap.size + 1, 0, none⟩ (.bool true)).same D _ HKa.out rfl
      have k0' := (World.putObj_heap_other (o := .deferred none) (show D ≠ D1 by omega)).trans k0
      have hc5 := cell_kept (World.cell?_setCell_same' (W1.alloc (.cells #[.int .i64 2] 3)) ⟨w.heap.size + 1, 0, none⟩ (.bool true) (by rw [HR0.out]; rfl)) (grownBy_putObj' _ D1 (.deferred none)) (fun r e => by cases e; exact ⟨_, k1, rfl⟩)
      have hc6 := cell_kept hc5 (grownBy_putObj' _ D (.deferred none)) (fun r e => by cases e; exact ⟨_, k0', rfl⟩)
      refine ⟨by simp, .inl ⟨_, _, rfl, run_takeDeferred k1, by simp, .inl ⟨_, _, rfl, run_takeDeferred k0', ?_⟩⟩⟩
      exact ⟨.bool true, by simp [results, Try.results21, go_sem, hc6], rfl, ((HBB.out.setCell (p := ⟨w.heap.size + 1, 0, none⟩) (by simp) _).trans (belowK_b (w := w) (Nat.le_refl _) _ D1 _ _ (by have := HBV.out.size; omega) k1 rfl rfl)).trans (belowK_b (w := w) (Nat.le_refl _) _ D _ _ (by have := HBV.out.size; omega) k0' rfl rfl)⟩

set_option maxRecDepth 100000 in
set_option maxHeartbeats 8000000 in
theorem goes_bigN {v : Value} {f : Fm} {leave : Int} {w : World} (h : AtP w v f) (ho : HOk f.M) (hM : f.M = []) (hlv : 0 < leave ∧ (f.M.length : Int) < leave) :
    Calls Try.prog 21 #[v, .pointer none, .int .i64 leave] w fun e w' => e = .returned (.bool true) ∧ Below w.heap.size w w' := by
  have hl : Helds w (fun _ => True) (.slice none 0 0) f.M := by rw [hM]; exact Helds.nil _ _
  have hM0 : f.M.length = 0 := by rw [hM]; rfl
  have hln := ho.len
  have hp := h.ptr
  have hs0 : ∃ V, V = (w.alloc (.cells #[.int .i64 leave] 2)).alloc (.cells #[.bool false] 4) := ⟨_, rfl⟩
  obtain ⟨V, hV⟩ := hs0
  have hbV : Below w.heap.size w V := by rw [hV]; exact ((Below.refl _ _).alloc (Nat.le_refl _) _).alloc (by simp) _
  have hsV : w.heap.size + 2 ≤ V.heap.size := by rw [hV]; simp
  have hLb : Blk V w.heap.size 2 #[.int .i64 leave] := by rw [hV]; exact (Blk.new w _ _).alloc _
  have hRb : Blk V (w.heap.size + 1) 4 #[.bool false] := by rw [hV]; exact Blk.new' _ _ (by simp)
  obtain ⟨M, hMM⟩ : ∃ M, M = f.M := ⟨_, rfl⟩
  rw [← hMM] at hl ho hln hlv hM0
  have HL := Lib.hid (hl.grow hbV)
  obtain ⟨⟨_, A, cap, hsl, hncap, hcap, _⟩, _⟩ := hl
  injection hsl with hA hX hC
  clear hX
  subst hA hC
  unfold maxLen at hcap
  have HHV := Lib.hid (h.grow hbV)
  have HO := Lib.hid ho
  have HMM := Lib.hid hMM
  have HVV := Lib.hid hV
  have HBV := Lib.hid hbV
  have HLB := Lib.hid hLb
  have HRB := Lib.hid hRb
  have heq := eql_func_nil
  clear h ho hbV hLb hRb hMM hV
  refine (callsIn_wide (n := 3)).1 (callsIn_of_wp_marks Try.func21 rfl trivial ((wpIn_wide (n := 3)).2 ?_))
  simp only [Try.ntmps21, List.size_toArray, List.length_cons, List.length_nil, Nat.reduceAdd, Nat.reduceSub, Array.replicate_succ, Array.replicate_zero, List.push_toArray, List.append_toArray, List.nil_append, List.cons_append]
  go_wp2_with fail
  rw [← HVV.out]
  refine (all_any hp V).mono ?_
  rintro e w3 ⟨rfl, rfl⟩
  unfold allV
  go_wp2_with fail
  refine wp_loop_rounds 3 ?_
  rw [rounds_succ]
  go_wp2_with fail
  obtain ⟨U0, hU0⟩ : ∃ U, U = ((((V.alloc (.cells #[v] 23)).alloc (.cells #[.slice none 0 0] 22)).alloc (.cells #[.int .i64 0] 3)).alloc (.cells #[.int .i64 0] 3)) := ⟨_, rfl⟩
  have hbU : Below V.heap.size V U0 := by rw [hU0]; exact ((((Below.refl _ _).alloc (Nat.le_refl _) _).alloc (by simp) _).alloc (by simp; omega) _).alloc (by simp; omega) _
  have hsU : V.heap.size + 4 ≤ U0.heap.size := by rw [hU0]; simp
  have HA0 := Lib.hid (show Blk U0 V.heap.size 23 #[v] from by rw [hU0]; exact (((Blk.new V _ _).alloc _).alloc _).alloc _)
  have HS0 := Lib.hid (show Blk U0 (V.heap.size + 1) 22 #[.slice none 0 0] from by rw [hU0]; exact ((Blk.new' _ _ (by simp)).alloc _).alloc _)
  have HT0 := Lib.hid (show Blk U0 (V.heap.size + 1 + 1) 3 #[.int .i64 0] from by rw [hU0]; exact (Blk.new' _ _ (by simp)).alloc _)
  have HN0 := Lib.hid (show Blk U0 (V.heap.size + 1 + 1 + 1) 3 #[.int .i64 0] from by rw [hU0]; exact Blk.new' _ _ (by simp))
  have HLv0 := Lib.hid (HLB.out.grow hbU)
  have HR0 := Lib.hid (HRB.out.grow hbU)
  have HB0 := Lib.hid hbU
  have HH0 := Lib.hid (HHV.out.grow hbU)
  rw [← hU0]
  clear hU0 hbU
  refine (wpIn_wide (n := 3)).1 ?_
  refine' wpIn_rangeFunc_H (F := Fence.wide) (n := 3) rfl (by omega) (gf := 56) (lb := #[.pointer (some ⟨V.heap.size, 0, none⟩)]) rfl trivial (enters_of Try.func56 (by kernel_rfl) rfl)
    (all1_stops 2 (by omega) V.heap.size v f (by rw [← HMM.out]; exact HO.out.rise) (by rw [← HMM.out]; exact HO.out.len) (fun p hp => by rw [← HMM.out] at hp; have := HO.out.each p hp; omega) U0 (HA0.out.cell 0) HH0.out) (Below.refl _ _) (fun _ => rfl)
    (fun _ pre W => ¬ (1 ≤ leave ∧ leave ≤ (pre.length : Int)) ∧ Chg (· = V.heap.size + 1 + 1 + 1) U0 W ∧ Blk W (V.heap.size + 1 + 1 + 1) 3 #[.int .i64 pre.length])
    (fun _ _ _ _ => False)
    (fun _ => OwnFrom.and (fun _ _ _ _ h _ _ => h) (OwnFrom.and ownFrom_chg (Own.from (fun _ _ _ _ h hg hr => h.cells hg hr) _)))
    (fun _ _ => fun _ _ _ _ h _ _ => h)
    (fun W0 hW0 => ⟨by simp; omega, Chg.of _ hW0, HN0.out.grow hW0⟩) _ ?assign0 ?body0 ?done0 ?stop0
  case assign0 =>
    intro l x W K hK
    gi_wp2
    exact hK
  case body0 =>
    rintro hi l' pre x W hhi ⟨hnl, hC, hN⟩ hsp hlt
    rw [← HMM.out] at hsp hlt
    exact absurd hlt (by rw [hM0]; omega)
  case stop0 =>
    rintro hi D c pre W hD hpre2 hf hK
    exact hf.elim
  case done0 =>
    rintro hi D ys W hD hys ⟨hnl, hC, hN⟩ hK
    rw [← HMM.out] at hys
    obtain rfl := hys.symm
    have hsW := hC.size
    have hRW := HR0.out.chg hC (by omega)
    have hLW := HLv0.out.chg hC (by omega)
    have hTW := HT0.out.chg hC (by omega)
    have hSW := HS0.out.chg hC (by omega)
    have hAW := HA0.out.chg hC (by omega)
    have hbW : Below V.heap.size V W := HB0.out.trans (hC.below (by omega) (fun k hk e => by omega))
    have hHW := HHV.out.grow hbW
    have n0 : W.cell? ⟨V.heap.size + 1 + 1 + 1, 0, none⟩ = some (.int .i64 (M.length : Int)) := hN.cell 0
    have t0 : W.cell? ⟨V.heap.size + 1 + 1, 0, none⟩ = some (.int .i64 0) := hTW.cell 0
    have v0 : W.cell? ⟨w.heap.size, 0, none⟩ = some (.int .i64 leave) := hLW.cell 0
    have s0 : W.cell? ⟨V.heap.size + 1, 0, none⟩ = some (.slice none 0 0) := hSW.cell 0
    have hl1 := hlv.1
    have hl2 := hlv.2
    clear hlv
    have d1 : decide (0 < leave) = true := by simp; omega
    have d2 : decide (leave ≤ 0) = false := by simp; omega
    have hmin : ∀ (ts : Array TypeId) (ty : TypeId) (W : World), (Builtin.min_ ts ty #[.int .i64 leave, .int .i64 0]).run Try.prog W = .ok (.int .i64 0) W := fun ts ty W => by
      rw [run_min_int2]
      rw [if_pos (by omega)]
    have HL1 := Lib.hid hl1
    have HL2 := Lib.hid hl2
    clear hl1 hl2
    have HRW := Lib.hid hRW
    have HLW := Lib.hid hLW
    have HTW := Lib.hid hTW
    have HSW := Lib.hid hSW
    have HAW := Lib.hid hAW
    have HBW := Lib.hid hbW
    have HHW := Lib.hid hHW
    have HK := Lib.hid hK
    clear hRW hLW hTW hSW hAW hbW hHW hK hC hN
    go_wp2_with fail
    rw [rounds_succ]
    go_wp2_with fail
    obtain ⟨U1, hU1⟩ : ∃ U, U = ((W.alloc (.cells #[.int .i64 1] 3)).alloc (.cells #[.int .i64 0] 3)) := ⟨_, rfl⟩
    have hb1 : Below W.heap.size W U1 := by rw [hU1]; exact ((Below.refl _ _).alloc (Nat.le_refl _) _).alloc (by simp) _
    have hsU1 : W.heap.size + 2 ≤ U1.heap.size := by rw [hU1]; simp
    have HA1 := Lib.hid (HAW.out.grow hb1)
    have HS1 := Lib.hid (HSW.out.grow hb1)
    have HLv1 := Lib.hid (HLW.out.grow hb1)
    have HR1 := Lib.hid (HRW.out.grow hb1)
    have HT1 := Lib.hid (show Blk U1 W.heap.size 3 #[.int .i64 1] from by rw [hU1]; exact (Blk.new W _ _).alloc _)
    have HN1 := Lib.hid (show Blk U1 (W.heap.size + 1) 3 #[.int .i64 0] from by rw [hU1]; exact Blk.new' _ _ (by simp))
    have HB1 := Lib.hid (HBW.out.trans (hb1.mono HBW.out.size))
    have HH1 := Lib.hid (HHW.out.grow hb1)
    have hDW := (Array.getElem?_eq_some_iff.1 HK.out).1
    have HK1 := Lib.hid (show U1.heap[D]? = some (.deferred (some [])) from (hb1.block D hDW).trans HK.out)
    rw [← hU1]
    clear hU1 hb1 n0 t0 v0 s0
    refine (wpIn_wide (n := 3)).1 ?_
    refine' wpIn_rangeFunc_H (F := Fence.wide) (n := 3) rfl (by omega) (gf := 56) (lb := #[.pointer (some ⟨V.heap.size, 0, none⟩)]) rfl trivial (enters_of Try.func56 (by kernel_rfl) rfl)
      (all1_stops 2 (by omega) V.heap.size v f (by rw [← HMM.out]; exact HO.out.rise) (by rw [← HMM.out]; exact HO.out.len) (fun p hp => by rw [← HMM.out] at hp; have := HO.out.each p hp; omega) U1 (HA1.out.cell 0) HH1.out) (Below.refl _ _) (fun _ => rfl)
      (fun _ pre W1 => Chg (· = W.heap.size + 1) U1 W1 ∧ Blk W1 (W.heap.size + 1) 3 #[.int .i64 pre.length])
      (fun _ _ _ _ => False)
      (fun _ => OwnFrom.and ownFrom_chg (Own.from (fun _ _ _ _ h hg hr => h.cells hg hr) _))
      (fun _ _ => fun _ _ _ _ h _ _ => h)
      (fun W0 hW0 => ⟨Chg.of _ hW0, HN1.out.grow hW0⟩) _ ?assign1 ?body1 ?done1 ?stop1
    case assign1 =>
      intro l x W1 K hK
      gi_wp2
      exact hK
    case body1 =>
      rintro hi l' pre x W1 hhi ⟨hC, hN⟩ hsp hlt
      rw [← HMM.out] at hsp hlt
      exact absurd hlt (by rw [hM0]; omega)
    case stop1 =>
      rintro hi1 D1 c1 pre1 W1 hD1 hpre2 hf hK1
      exact hf.elim
    case done1 =>
      rintro hi1 D1 ys1 W1 hD1 hys1 ⟨hC1, hN1⟩ hK1
      rw [← HMM.out] at hys1
      obtain rfl := hys1.symm
      have n0 : W1.cell? ⟨W.heap.size + 1, 0, none⟩ = some (.int .i64 (M.length : Int)) := hN1.cell 0
      have t0 : W1.cell? ⟨W.heap.size, 0, none⟩ = some (.int .i64 1) := (HT1.out.chg hC1 (by omega)).cell 0
      have v0 : W1.cell? ⟨w.heap.size, 0, none⟩ = some (.int .i64 leave) := (HLv1.out.chg hC1 (by omega)).cell 0
      have s0 : W1.cell? ⟨V.heap.size + 1, 0, none⟩ = some (.slice none 0 0) := (HS1.out.chg hC1 (by omega)).cell 0
      have hRX := (HR1.out.chg hC1 (by omega)).alloc (.cells #[.int .i64 2] 3)
      have r0 : (W1.alloc (.cells #[.int .i64 2] 3)).cell? ⟨w.heap.size + 1, 0, none⟩ = some (.bool false) := hRX.cell 0
      have r1 : (W1.alloc (.cells #[.int .i64 2] 3)).frozen? ⟨w.heap.size + 1, 0, none⟩ = false := hRX.frozen 0
      have hb1 : Below V.heap.size V W1 := HB1.out.trans (hC1.below (by omega) (fun k hk e => by omega))
      have HBB := Lib.hid ((HBV.out.trans (hb1.mono HBV.out.size)).alloc (by have := HBV.out.size; have := hb1.size; omega) (.cells #[.int .i64 2] 3))
      have hDne : D ≠ W.heap.size + 1 := by omega
      have hDU := (Array.getElem?_eq_some_iff.1 HK1.out).1
      have HKa := Lib.hid ((Below.heap_alloc W1 (.cells #[.int .i64 2] 3) D (by have := hC1.size; omega)).trans ((hC1.block D hDU hDne).trans HK1.out))
      have HKb := Lib.hid ((Below.heap_alloc W1 (.cells #[.int .i64 2] 3) D1 (Array.getElem?_eq_some_iff.1 hK1).1).trans hK1)
      have HR0 := Lib.hid r0
      clear hC1 hN1 hK1 hRX hb1
      go_wp2_with fail
      rw [rounds_succ]
      go_wp2_with fail
      have k1 := (KeepsOthers.setCell (W1.alloc (.cells #[.int .i64 2] 3)) ⟨w.heap.size + 1, 0, none⟩ (.bool true)).same D1 _ HKb.out rfl
      have k0 := (KeepsOthers.setCell (W1.alloc (.cells #[.int .i64 2] 3)) ⟨w.heap.size + 1, 0, none⟩ (.bool true)).same D _ HKa.out rfl
      have k0' := (World.putObj_heap_other (o := .deferred none) (show D ≠ D1 by omega)).trans k0
      have hc5 := cell_kept (World.cell?_setCell_same' (W1.alloc (.cells #[.int .i64 2] 3)) ⟨w.heap.size + 1, 0, none⟩ (.bool true) (by rw [HR0.out]; rfl)) (grownBy_putObj' _ D1 (.deferred none)) (fun r e => by cases e; exact ⟨_, k1, rfl⟩)
      have hc6 := cell_kept hc5 (grownBy_putObj' _ D (.deferred none)) (fun r e => by cases e; exact ⟨_, k0', rfl⟩)
      refine ⟨by simp, .inl ⟨_, _, rfl, run_takeDeferred k1, by simp, .inl ⟨_, _, rfl, run_takeDeferred k0', ?_⟩⟩⟩
      exact ⟨.bool true, by simp [results, Try.results21, go_sem, hc6], rfl, ((HBB.out.setCell (p := ⟨w.heap.size + 1, 0, none⟩) (by simp) _).trans (belowK_b (w := w) (Nat.le_refl _) _ D1 _ _ (by have := HBV.out.size; omega) k1 rfl rfl)).trans (belowK_b (w := w) (Nat.le_refl _) _ D _ _ (by have := HBV.out.size; omega) k0' rfl rfl)⟩

/-- the document's account at u holds M -/
def Wants (w : World) (u : Value) (M : HM) : Prop :=
  (u = .pointer none ∧ M = []) ∨ ∃ (g : Nat) (bu sp : Int) (sl : Value), u = .pointer (some ⟨g, 0, none⟩) ∧ Blk w g 75 #[.int .i64 bu, .int .i64 sp, sl] ∧ Helds w (fun _ => True) sl M
theorem goes_any {v u : Value} {f : Fm} {leave : Int} {w : World} (h : AtP w v f) (ho : HOk f.M) (hu : Wants w u f.M) :
    Calls Try.prog 21 #[v, u, .int .i64 leave] w fun e w' => e = .returned (.bool true) ∧ Below w.heap.size w w' := by
  rcases hu with ⟨rfl, hM⟩ | ⟨g, bu, sp, sl, rfl, hg, hl⟩
  · by_cases h1 : leave ≤ 0
    · exact goes_negN h ho hM h1
    · exact goes_bigN h ho hM ⟨by omega, by rw [hM]; simp; omega⟩
  · by_cases h1 : leave ≤ 0
    · exact goes_negP h ho hg hl h1
    · by_cases h2 : (f.M.length : Int) < leave
      · exact goes_bigP h ho hg hl ⟨by omega, h2⟩
      · exact goes_nearP h ho hg hl ⟨by omega, by omega⟩
end Go.Proofs.Ytibhmgeckghoeaa.Ac

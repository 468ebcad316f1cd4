/- The reference of layer 17: the table. -/
import Derived.Test.YtcigobiolbojhaaRef08d
import Derived.Deep.OwnRows
namespace Go.Proofs.Ytcigobiolbojhaa.Vb
open Go.RowKit

/-- the table's rows from lo on are right: what any buyers from k on have of any goods -/
def TabAt (w : World) (gT hi S N lo : Nat) (F : Nat → Value) (bs : List (List Off)) : Prop :=
  w.rowIs gT 34 (N + 1) F ∧ ∀ k, lo ≤ k → k ≤ N → ∃ g, gT < g ∧ g < hi ∧ F k = .slice (some ⟨g, 0, none⟩) S S ∧ w.rowIs g 2 S (fun f => .int .i64 (W (bs.drop k) f))

theorem TabAt.below {w w' : World} {gT hi S N lo : Nat} {F : Nat → Value} {bs : List (List Off)} (h : TabAt w gT hi S N lo F bs) (hb : Below hi w w') (h0 : gT < hi) : TabAt w' gT hi S N lo F bs :=
  ⟨h.1.of_block (hb.block gT h0), fun k h1 h2 => let ⟨g, a, b, c, d⟩ := h.2 k h1 h2; ⟨g, a, b, c, d.of_block (hb.block g b)⟩⟩
theorem TabAt.mono {w : World} {gT hi hi' S N lo lo' : Nat} {F : Nat → Value} {bs : List (List Off)} (h : TabAt w gT hi S N lo F bs) (h1 : hi ≤ hi') (h2 : lo ≤ lo') : TabAt w gT hi' S N lo' F bs :=
  ⟨h.1, fun k h3 h4 => let ⟨g, a, b, c, d⟩ := h.2 k (Nat.le_trans h2 h3) h4; ⟨g, a, by omega, c, d⟩⟩
theorem TabAt.grow {w w' : World} {gT hi S N lo : Nat} {F : Nat → Value} {bs : List (List Off)} (h : TabAt w gT hi S N lo F bs) (hb : Below w.heap.size w w') : TabAt w' gT hi S N lo F bs :=
  ⟨h.1.of_block (hb.block gT h.1.lt), fun k h1 h2 => let ⟨g, a, b, c, d⟩ := h.2 k h1 h2; ⟨g, a, b, c, d.of_block (hb.block g d.lt)⟩⟩
/-- a cell of the table -/
theorem TabAt.at {w : World} {gT hi S N lo : Nat} {F : Nat → Value} {bs : List (List Off)} (h : TabAt w gT hi S N lo F bs) {k : Nat} (h1 : lo ≤ k) (h2 : k ≤ N) :
    ∃ g, g < hi ∧ w.cell? ⟨gT, k, none⟩ = some (.slice (some ⟨g, 0, none⟩) S S) ∧ ∀ f, f < S → w.cell? ⟨g, f, none⟩ = some (.int .i64 (W (bs.drop k) f)) := by
  obtain ⟨g, _, hg, hF, hr⟩ := h.2 k h1 h2
  exact ⟨g, hg, by rw [h.1.cell (by omega), hF], fun f hf => hr.cell hf⟩

/-- a row in the making -/
def rowP (bs : List (List Off)) (k f : Nat) (x : Nat) : Value := .int .i64 (if x < f then W (bs.drop k) x else 0)

theorem pow_i64 (m : Nat) (h : m ≤ 10) : IntKind.i64.wrap (2 ^ m) = ((2 ^ m : Nat) : Int) := by
  have hp2 : 2 ^ m ≤ 1024 := Nat.le_trans (Nat.pow_le_pow_right (by omega) h) (by decide)
  have h3 : ((2 : Int) ^ m) = ((2 ^ m : Nat) : Int) := by simp
  rw [h3]
  generalize 2 ^ m = s at *
  exact IntWalk.i64_in _ (by omega)

set_option maxHeartbeats 1600000 in
set_option maxRecDepth 100000 in
theorem table_any (m S : Nat) (h0 : 1 ≤ m) (h1 : m ≤ 10) (hS : S = 2 ^ m) (bs : List (List Off)) (v : Value) (R : Nat → Prop) (w : World) (hl : Buys w R v bs) (hok : Okb bs) :
    Calls Try.prog 116 #[.agg #[.int .i64 m, v]] w fun e w' => ∃ gT hi F, e = .returned (.slice (some ⟨gT, 0, none⟩) (bs.length + 1) (bs.length + 1)) ∧
      TabAt w' gT hi S bs.length 0 F bs ∧ w.heap.size ≤ gT ∧ Below w.heap.size w w' := by
  obtain ⟨vs, ⟨hlen, A, cap, rfl, hncap, hcap, hcells⟩, hvs⟩ := id hl
  have hS1 : S ≤ 1024 := by rw [hS]; exact Nat.le_trans (Nat.pow_le_pow_right (by omega) h1) (by decide)
  have hS0 : 0 < S := by rw [hS]; exact Nat.two_pow_pos m
  have hsh : IntKind.i64.wrap (2 ^ m) = (S : Int) := by rw [hS]; exact pow_i64 m h1
  have hN := hok.1
  have hmk1 : ∀ W : World, (Instr.makeSlice 161 (.int .i64 ((bs.length : Int) + 1)) (.int .i64 ((bs.length : Int) + 1))).run Try.prog W = .ok (.slice (some ⟨W.heap.size, 0, none⟩) (bs.length + 1) (bs.length + 1)) (W.alloc (.cells (madeCells #[.slice none 0 0] (bs.length + 1)) 34)) := fun W => by
    rw [show ((bs.length : Int) + 1) = ((bs.length + 1 : Nat) : Int) from by omega]
    exact run_make_row' (P := Try.prog) 161 34 (.slice none 0 0) 24 Try.underlying161 (by kernel_rfl) rfl .i64 .i64 (bs.length + 1) (by omega) (by omega) W
  have hmk2 : ∀ W : World, (Instr.makeSlice 34 (.int .i64 (S : Int)) (.int .i64 (S : Int))).run Try.prog W = .ok (.slice (some ⟨W.heap.size, 0, none⟩) S S) (W.alloc (.cells (madeCells #[.int .i64 0] S) 2)) := fun W =>
    run_make_row' (P := Try.prog) 34 2 (.int .i64 0) 8 Try.underlying34 (by kernel_rfl) rfl .i64 .i64 S (by omega) (by omega) W
  have HC := Lib.hid hcells
  have HV := Lib.hid hvs
  have HOK := Lib.hid hok
  have HS := Lib.hid hS
  clear hcells hvs hok hlen hcap hl hS
  go_enter Try.func116, Try.ntmps116
  go_wp2_with fail
  have hw0 : ∃ W0, W0 = (w.alloc (.cells #[.int .i64 m, .slice A bs.length cap] 24)).alloc (.cells (madeCells #[.slice none 0 0] (bs.length + 1)) 34) := ⟨_, rfl⟩
  obtain ⟨W0, hW0⟩ := hw0
  have hX : Blk W0 w.heap.size 24 #[.int .i64 m, .slice A bs.length cap] := by rw [hW0]; exact (Blk.new w _ _).alloc _
  have hT : W0.rowIs (w.heap.size + 1) 34 (bs.length + 1) (fun _ => .slice none 0 0) := by rw [hW0]; simpa using World.rowIs_made (w.alloc (.cells #[.int .i64 m, .slice A bs.length cap] 24)) (.slice none 0 0) (bs.length + 1) 34
  have hbw : Below w.heap.size w W0 := by rw [hW0]; exact ((Below.refl _ _).alloc (Nat.le_refl _) _).alloc (by simp) _
  have hsz : W0.heap.size = w.heap.size + 2 := by rw [hW0]; simp
  rw [← hW0]
  have x1 : W0.cell? ⟨w.heap.size, 1, none⟩ = some (.slice A bs.length cap) := hX.cell 1
  have x1' := cellAlloc x1
  have t1 := fun o : Obj => (hT.alloc o).cell (i := bs.length) (by omega)
  have t2 := fun o : Obj => (hT.alloc o).frozen bs.length
  have HX := Lib.hid hX
  have HT := Lib.hid hT
  have HBW := Lib.hid hbw
  clear hX hT hbw hW0
  go_region
  go_wp2_with fail
  go_loopw [5] (fun i wr => ∃ (k : Nat) (F : Nat → Value), k ≤ bs.length ∧ i = .int .i64 ((k : Int) - 1) ∧ TabAt wr (w.heap.size + 1) wr.heap.size S bs.length k F bs ∧ Blk wr w.heap.size 24 #[.int .i64 m, .slice A bs.length cap] ∧ Below w.heap.size w wr) (fun i _ => (intOf i + 1).toNat)
  case atStart =>
    refine ⟨bs.length, _, Nat.le_refl _, by go_num, ⟨(((HT.out.set bs.length _).alloc _)), fun k h1 h2 => ?_⟩, ?_, ?_⟩
    · obtain rfl : k = bs.length := by omega
      refine ⟨w.heap.size + 2, by omega, by simp; omega, by simp, ?_⟩
      have hr := World.rowIs_made (W0.setCell ⟨w.heap.size + 1, bs.length, none⟩ (.slice (some ⟨w.heap.size + 2, 0, none⟩) S S)) (.int .i64 0) S 2
      have hz : (W0.setCell ⟨w.heap.size + 1, bs.length, none⟩ (.slice (some ⟨w.heap.size + 2, 0, none⟩) S S)).heap.size = w.heap.size + 2 := by simpa using hsz
      rw [hz] at hr
      exact World.rowIs.congr (g := fun f => .int .i64 (W (bs.drop bs.length) f)) hr (fun i _ => by simp only [W_end])
    · exact ((HX.out.far (by simp) _).alloc _)
    · exact ((HBW.out.setCell (by simp) _).alloc (by simp; omega) _).drew
  case round =>
    obtain ⟨k1, F, hk1, rfl, hT, hX, hb⟩ := hrel
    obtain ⟨wo, rfl⟩ : ∃ wo : World, wo = wr := ⟨_, rfl⟩
    cases k1 with
    | zero =>
      go_wp2_with fail
      go_ret
      exact ⟨_, _, F, rfl, hT, by omega, hb⟩
    | succ k =>
      have hki : (((k + 1 : Nat) : Int) - 1) = (k : Int) := by omega
      rw [hki]
      obtain ⟨s, hs⟩ : ∃ s, s = wo.heap.size := ⟨_, rfl⟩
      have hsg : w.heap.size + 2 ≤ s := by have := hT.1.lt; omega
      have t1 := fun o : Obj => (hT.1.alloc o).cell (i := k) (by omega)
      have t2 := fun o : Obj => (hT.1.alloc o).frozen k
      obtain ⟨bq, off, rfl, _, hbb, hcs⟩ := HC.out (by omega)
      obtain ⟨l, ho⟩ : ∃ l, bs[k]? = some l := ⟨_, List.getElem?_eq_getElem (by omega)⟩
      obtain ⟨u, hu, hol⟩ := HV.out k l ho
      obtain ⟨⟨_, A1, cap1, rfl, hnc1, hcap1, hcs1⟩, hwf1⟩ := hol
      have cq := hcs _ _ hu
      have hll := HOK.out.len ho
      have hT2 : TabAt ((wo.alloc (.cells (madeCells #[.int .i64 0] S) 2)).setCell ⟨w.heap.size + 1, k, none⟩ (.slice (some ⟨wo.heap.size, 0, none⟩) S S)) (w.heap.size + 1) wo.heap.size S bs.length (k + 1) (fun j => if j = k then .slice (some ⟨wo.heap.size, 0, none⟩) S S else F j) bs := by
        refine ⟨(hT.1.alloc _).set k _, fun k' h1 h2 => ?_⟩
        obtain ⟨g, a, b, c, d⟩ := hT.2 k' h1 h2
        exact ⟨g, a, b, by simp only [if_neg (show k' ≠ k by omega)]; exact c, (d.alloc _).setOther (by simp; omega) _⟩
      have hR2 : ((wo.alloc (.cells (madeCells #[.int .i64 0] S) 2)).setCell ⟨w.heap.size + 1, k, none⟩ (.slice (some ⟨wo.heap.size, 0, none⟩) S S)).rowIs wo.heap.size 2 S (rowP bs k 0) := by
        have hr := World.rowIs_made wo (.int .i64 0) S 2
        exact World.rowIs.congr (g := rowP bs k 0) (hr.setOther (a := ⟨w.heap.size + 1, k, none⟩) (by simp; omega) _) (fun i _ => by simp [rowP])
      have hX2 : Blk ((wo.alloc (.cells (madeCells #[.int .i64 0] S) 2)).setCell ⟨w.heap.size + 1, k, none⟩ (.slice (some ⟨wo.heap.size, 0, none⟩) S S)) w.heap.size 24 #[.int .i64 m, .slice (some ⟨bq, off, none⟩) bs.length cap] := (hX.alloc _).far (by simp) _
      have hb2 : Below w.heap.size w ((wo.alloc (.cells (madeCells #[.int .i64 0] S) 2)).setCell ⟨w.heap.size + 1, k, none⟩ (.slice (some ⟨wo.heap.size, 0, none⟩) S S)) := (hb.alloc (by omega) _).setCell (by simp) _
      have hz2 : ((wo.alloc (.cells (madeCells #[.int .i64 0] S) 2)).setCell ⟨w.heap.size + 1, k, none⟩ (.slice (some ⟨wo.heap.size, 0, none⟩) S S)).heap.size = s + 1 := by simp [hs]
      obtain ⟨wA, hwA⟩ : ∃ wA, wA = ((wo.alloc (.cells (madeCells #[.int .i64 0] S) 2)).setCell ⟨w.heap.size + 1, k, none⟩ (.slice (some ⟨wo.heap.size, 0, none⟩) S S)) := ⟨_, rfl⟩
      have HT2 := Lib.hid hT2
      have HR2 := Lib.hid hR2
      have HX2 := Lib.hid hX2
      have HB2 := Lib.hid hb2
      have HZ2 := Lib.hid hz2
      have HO := Lib.hid ho
      have HC1 := Lib.hid hcs1
      have HWA := Lib.hid hwA
      have HHS := Lib.hid hs
      clear hT2 hR2 hX2 hb2 hz2 hT hX hb hcs hcs1 hwf1 ho hu hwA hs
      go_wp2_with fail
      rw [← HWA.out] at HT2 HR2 HX2 HB2 HZ2
      rw [← HWA.out, ← HHS.out]
      rw [← HHS.out] at HT2 HR2
      clear t1 t2
      go_loopw [6] (fun i wr => ∃ f : Nat, f ≤ S ∧ i = .int .i64 f ∧ Below s wA wr ∧ wr.rowIs s 2 S (rowP bs k f)) (fun i _ => S - (intOf i).toNat)
      case atStart => exact ⟨0, Nat.zero_le _, rfl, Below.refl _ _, HR2.out⟩
      case round =>
        obtain ⟨f, hf, rfl, hb2, hr2⟩ := hrel
        obtain ⟨wp, rfl⟩ : ∃ wp : World, wp = wr := ⟨_, rfl⟩
        have HBP := Lib.hid hb2
        have HRP := Lib.hid hr2
        by_cases hlf : f < S
        · have hTp := HT2.out.below hb2 (by omega)
          obtain ⟨g', hg', c0, cs⟩ := hTp.at (k := k + 1) (Nat.le_refl _) (by omega)
          have c1 := cs f hlf
          have hk1i : IntKind.i64.wrap ((k : Int) + 1) = (k : Int) + 1 := IntWalk.i64_in _ (by omega)
          have HTP := Lib.hid hTp
          clear hTp cs hb2 hr2
          go_wp2_with fail
          go_loopw [7, 8] (fun b i wr => ∃ j : Nat, j ≤ l.length ∧ i = .int .i64 j ∧ b = .int .i64 ((l.take j).foldl (stepO (W (bs.drop (k + 1))) f) (W (bs.drop (k + 1)) f)) ∧ Below (s + 1) wp wr) (fun _ i _ => l.length - (intOf i).toNat)
          case atStart => exact ⟨0, Nat.zero_le _, rfl, rfl, Below.refl _ _⟩
          case round =>
            obtain ⟨j, hj, rfl, rfl, hb3⟩ := hrel
            have hbA : Below w.heap.size w wp := HB2.out.trans (HBP.out.mono (by omega))
            have hbw3 : Below w.heap.size w wr := hbA.trans (hb3.mono (by omega))
            have hX3 : Blk wr w.heap.size 24 #[.int .i64 m, .slice (some ⟨bq, off, none⟩) bs.length cap] := (HX2.out.below HBP.out (by omega)).below hb3 (by omega)
            have x1 : wr.cell? ⟨w.heap.size, 1, none⟩ = some (.slice (some ⟨bq, off, none⟩) bs.length cap) := hX3.cell 1
            have q1 := (hbw3.cell hbb).trans cq
            have hTr := HTP.out.below (hb3.mono (by omega)) (by omega)
            have hrr := HRP.out.of_block (hb3.block s (by omega))
            have hsz3 : s + 1 ≤ wr.heap.size := by have := hrr.lt; omega
            have HB3 := Lib.hid hb3
            have HBW3 := Lib.hid hbw3
            by_cases hlj : j < l.length
            · obtain ⟨b1, off1, rfl, _, hb1, hcs1⟩ := HC1.out (by omega)
              obtain ⟨o, ho⟩ : ∃ o, l[j]? = some o := ⟨_, List.getElem?_eq_getElem hlj⟩
              have e0 := (hbw3.cell hb1).trans (hcs1 _ _ (Off.all_fst l j o ho))
              have e1 : wr.cell? ⟨b1, off1 + j * 2 + 1, none⟩ = some (.int .i64 o.c) := (hbw3.cell hb1).trans (hcs1 _ _ (Off.all_snd l j o ho))
              obtain ⟨ho1, ho2, ho3, ho4⟩ := HOK.out.offer HO.out ho
              have hB0 := W_nonneg (bs.drop (k + 1)) (andNot f o.g)
              have hB1 := HOK.out.W_le (k + 1) (andNot f o.g)
              have hsucc : (l.take (j + 1)).foldl (stepO (W (bs.drop (k + 1))) f) (W (bs.drop (k + 1)) f) = stepO (W (bs.drop (k + 1))) f ((l.take j).foldl (stepO (W (bs.drop (k + 1))) f) (W (bs.drop (k + 1)) f)) o := by
                rw [List.take_add_one, ho, List.foldl_append]
                rfl
              have hbits : bits .andNot .u32 (o.g : Int) (f : Int) = ((andNot o.g f : Nat) : Int) := u32_andNot_nat o.g f (by omega) (by omega)
              have hbits2 : bits .andNot .u32 (f : Int) (o.g : Int) = ((andNot f o.g : Nat) : Int) := u32_andNot_nat f o.g (by omega) (by omega)
              have hfo : andNot f o.g < S := Nat.lt_of_le_of_lt (andNot_le _ _) hlf
              obtain ⟨g2, hg2, p0, ps⟩ := hTr.at (k := k + 1) (Nat.le_refl _) (by omega)
              have p1 := ps _ hfo
              have p0' := cellAlloc p0
              have p1' := cellAlloc p1
              have hwrap : IntKind.u32.wrap (f : Int) = f := IntWalk.u32_in _ (by omega)
              have HSU := Lib.hid hsucc
              clear hcs1 hsucc hb3 hbw3 hX3 hTr hrr ho ps hbA c0 c1
              generalize hbest : (l.take j).foldl (stepO (W (bs.drop (k + 1))) f) (W (bs.drop (k + 1)) f) = best at *
              have HBE := Lib.hid hbest
              clear hbest
              by_cases hfit : andNot o.g f = 0
              · have hfb : (((andNot o.g f : Nat) : Int) == 0) = true := by simp [hfit]
                have HFI := Lib.hid hfit
                have hsum : IntKind.i64.wrap (o.c + W (bs.drop (k + 1)) (andNot f o.g)) = o.c + W (bs.drop (k + 1)) (andNot f o.g) := IntWalk.i64_in _ (by omega)
                clear hfit
                go_wp2_with fail
                go_region
                go_wp2_with fail
                go_roundw
                case rel =>
                  refine ⟨j + 1, by omega, by go_num, ?_, (HB3.out.alloc (by omega) _).drew⟩
                  rw [HSU.out]
                  unfold stepO
                  rw [if_pos HFI.out]
                  congr 1
                  split <;> omega
                case measure => simp [intOf]; omega
              · have hfb : (((andNot o.g f : Nat) : Int) == 0) = false := by simp [hfit]
                have HFI := Lib.hid hfit
                clear hfit
                go_wp2_with fail
                go_roundw
                case rel =>
                  refine ⟨j + 1, by omega, by go_num, ?_, HB3.out.alloc (by omega) _⟩
                  rw [HSU.out]
                  unfold stepO
                  rw [if_neg HFI.out]
                case measure => simp [intOf]; omega
            · obtain rfl : j = l.length := by omega
              rw [List.take_length, ← W_drop HO.out f]
              have p0 := hTr.1.cell (i := k) (by omega)
              simp only [if_true] at p0
              have r0 := hrr.cell hlf
              have rf := hrr.frozen f
              have hw0 := W_nonneg (bs.drop k) f
              have hw1 := HOK.out.W_le k f
              have HRR := Lib.hid hrr
              clear hb3 hbw3 hX3 hTr hrr hbA c0 c1
              go_wp2_with fail
              go_roundw
              case rel =>
                refine ⟨f + 1, by omega, by go_num, (HBP.out.trans (HB3.out.mono (by omega))).setCell (by simp) _, (HRR.out.set f _).congr fun i hi => ?_⟩
                unfold rowP
                by_cases hif : i = f
                · subst hif
                  simp
                · simp only [if_neg hif]
                  by_cases hlt : i < f
                  · rw [if_pos hlt, if_pos (by omega)]
                  · rw [if_neg hlt, if_neg (by omega)]
              case measure => simp [intOf]; omega
        · obtain rfl : f = S := by omega
          go_wp2_with fail
          go_roundw
          case rel =>
            have hT3 := HT2.out.below hb2 (by omega)
            refine ⟨k, _, by omega, by go_num, ⟨hT3.1, fun k' h1 h2 => ?_⟩, HX2.out.below hb2 (by omega), HB2.out.trans (hb2.mono (by omega))⟩
            by_cases hkk : k' = k
            · subst hkk
              exact ⟨s, by omega, hr2.lt, by simp, hr2.congr fun i hi => by simp [rowP, hi]⟩
            · obtain ⟨g, a, b, c, d⟩ := hT3.2 k' (by omega) h2
              exact ⟨g, a, by have := d.lt; omega, c, d⟩
          case measure => simp [intOf]
end Go.Proofs.Ytcigobiolbojhaa.Vb

/- Stats: the document's unequal. -/
import Derived.Test.YtidejikolcgojaaGreatSbJ
namespace Go.Proofs.YtidejikolcgojaaGreat.St
open Go.RowKit Go.Shelf
open Go.Proofs.YtidejikolcgojaaGreat.Vb Go.Proofs.YtidejikolcgojaaGreat.Ac
attribute [local go_sem] run_fadd run_fsub run_fmul run_fdiv run_store_float

theorem placesL_snoc {s : List Nat} {i x : Nat} (hx : s[i]? = some x) : (placesL s).take (i + 1) = (placesL s).take i ++ [fmul (cn x) (some (floatOfInt .f64 ((i : Int) + 1)))] := by
  rw [List.take_add_one, placesL_at hx]
  rfl
set_option maxRecDepth 100000 in
set_option maxHeartbeats 8000000 in
theorem refUnequal_any {l : List Nat} {v : Value} {R : Nat → Prop} {w : World} (h : Fls w R v l) (hle : l.length ≤ 1000) :
    Calls Tryz.prog 17 #[v] w (MaybeB (!uneqNo l) (fzero (uneqL l)) w) := by
  obtain ⟨A, cap, rfl, hnc, hcap⟩ := h.form
  have HL := Lib.hid h
  obtain ⟨bo, hbo⟩ : ∃ z, z = !uneqNo l := ⟨_, rfl⟩
  obtain ⟨z, hz⟩ : ∃ z, z = fzero (uneqL l) := ⟨_, rfl⟩
  rw [← hbo, ← hz]
  clear h
  by_cases he : l = []
  · have HBO := Lib.hid (show bo = false by rw [hbo, he]; rfl)
    have d1 : ((l.length : Int) == 0) = true := by rw [he]; rfl
    clear he hz hbo
    go_enter Tryz.func17, Tryz.ntmps17
    go_wp2_with fail
    go_ret2
    exact maybe_no HBO.out (Below.refl _ _)
  · have d1 : ((l.length : Int) == 0) = false := by
      cases l with
      | nil => exact absurd rfl he
      | cons x r => simp; omega
    have hie : l.isEmpty = false := by
      cases l with
      | nil => exact absurd rfl he
      | cons x r => rfl
    cases hn : l.any isN with
    | true =>
      have HBO := Lib.hid (show bo = false by rw [hbo]; unfold uneqNo; rw [hn]; simp)
      have HN := Lib.hid hn
      clear he hz hbo hn hie
      go_enter Tryz.func17, Tryz.ntmps17
      go_wp2_with fail
      refine (refnan_any HL.out hle).mono ?_
      rintro e w1 ⟨rfl, hb1⟩
      rw [HN.out]
      have HB1 := Lib.hid hb1
      clear hb1
      go_wp2_with fail
      go_ret2
      exact maybe_no HBO.out HB1.out
    | false =>
      have HN := Lib.hid hn
      have HBO := Lib.hid (show bo = true by rw [hbo]; unfold uneqNo; rw [hie, hn]; rfl)
      have HZ := Lib.hid hz
      have HU := Lib.hid (show uneqL l = fsub (fdiv (fmul (some two64) (sumL (placesL (sortB l)))) (fmul (uneqN l) (sumL (nums (sortB l))))) (fdiv (fadd (uneqN l) (some one64)) (uneqN l)) from rfl)
      have HUN := Lib.hid (show IsF (floatOfInt .f64 (l.length : Int)) (uneqN l) from isF_int _)
      obtain ⟨fl, hfl⟩ : ∃ f, f = floatOfInt .f64 (l.length : Int) := ⟨_, rfl⟩
      rw [← hfl] at HUN
      have HFL := Lib.hid hfl
      have HSL := Lib.hid (sortB_length l)
      obtain ⟨pl, hpl⟩ : ∃ z, z = placesL (sortB l) := ⟨_, rfl⟩
      rw [← hpl] at HU
      have HP := Lib.hid hpl
      have HPL := Lib.hid (show pl.length = l.length by rw [hpl, placesL_length, sortB_length])
      clear he hz hbo hn hie hfl hpl
      go_enter Tryz.func17, Tryz.ntmps17
      go_wp2_with fail
      refine (refnan_any HL.out hle).mono ?_
      rintro e w1 ⟨rfl, hb1⟩
      rw [HN.out]
      have HL1 := Lib.hid (HL.out.grow hb1)
      have HB1 := Lib.hid hb1
      clear hb1
      go_wp2_with fail
      refine (Sorted_any HL1.out HN.out hle).mono ?_
      rintro e w2 ⟨A2, cap2, rfl, ho2, hb2⟩
      have HF2 := Lib.hid (show Fls w2 (fun _ => True) (.slice A2 l.length cap2) (sortB l) from ⟨by rw [sortB_length]; exact (Sl.of_own ho2).mono fun _ _ _ => trivial, sortB_lt HL1.out.2⟩)
      have HB2 := Lib.hid (HB1.out.trans (hb2.mono HB1.out.size))
      clear ho2 hb2
      go_wp2_with fail
      go_loopw [5, 6] (fun o i wr => ∃ k : Nat, k ≤ l.length ∧ i = .int .i64 k ∧ OwnF wr w2.heap.size o (pl.take k) ∧ Below w2.heap.size w2 wr) (fun _ i _ => l.length - (intOf i).toNat)
      case atStart => exact ⟨0, Nat.zero_le _, rfl, ownF_nil _ _, Below.refl _ _⟩
      case round =>
        obtain ⟨k, hk, rfl, ho, hbl⟩ := hrel
        have HBL := Lib.hid hbl
        by_cases hlt : k < l.length
        · obtain ⟨p, hp⟩ : ∃ p, (sortB l)[k]? = some p := ⟨_, List.getElem?_eq_getElem (by rw [HSL.out]; exact hlt)⟩
          have HSN := Lib.hid (show pl.take (k + 1) = pl.take k ++ [fmul (cn p) (some (floatOfInt .f64 ((k : Int) + 1)))] by rw [HP.out]; exact placesL_snoc hp)
          obtain ⟨bq, off, rfl, _, _, q0, q1⟩ := (HF2.out.grow hbl).at_ hp
          have HPP := Lib.hid (isF_self q1)
          obtain ⟨ll, hl0, hl3, hown⟩ := ho
          have hll : ll.length = k := by
            rw [← nums_length, hl0, List.length_take, HPL.out]
            omega
          have HL0 := Lib.hid hl0
          have HL3 := Lib.hid hl3
          rw [hll] at hown
          obtain ⟨B1, d1, rfl⟩ := own_form hown
          have HLL := Lib.hid hll
          have HOW := Lib.hid hown
          have e1 : (0 : Int) ≤ (k : Int) := by omega
          have e2 : (k : Int) < (l.length : Int) := by omega
          have e3 : IntKind.i64.wrap ((k : Int) + 1) = (k : Int) + 1 := IntWalk.i64_in _ (by omega)
          have hsz := hbl.size
          clear hp hl0 hl3 hown hll q1 hbl
          go_wp2_with (at_builtin; go_must (generalize hv : aV Ieee.double.mul p _ _ = x1; have Hx1 := Lib.hid (isF_eq hv (isF_mul HPP.out (isF_int _) _)); clear hv; generalize hW : wr.drewN _ = w9; have HW1 := Lib.hid (show Below wr.heap.size wr w9 by rw [← hW]; exact below_drewN (Below.refl _ _) _); have hs1 : wr.heap.size ≤ w9.heap.size := HW1.out.size; have HSL := Lib.hid (show Sl (w9.alloc (.cells #[.float .f64 x1] 27)) (fun _ => True) (.slice (some ⟨wr.heap.size, 0, none⟩) 1 1) 1 1 [.float .f64 x1] from by (rw [show wr.heap.size = w9.heap.size by (rw [← hW]; rfl)]; exact (Sl.new w9 #[.float .f64 x1] 27 1 1 (by unfold maxLen; omega) rfl).mono fun _ _ _ => trivial)); clear hW; refine wpList_app _ rfl (.tmp 28) (.tmp 37) et_f64 rfl w2.heap.size (.slice B1 k d1) k (flts ll) rfl (own_grow (own_grow HOW.out HW1.out) ((Below.refl w9.heap.size w9).alloc (Nat.le_refl _) (.cells #[.float .f64 x1] 27))) _ _ 1 _ rfl HSL.out (by simp [Value.oneCell']) (by omega) (by unfold maxLen; omega) (by simp; omega) ?_; intro A5 c5 w5 hown5 hg5 _; have HB5 := Lib.hid (((HBL.out.trans (HW1.out.mono (by omega))).alloc (by omega) (.cells #[.float .f64 x1] 27)).grown hg5 (by simp; omega) (fun r e => (HOW.out.lt r e).1)); have HO5 := Lib.hid hown5; clear hown5 hg5))
          go_wp2_with fail
          go_roundw
          case rel => exact ⟨k + 1, by omega, by go_num, by rw [HSN.out]; exact ownF_app HL0.out HL3.out Hx1.out (by rw [HLL.out]; exact HO5.out), HB5.out⟩
          case measure => simp [intOf]; omega
        · obtain rfl : k = l.length := by omega
          rw [List.take_of_length_le (by rw [HPL.out]; omega)] at ho
          obtain ⟨A5, c5, rfl⟩ := ownF_form ho
          have HO := Lib.hid ho
          have HF3 := Lib.hid (HF2.out.grow hbl)
          have HB3 := Lib.hid (HB2.out.trans (hbl.mono HB2.out.size))
          clear ho hbl
          go_wp2_with fail
          rw [← HFL.out]
          refine (sum_own HO.out).mono ?_
          rintro e w3 ⟨sa, rfl, hs, hb⟩
          have HA := Lib.hid hs
          have HF4 := Lib.hid (HF3.out.grow hb)
          have HB4 := Lib.hid (HB3.out.trans (hb.mono HB3.out.size))
          clear hs hb
          go_wp2_with fail
          refine (refsum_any HF4.out).mono ?_
          rintro e w4 ⟨sb, rfl, hs, hb⟩
          have HBB := Lib.hid hs
          have HB5 := Lib.hid (HB4.out.trans (hb.mono HB4.out.size))
          clear hs hb
          go_wp2_with fail
          generalize hv : aV Ieee.double.mul fl sb _ = x1
          have Hx1 := Lib.hid (isF_eq hv (isF_mul HUN.out HBB.out _))
          clear hv
          generalize hv : aV Ieee.double.mul 4611686018427387904 sa _ = x2
          have Hx2 := Lib.hid (isF_eq hv (isF_mul two_isF HA.out _))
          clear hv
          generalize hv : aV Ieee.double.div x2 x1 _ = x3
          have Hx3 := Lib.hid (isF_eq hv (isF_div Hx2.out Hx1.out _))
          clear hv
          generalize hv : aV Ieee.double.add fl 4607182418800017408 _ = x4
          have Hx4 := Lib.hid (isF_eq hv (isF_add HUN.out one_isF _))
          clear hv
          generalize hv : aV Ieee.double.div x4 fl _ = x5
          have Hx5 := Lib.hid (isF_eq hv (isF_div Hx4.out HUN.out _))
          clear hv
          generalize hv : aV Ieee.double.sub x3 x5 _ = x6
          have Hx6 := Lib.hid (isF_eq hv (isF_sub Hx3.out Hx5.out _))
          clear hv
          generalize hW : w4.drewN _ = w5
          have HB6 := Lib.hid (show Below w.heap.size w w5 by rw [← hW]; exact below_drewN HB5.out _)
          clear hW
          refine (zero_any Hx6.out _).mono ?_
          rintro e w6 ⟨r, rfl, hr, hw6⟩
          rw [hw6]
          have HR := Lib.hid hr
          clear hr hw6
          go_wp2_with fail
          go_ret2
          exact maybe_yes HBO.out (by rw [HZ.out, HU.out]; exact HR.out) HB6.out
end Go.Proofs.YtidejikolcgojaaGreat.St

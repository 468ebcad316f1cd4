/- Stats: the document's middle. -/
import Derived.Test.YtidejikolcgojaaGreatStV
import Derived.Test.YtidejikolcgojaaGreatSbH
import Derived.Test.YtidejikolcgojaaGreatSbI
namespace Go.Proofs.YtidejikolcgojaaGreat.St
open Go.RowKit Go.Shelf
open Go.Proofs.YtidejikolcgojaaGreat.Vb Go.Proofs.YtidejikolcgojaaGreat.Ac
attribute [local go_sem] run_fadd run_fsub run_fmul run_fdiv run_store_float

/-- what the document answers where it may say 'none' -/
def MaybeB (b : Bool) (F : Fl) (w : World) (e : Ending) (w' : World) : Prop :=
  (∃ r, e = .returned (.tuple #[.float .f64 r, .bool b]) ∧ (b = true → IsF r F) ∧ r < bits64) ∧ Below w.heap.size w w'
theorem maybe_no {F : Fl} {w w' : World} {b : Bool} (h : b = false) (hb : Below w.heap.size w w') : MaybeB b F w (.returned (.tuple #[.float .f64 0, .bool false])) w' := by
  subst h
  exact ⟨⟨0, rfl, (fun h => absurd h (by decide)), by decide⟩, hb⟩
theorem maybe_yes {F : Fl} {w w' : World} {b : Bool} {r : Nat} (h : b = true) (hr : IsF r F) (hb : Below w.heap.size w w') : MaybeB b F w (.returned (.tuple #[.float .f64 r, .bool true])) w' := by
  subst h
  exact ⟨⟨r, rfl, fun _ => hr, hr.1⟩, hb⟩
set_option maxRecDepth 100000 in
set_option maxHeartbeats 8000000 in
theorem refMiddle_any {l : List Nat} {v : Value} {R : Nat → Prop} {p : Nat} {w : World} (h : Fls w R v l) (hle : l.length ≤ 1000) :
    Calls Tryz.prog 16 #[.float .f64 p, v] w (MaybeB (!midNo p l) (fzero (midL p l)) w) := by
  obtain ⟨A, cap, rfl, hnc, hcap⟩ := h.form
  have HL := Lib.hid h
  obtain ⟨bo, hbo⟩ : ∃ z, z = !midNo p l := ⟨_, rfl⟩
  obtain ⟨z, hz⟩ : ∃ z, z = fzero (midL p l) := ⟨_, rfl⟩
  rw [← hbo, ← hz]
  clear h
  have hib : ∀ b1 b2 : Bool, (Ieee.double.order p 0 == some .gt || Ieee.double.order p 0 == some .eq) = b1 → (Ieee.double.order p one64 == some .lt || Ieee.double.order p one64 == some .eq) = b2 → inB p = (b1 && b2) := fun b1 b2 h1 h2 => by unfold inB; rw [h1, h2]
  cases g1 : (Ieee.double.order p 0 == some .gt || Ieee.double.order p 0 == some .eq) with
  | false =>
    have d2 : (FloatKind.f64.format.order p 0 == some .gt || FloatKind.f64.format.order p 0 == some .eq) = false := g1
    have HBO := Lib.hid (show bo = false by rw [hbo]; unfold midNo; rw [hib false _ g1 rfl]; simp)
    clear hbo hz hib g1
    by_cases he : l = []
    · have d1 : ((l.length : Int) == 0) = true := by rw [he]; rfl
      clear he
      go_enter Tryz.func16, Tryz.ntmps16
      go_wp2_with fail
      go_ret2
      exact maybe_no HBO.out (Below.refl _ _)
    · have d1 : ((l.length : Int) == 0) = false := by
        cases l with
        | nil => exact absurd rfl he
        | cons x r => simp; omega
      clear he
      go_enter Tryz.func16, Tryz.ntmps16
      go_wp2_with fail
      refine (refnan_any HL.out hle).mono ?_
      rintro e w1 ⟨rfl, hb1⟩
      have HB1 := Lib.hid hb1
      clear hb1
      cases l.any isN with
      | true =>
        go_wp2_with fail
        go_ret2
        exact maybe_no HBO.out HB1.out
      | false =>
        go_wp2_with fail
        go_ret2
        exact maybe_no HBO.out HB1.out
  | true =>
    have d2 : (FloatKind.f64.format.order p 0 == some .gt || FloatKind.f64.format.order p 0 == some .eq) = true := g1
    cases g2 : (Ieee.double.order p one64 == some .lt || Ieee.double.order p one64 == some .eq) with
    | false =>
      have d3 : (FloatKind.f64.format.order p 4607182418800017408 == some .lt || FloatKind.f64.format.order p 4607182418800017408 == some .eq) = false := g2
      have HBO := Lib.hid (show bo = false by rw [hbo]; unfold midNo; rw [hib true false g1 g2]; simp)
      clear hbo hz hib g1 g2
      by_cases he : l = []
      · have d1 : ((l.length : Int) == 0) = true := by rw [he]; rfl
        clear he
        go_enter Tryz.func16, Tryz.ntmps16
        go_wp2_with fail
        go_ret2
        exact maybe_no HBO.out (Below.refl _ _)
      · have d1 : ((l.length : Int) == 0) = false := by
          cases l with
          | nil => exact absurd rfl he
          | cons x r => simp; omega
        clear he
        go_enter Tryz.func16, Tryz.ntmps16
        go_wp2_with fail
        refine (refnan_any HL.out hle).mono ?_
        rintro e w1 ⟨rfl, hb1⟩
        have HB1 := Lib.hid hb1
        clear hb1
        cases l.any isN with
        | true =>
          go_wp2_with fail
          go_ret2
          exact maybe_no HBO.out HB1.out
        | false =>
          go_wp2_with fail
          go_ret2
          exact maybe_no HBO.out HB1.out
    | true =>
      have d3 : (FloatKind.f64.format.order p 4607182418800017408 == some .lt || FloatKind.f64.format.order p 4607182418800017408 == some .eq) = true := g2
      have hin : inB p = true := hib true true g1 g2
      clear hib g1 g2
      by_cases he : l = []
      · have d1 : ((l.length : Int) == 0) = true := by rw [he]; rfl
        have HBO := Lib.hid (show bo = false by rw [hbo, he]; rfl)
        clear he hbo hz hin
        go_enter Tryz.func16, Tryz.ntmps16
        go_wp2_with fail
        go_ret2
        exact maybe_no HBO.out (Below.refl _ _)
      · have d1 : ((l.length : Int) == 0) = false := by
          cases l with
          | nil => exact absurd rfl he
          | cons x r => simp; omega
        have hie : l.isEmpty = false := by
          cases l with
          | nil => exact absurd rfl he
          | cons x r => rfl
        have hpos : 0 < l.length := List.length_pos_iff.2 he
        cases hn : l.any isN with
        | true =>
          have HBO := Lib.hid (show bo = false by rw [hbo]; unfold midNo; rw [hn]; simp)
          have HN := Lib.hid hn
          clear he hbo hz hin hn hie
          go_enter Tryz.func16, Tryz.ntmps16
          go_wp2_with fail
          refine (refnan_any HL.out hle).mono ?_
          rintro e w1 ⟨rfl, hb1⟩
          rw [HN.out]
          have HB1 := Lib.hid hb1
          clear hb1
          go_wp2_with fail
          go_ret2
          exact maybe_no HBO.out HB1.out
        | false =>
          have HN := Lib.hid hn
          have HBO := Lib.hid (show bo = true by rw [hbo]; unfold midNo; rw [hie, hn, hin]; rfl)
          obtain ⟨f1, f2, f3, f4, f5⟩ := mid_facts (n := l.length) hle hin
          have HZ := Lib.hid hz
          have HML := Lib.hid (show midL p l = if midI p l.length = l.length - 1 then cn ((sortB l).getD (midI p l.length) 0)
            else fadd (fmul (cn ((sortB l).getD (midI p l.length) 0)) (fsub (some one64) (midF p l.length))) (fmul (cn ((sortB l).getD (midI p l.length + 1) 0)) (midF p l.length)) from rfl)
          have HMF := Lib.hid (show midF p l.length = fsub (some (midH p l.length)) (some (floorB (midH p l.length))) from rfl)
          obtain ⟨ml, hml⟩ : ∃ z, z = midL p l := ⟨_, rfl⟩
          obtain ⟨mf, hmf⟩ : ∃ z, z = midF p l.length := ⟨_, rfl⟩
          obtain ⟨hb, hhb⟩ : ∃ z, z = midH p l.length := ⟨_, rfl⟩
          obtain ⟨k, hk⟩ : ∃ z, z = midI p l.length := ⟨_, rfl⟩
          rw [← hml] at HZ HML
          rw [← hmf] at HMF HML
          rw [← hhb] at f1 f2 f3 f5 HMF
          rw [← hk] at HML f4 f5
          have HF1 := Lib.hid f1
          have HHB := Lib.hid (isF_num f3 f2)
          have HFN := Lib.hid f2
          have hcv : ∀ W, (convert 27 3 (.float .f64 (floorB hb))).run Tryz.prog W = .ok (.int .i64 k) W := fun W => run_convert_float_int W _ _ _ _ _ _ (by kernel_rfl) Tryz.underlying3 f5
          have e0 : IntKind.i64.wrap ((l.length : Int) - 1) = (l.length : Int) - 1 := IntWalk.i64_in _ (by omega)
          have HNI := Lib.hid (show ((l.length - 1 : Nat) : Int) = (l.length : Int) - 1 by omega)
          have hfk : floorB hb < bits64 ∧ isN (floorB hb) = false := floor_num f2
          have HFK := Lib.hid (isF_num hfk.1 hfk.2)
          clear he hbo hz hin hn hie f1 f2 f3 f5 hml hmf hhb hk hfk
          go_enter Tryz.func16, Tryz.ntmps16
          go_wp2_with fail
          refine (refnan_any HL.out hle).mono ?_
          rintro e w1 ⟨rfl, hb1⟩
          rw [HN.out]
          have HL1 := Lib.hid (HL.out.grow hb1)
          have HB1 := Lib.hid hb1
          clear hb1
          go_wp2_with fail
          refine (Sorted_any HL1.out HN.out hle).mono ?_
          rintro e w2 ⟨A2, cap2, rfl, ho2, hb2⟩
          have HF2 := Lib.hid (show Fls w2 (fun _ => True) (.slice A2 l.length cap2) (sortB l) from ⟨by rw [sortB_length]; exact (Sl.of_own ho2).mono fun _ _ _ => trivial, sortB_lt HL1.out.2⟩)
          have HB2 := Lib.hid (HB1.out.trans (hb2.mono HB1.out.size))
          clear ho2 hb2
          go_wp2_with fail
          have hav : ∀ W, aV Ieee.double.mul p (floatOfInt .f64 ((l.length : Int) - 1)) W = hb := fun W => by unfold aV; rw [← HNI.out, HF1.out]; rfl
          rw [hav]
          clear hav
          generalize hW : w2.drewN _ = w3
          have HF3 := Lib.hid (show Fls w3 (fun _ => True) (.slice A2 l.length cap2) (sortB l) by rw [← hW]; exact HF2.out.grow (below_drewN (Below.refl _ _) _))
          have HB3 := Lib.hid (show Below w.heap.size w w3 by rw [← hW]; exact below_drewN HB2.out _)
          clear hW
          refine (floor_any HFN.out _).mono ?_
          rintro e w4 ⟨rfl, hw4⟩
          rw [hw4]
          clear hw4
          obtain ⟨fb, hfb⟩ : ∃ z, z = floorB hb := ⟨_, rfl⟩
          rw [← hfb] at HFK HMF hcv ⊢
          clear hfb
          obtain ⟨x, hx⟩ : ∃ x, (sortB l)[k]? = some x := ⟨_, List.getElem?_eq_getElem (by rw [sortB_length]; omega)⟩
          have hxd : (sortB l).getD k 0 = x := by simp [List.getD, hx]
          obtain ⟨bq, off, rfl, _, lq, c0, c1⟩ := HF3.out.at_ hx
          have HX := Lib.hid (isF_self c1)
          have i1 : (0 : Int) ≤ (k : Int) := by omega
          have i2 : (k : Int) < (l.length : Int) := by omega
          by_cases hkn : k = l.length - 1
          · have d4 : ((k : Int) == (l.length : Int) - 1) = true := by rw [hkn]; simp; omega
            have HZ2 := Lib.hid (show z = fzero (cn x) by rw [HZ.out, HML.out, if_pos hkn, hxd])
            clear hkn hx hxd c1
            go_wp2_with fail
            generalize hW : w3.drewN _ = w5
            have HB5 := Lib.hid (show Below w.heap.size w w5 by rw [← hW]; exact below_drewN HB3.out _)
            clear hW
            refine (zero_any HX.out _).mono ?_
            rintro e w6 ⟨r, rfl, hr, hw6⟩
            rw [hw6]
            have HR := Lib.hid hr
            clear hr hw6
            go_wp2_with fail
            go_ret2
            exact maybe_yes HBO.out (by rw [HZ2.out]; exact HR.out) HB5.out
          · have d4 : ((k : Int) == (l.length : Int) - 1) = false := by simp; omega
            obtain ⟨y, hy⟩ : ∃ y, (sortB l)[k + 1]? = some y := ⟨_, List.getElem?_eq_getElem (by rw [sortB_length]; omega)⟩
            have hyd : (sortB l).getD (k + 1) 0 = y := by simp [List.getD, hy]
            obtain ⟨bq2, off2, hA2, _, _, c2, c3⟩ := HF3.out.at_ hy
            injection hA2 with hA2
            injection hA2 with hA2 hA3 _
            subst hA2 hA3
            have HY := Lib.hid (isF_self c3)
            have HZ2 := Lib.hid (show z = fzero (fadd (fmul (cn x) (fsub (some one64) mf)) (fmul (cn y) mf)) by rw [HZ.out, HML.out, if_neg hkn, hxd, hyd])
            have i3 : (0 : Int) ≤ (k : Int) + 1 := by omega
            have i4 : (k : Int) + 1 < (l.length : Int) := by omega
            have i5 : IntKind.i64.wrap ((k : Int) + 1) = (k : Int) + 1 := IntWalk.i64_in _ (by omega)
            have i6 : ((k : Int) + 1).toNat = k + 1 := by omega
            clear hkn hx hxd hy hyd c1 c3
            go_wp2_with fail
            generalize hv : aV Ieee.double.sub hb fb _ = f1
            have Hf1 := Lib.hid (show IsF f1 mf by rw [HMF.out]; exact isF_eq hv (isF_sub HHB.out HFK.out _))
            clear hv
            generalize hv : aV Ieee.double.sub 4607182418800017408 f1 _ = f2
            have Hf2 := Lib.hid (isF_eq hv (isF_sub one_isF Hf1.out _))
            clear hv
            generalize hv : aV Ieee.double.mul x f2 _ = f3
            have Hf3 := Lib.hid (isF_eq hv (isF_mul HX.out Hf2.out _))
            clear hv
            generalize hv : aV Ieee.double.mul y f1 _ = f4
            have Hf4 := Lib.hid (isF_eq hv (isF_mul HY.out Hf1.out _))
            clear hv
            generalize hv : aV Ieee.double.add f3 f4 _ = f5
            have Hf5 := Lib.hid (isF_eq hv (isF_add Hf3.out Hf4.out _))
            clear hv
            generalize hW : w3.drewN _ = w5
            have HB5 := Lib.hid (show Below w.heap.size w w5 by rw [← hW]; exact below_drewN HB3.out _)
            clear hW
            refine (zero_any Hf5.out _).mono ?_
            rintro e w6 ⟨r, rfl, hr, hw6⟩
            rw [hw6]
            have HR := Lib.hid hr
            clear hr hw6
            go_wp2_with fail
            go_ret2
            exact maybe_yes HBO.out (by rw [HZ2.out]; exact HR.out) HB5.out
end Go.Proofs.YtidejikolcgojaaGreat.St

/- Stats: the sum and the mean of a row. -/
import Derived.Test.YtidejikolcgojaaGreatStE
namespace Go.Proofs.YtidejikolcgojaaGreat.St
open Go.RowKit Go.Shelf
open Go.Proofs.YtidejikolcgojaaGreat.Vb Go.Proofs.YtidejikolcgojaaGreat.Ac
attribute [local go_sem] run_fadd run_fsub run_fmul run_fdiv run_store_float

/-- a variable that holds a row -/
def RowAt (W : World) (g : Nat) (R : Nat → Prop) (l : List Nat) : Prop := ∃ v, Blk W g 24 #[v] ∧ Fls W R v l
theorem RowAt.grow {W W' : World} {g : Nat} {R : Nat → Prop} {l : List Nat} (h : RowAt W g R l) (hb : Below W.heap.size W W') : RowAt W' g R l := by
  obtain ⟨v, h1, h2⟩ := h
  exact ⟨v, h1.grow hb, h2.grow hb⟩
theorem all1_any {W : World} {g : Nat} {R : Nat → Prop} {l : List Nat} (h : RowAt W g R l) {i : Nat} {x : Nat} (hx : l[i]? = some x) :
    Calls Tryz.prog 83 #[.int .i64 i, .pointer (some ⟨g, 0, none⟩)] W fun e W' => e = .returned (.float .f64 x) ∧ W' = W := by
  obtain ⟨v, h1, h2⟩ := h
  obtain ⟨A, cap, rfl, hnc, hcap⟩ := h2.form
  have hlt := (List.getElem?_eq_some_iff.1 hx).1
  obtain ⟨bq, off, rfl, _, _, q0, q1⟩ := h2.at_ hx
  have k0 : W.cell? ⟨g, 0, none⟩ = some (.slice (some ⟨bq, off, none⟩) l.length cap) := h1.cell 0
  have e1 : (0 : Int) ≤ (i : Int) := by omega
  have e2 : (i : Int) < (l.length : Int) := by omega
  clear h1 h2 hx
  go_enter Tryz.func83, Tryz.ntmps83
  go_wp2_with fail
  go_ret
  exact ⟨rfl, rfl⟩
theorem nums_get {l : List Nat} {i : Nat} {f : Fl} (h : (nums l)[i]? = some f) : ∃ x, l[i]? = some x ∧ f = cn x := by
  unfold nums at h
  rw [List.getElem?_map] at h
  cases hx : l[i]? with
  | none => rw [hx] at h; cases h
  | some x => rw [hx] at h; injection h with h; exact ⟨x, rfl, h.symm⟩
theorem all_giv {W : World} {g : Nat} {R : Nat → Prop} {l : List Nat} (h : RowAt W g R l) : Giv Tryz.prog 83 #[.pointer (some ⟨g, 0, none⟩)] (nums l) W := by
  intro W1 i f hb hf
  obtain ⟨x, hx, rfl⟩ := nums_get hf
  have hlt : x < bits64 := by obtain ⟨v, _, h2⟩ := h; exact h2.2 x (List.mem_of_getElem? hx)
  refine (all1_any (h.grow hb) hx).mono ?_
  rintro e W' ⟨rfl, rfl⟩
  exact ⟨x, rfl, isF_self hlt, Below.refl _ _⟩
theorem all_any {l : List Nat} {v : Value} {R : Nat → Prop} {w : World} (h : Fls w R v l) :
    Calls Tryz.prog 58 #[v] w fun e w' => ∃ r, e = .returned (.float .f64 r) ∧ IsF r (sumL (nums l)) ∧ Below w.heap.size w w' := by
  obtain ⟨A, cap, rfl, hnc, hcap⟩ := h.form
  unfold maxLen at hcap
  obtain ⟨U, hU⟩ : ∃ U, U = w.alloc (.cells #[.slice A l.length cap] 24) := ⟨_, rfl⟩
  have hB : Below w.heap.size w U := by rw [hU]; exact (Below.refl _ _).alloc (Nat.le_refl _) _
  have hR : RowAt U w.heap.size R l := ⟨_, by rw [hU]; exact Blk.new w _ _, h.grow hB⟩
  have HB := Lib.hid hB
  have HR := Lib.hid hR
  have k0 : U.cell? ⟨w.heap.size, 0, none⟩ = some (.slice A l.length cap) := by rw [hU]; exact (Blk.new w 24 _).cell 0
  have HN := Lib.hid (nums_length l)
  obtain ⟨z, hz⟩ : ∃ z, z = sumL (nums l) := ⟨_, rfl⟩
  have HZ := Lib.hid hz
  rw [← hz]
  clear h hB hR hz
  go_enter Tryz.func58, Tryz.ntmps58
  go_wp2_with fail
  rw [← hU]
  clear hU
  go_wp2_with fail
  rw [← HN.out]
  refine (sum_any (all_giv HR.out) (fun args W => by go_simp) (by rw [HN.out]; omega)).mono ?_
  rintro e w2 ⟨r, rfl, hr, hb⟩
  have H1 := Lib.hid hr
  have H2 := Lib.hid (HB.out.trans (hb.mono HB.out.size))
  clear hr hb
  go_wp2_with fail
  go_ret
  exact ⟨r, rfl, by rw [HZ.out]; exact H1.out, H2.out⟩

/-- a row's mean, NaN of none -/
def meanL (l : List Nat) : Fl := if l = [] then none else fdiv (sumL (nums l)) (some (floatOfInt .f64 l.length))
theorem nan_isF : IsF 9221120237041090561 none := ⟨by decide, by decide⟩
theorem mean_any {l : List Nat} {v : Value} {R : Nat → Prop} {w : World} (h : Fls w R v l) :
    Calls Tryz.prog 43 #[v] w fun e w' => ∃ r, e = .returned (.float .f64 r) ∧ IsF r (meanL l) ∧ Below w.heap.size w w' := by
  obtain ⟨A, cap, rfl, hnc, hcap⟩ := h.form
  have HL := Lib.hid h
  have HM := Lib.hid (show meanL l = if l = [] then none else fdiv (sumL (nums l)) (some (floatOfInt .f64 l.length)) from rfl)
  obtain ⟨z, hz⟩ : ∃ z, z = meanL l := ⟨_, rfl⟩
  rw [← hz] at HM ⊢
  clear h hz
  by_cases he : l = []
  · have HM2 := Lib.hid (show z = none by rw [HM.out, if_pos he])
    have d1 : ((l.length : Int) == 0) = true := by rw [he]; rfl
    clear he HM
    go_enter Tryz.func43, Tryz.ntmps43
    go_wp2_with fail
    refine (nan_any _).mono ?_
    rintro e w1 ⟨rfl, hw1⟩
    rw [hw1]
    clear hw1
    go_wp2_with fail
    go_ret
    exact ⟨_, rfl, by rw [HM2.out]; exact nan_isF, Below.refl _ _⟩
  · have HM2 := Lib.hid (show z = fdiv (sumL (nums l)) (some (floatOfInt .f64 l.length)) by rw [HM.out, if_neg he])
    have d1 : ((l.length : Int) == 0) = false := by
      cases l with
      | nil => exact absurd rfl he
      | cons x r => simp; omega
    clear he HM
    go_enter Tryz.func43, Tryz.ntmps43
    go_wp2_with fail
    refine (all_any HL.out).mono ?_
    rintro e w1 ⟨s, rfl, hs, hb⟩
    have HS := Lib.hid hs
    have HB := Lib.hid hb
    clear hs hb
    go_wp2_with fail
    go_ret
    exact ⟨_, rfl, by rw [HM2.out]; exact isF_div HS.out (isF_int _) _, below_drewN HB.out _⟩
theorem refmean_any {l : List Nat} {v : Value} {R : Nat → Prop} {w : World} (h : Fls w R v l) (he : l ≠ []) :
    Calls Tryz.prog 49 #[v] w fun e w' => ∃ r, e = .returned (.float .f64 r) ∧ IsF r (meanL l) ∧ Below w.heap.size w w' := by
  obtain ⟨A, cap, rfl, hnc, hcap⟩ := h.form
  have HL := Lib.hid h
  have HM2 := Lib.hid (show meanL l = fdiv (sumL (nums l)) (some (floatOfInt .f64 l.length)) from if_neg he)
  obtain ⟨z, hz⟩ : ∃ z, z = meanL l := ⟨_, rfl⟩
  rw [← hz] at HM2 ⊢
  clear h hz he
  go_enter Tryz.func49, Tryz.ntmps49
  go_wp2_with fail
  refine (refsum_any HL.out).mono ?_
  rintro e w1 ⟨s, rfl, hs, hb⟩
  have HS := Lib.hid hs
  have HB := Lib.hid hb
  clear hs hb
  go_wp2_with fail
  go_ret
  exact ⟨_, rfl, by rw [HM2.out]; exact isF_div HS.out (isF_int _) _, below_drewN HB.out _⟩
theorem Sum_any {l : List Nat} {v : Value} {R : Nat → Prop} {w : World} (h : Fls w R v l) :
    Calls Tryz.prog 20 #[v] w fun e w' => ∃ r, e = .returned (.float .f64 r) ∧ IsF r (fzero (sumL (nums l))) ∧ Below w.heap.size w w' := by
  obtain ⟨A, cap, rfl, hnc, hcap⟩ := h.form
  have HL := Lib.hid h
  clear h
  go_enter Tryz.func20, Tryz.ntmps20
  go_wp2_with fail
  refine (all_any HL.out).mono ?_
  rintro e w1 ⟨s, rfl, hs, hb⟩
  have HS := Lib.hid hs
  have HB := Lib.hid hb
  clear hs hb
  go_wp2_with fail
  refine (plain_any HS.out _).mono ?_
  rintro e w2 ⟨r, rfl, hr, hw2⟩
  rw [hw2]
  have HR := Lib.hid hr
  clear hr hw2
  go_wp2_with fail
  go_ret
  exact ⟨r, rfl, HR.out, HB.out⟩
theorem refSum_any {l : List Nat} {v : Value} {R : Nat → Prop} {w : World} (h : Fls w R v l) :
    Calls Tryz.prog 21 #[v] w fun e w' => ∃ r, e = .returned (.float .f64 r) ∧ IsF r (fzero (sumL (nums l))) ∧ Below w.heap.size w w' := by
  obtain ⟨A, cap, rfl, hnc, hcap⟩ := h.form
  have HL := Lib.hid h
  clear h
  go_enter Tryz.func21, Tryz.ntmps21
  go_wp2_with fail
  refine (refsum_any HL.out).mono ?_
  rintro e w1 ⟨s, rfl, hs, hb⟩
  have HS := Lib.hid hs
  have HB := Lib.hid hb
  clear hs hb
  go_wp2_with fail
  refine (zero_any HS.out _).mono ?_
  rintro e w2 ⟨r, rfl, hr, hw2⟩
  rw [hw2]
  have HR := Lib.hid hr
  clear hr hw2
  go_wp2_with fail
  go_ret
  exact ⟨r, rfl, HR.out, HB.out⟩
theorem Mean_any {l : List Nat} {v : Value} {R : Nat → Prop} {w : World} (h : Fls w R v l) :
    Calls Tryz.prog 22 #[v] w fun e w' => ∃ r, e = .returned (.float .f64 r) ∧ IsF r (fzero (meanL l)) ∧ Below w.heap.size w w' := by
  obtain ⟨A, cap, rfl, hnc, hcap⟩ := h.form
  have HL := Lib.hid h
  clear h
  go_enter Tryz.func22, Tryz.ntmps22
  go_wp2_with fail
  refine (mean_any HL.out).mono ?_
  rintro e w1 ⟨s, rfl, hs, hb⟩
  have HS := Lib.hid hs
  have HB := Lib.hid hb
  clear hs hb
  go_wp2_with fail
  refine (plain_any HS.out _).mono ?_
  rintro e w2 ⟨r, rfl, hr, hw2⟩
  rw [hw2]
  have HR := Lib.hid hr
  clear hr hw2
  go_wp2_with fail
  go_ret
  exact ⟨r, rfl, HR.out, HB.out⟩
/-- what the document answers where it may say 'none' -/
def Maybe (l : List Nat) (F : Fl) (w : World) (e : Ending) (w' : World) : Prop :=
  (∃ r, e = .returned (.tuple #[.float .f64 r, .bool (!l.isEmpty)]) ∧ (l ≠ [] → IsF r F) ∧ r < bits64) ∧ Below w.heap.size w w'
theorem refMean_any {l : List Nat} {v : Value} {R : Nat → Prop} {w : World} (h : Fls w R v l) :
    Calls Tryz.prog 14 #[v] w (Maybe l (fzero (meanL l)) w) := by
  obtain ⟨A, cap, rfl, hnc, hcap⟩ := h.form
  have HL := Lib.hid h
  clear h
  by_cases he : l = []
  · have d1 : ((l.length : Int) == 0) = true := by rw [he]; rfl
    have HE := Lib.hid he
    clear he
    go_enter Tryz.func14, Tryz.ntmps14
    go_wp2_with fail
    go_ret2
    exact ⟨⟨0, by rw [HE.out]; rfl, fun h => absurd HE.out h, by decide⟩, Below.refl _ _⟩
  · have d1 : ((l.length : Int) == 0) = false := by
      cases l with
      | nil => exact absurd rfl he
      | cons x r => simp; omega
    have HE := Lib.hid he
    clear he
    go_enter Tryz.func14, Tryz.ntmps14
    go_wp2_with fail
    refine (refmean_any HL.out HE.out).mono ?_
    rintro e w1 ⟨s, rfl, hs, hb⟩
    have HS := Lib.hid hs
    have HB := Lib.hid hb
    clear hs hb
    go_wp2_with fail
    refine (zero_any HS.out _).mono ?_
    rintro e w2 ⟨r, rfl, hr, hw2⟩
    rw [hw2]
    have HR := Lib.hid hr
    clear hr hw2
    go_wp2_with fail
    go_ret2
    exact ⟨⟨r, by rw [show l.isEmpty = false by cases l with | nil => exact absurd rfl HE.out | cons x r => rfl]; rfl, fun _ => HR.out, HR.out.1⟩, HB.out⟩
end Go.Proofs.YtidejikolcgojaaGreat.St

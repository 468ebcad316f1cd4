/- Stats: sums. (Printed by tools/gen_ste.py.) -/
import Derived.Test.YtidejikolcgojaaGreatStD
namespace Go.Proofs.YtidejikolcgojaaGreat.St
open Go.RowKit Go.Shelf
open Go.Proofs.YtidejikolcgojaaGreat.Vb Go.Proofs.YtidejikolcgojaaGreat.Ac
attribute [local go_sem] run_fadd run_fsub run_fmul run_fdiv run_store_float

def foldF (fs : List Fl) : Fl × Fl := fs.foldl addF (some 0, some 0)
/-- the sum of a row, as it comes -/
def sumL (fs : List Fl) : Fl := fadd (foldF fs).1 (foldF fs).2
theorem foldF_snoc {fs : List Fl} {k : Nat} {f : Fl} (h : fs[k]? = some f) : foldF (fs.take (k + 1)) = addF (foldF (fs.take k)) f := by
  unfold foldF
  rw [List.take_add_one, h]
  simp [List.foldl_append]
/-- the function value g answers the numbers fs, place by place -/
def Giv (P : Program) (g : Nat) (cb : Array Value) (fs : List Fl) (w : World) : Prop :=
  ∀ (W : World) (i : Nat) (f : Fl), Below w.heap.size w W → fs[i]? = some f → Calls P g (#[.int .i64 i] ++ cb) W fun e W' => ∃ r, e = .returned (.float .f64 r) ∧ IsF r f ∧ Below W.heap.size W W'
theorem sum_any {fs : List Fl} {g : Nat} {cb : Array Value} {w : World} (hg : Giv Tryz.prog g cb fs w) (eg : ∀ args W, (callFunc g args).run Tryz.prog W = .ok (.enter g args) W) (hn : fs.length ≤ 9223372036854775807) :
    Calls Tryz.prog 44 #[.int .i64 fs.length, .func (.func g) #[] cb] w fun e w' => ∃ r, e = .returned (.float .f64 r) ∧ IsF r (sumL fs) ∧ Below w.heap.size w w' := by
  have HG := Lib.hid hg
  have HZ := Lib.hid (show sumL fs = fadd (foldF fs).1 (foldF fs).2 from rfl)
  obtain ⟨z, hz⟩ : ∃ z, z = sumL fs := ⟨_, rfl⟩
  rw [← hz] at HZ ⊢
  obtain ⟨U, hU⟩ : ∃ U, U = w.alloc (.cells #[.float .f64 0, .float .f64 0] 93) := ⟨_, rfl⟩
  have HU := Lib.hid (show AddAt U w.heap.size (foldF (fs.take 0)) from ⟨0, 0, by rw [hU]; exact Blk.new w _ _, zero_isF, zero_isF⟩)
  have HBU := Lib.hid (show Below w.heap.size w U by rw [hU]; exact (Below.refl _ _).alloc (Nat.le_refl _) _)
  clear hg hz
  go_enter Tryz.func44, Tryz.ntmps44
  go_wp2_with fail
  rw [← hU]
  clear hU
  go_loopw [8] (fun i wr => ∃ k : Nat, k ≤ fs.length ∧ i = .int .i64 k ∧ AddAt wr w.heap.size (foldF (fs.take k)) ∧ Below w.heap.size w wr) (fun i _ => fs.length - (intOf i).toNat)
  case atStart => exact ⟨0, Nat.zero_le _, rfl, HU.out, HBU.out⟩
  case round =>
    obtain ⟨k, hk, rfl, ha, hb⟩ := hrel
    have HA := Lib.hid ha
    have HB := Lib.hid hb
    have hsz := hb.size
    clear hb
    by_cases hlt : k < fs.length
    · obtain ⟨f, hf⟩ : ∃ f, fs[k]? = some f := ⟨_, List.getElem?_eq_getElem hlt⟩
      have HF := Lib.hid hf
      have HS := Lib.hid (foldF_snoc hf)
      have n1 : (k : Int) < (fs.length : Int) := by omega
      clear ha hf
      go_wp2_with fail
      refine (HG.out wr k f HB.out HF.out).mono ?_
      rintro e w1 ⟨r, rfl, hr, hb1⟩
      have HA1 := Lib.hid (show AddAt w1 w.heap.size (foldF (fs.take k)) from by
        obtain ⟨s, c, h1, h2, h3⟩ := HA.out
        exact ⟨s, c, h1.grow hb1, h2, h3⟩)
      have HR := Lib.hid hr
      have HB1 := Lib.hid (HB.out.trans (hb1.mono HB.out.size))
      clear hr hb1
      go_wp2_with fail
      refine (add_any HA1.out HR.out).mono ?_
      rintro e w2 ⟨rfl, ha2, hc2⟩
      have HA2 := Lib.hid ha2
      have HB2 := Lib.hid (HB1.out.trans (hc2.below (B := w.heap.size) HB1.out.size (fun k hk e => by omega)))
      clear ha2 hc2
      go_wp2_with fail
      go_roundw
      case rel => exact ⟨k + 1, by omega, by go_num, by rw [HS.out]; exact HA2.out, HB2.out⟩
      case measure => simp [intOf]; omega
    · obtain rfl : k = fs.length := by omega
      obtain ⟨s, c, h1, h2, h3⟩ := ha
      rw [List.take_length] at h2 h3
      have k0 : wr.cell? ⟨w.heap.size, 0, none⟩ = some (.float .f64 s) := h1.cell 0
      have k1 : wr.cell? ⟨w.heap.size, 1, none⟩ = some (.float .f64 c) := h1.cell 1
      have H2 := Lib.hid h2
      have H3 := Lib.hid h3
      clear h1 h2 h3 HA
      go_wp2_with fail
      go_ret
      exact ⟨_, rfl, by rw [HZ.out]; exact isF_add H2.out H3.out _, below_drewN HB.out _⟩

/-- a row's numbers -/
def nums (l : List Nat) : List Fl := l.map cn
theorem nums_at {l : List Nat} {k x : Nat} (h : l[k]? = some x) : (nums l)[k]? = some (cn x) := by
  unfold nums
  rw [List.getElem?_map, h]
  rfl
theorem nums_length (l : List Nat) : (nums l).length = l.length := List.length_map ..
set_option maxRecDepth 100000 in
set_option maxHeartbeats 4000000 in
theorem refsum_any {l : List Nat} {v : Value} {R : Nat → Prop} {w : World} (h : Fls w R v l) :
    Calls Tryz.prog 50 #[v] w fun e w' => ∃ r, e = .returned (.float .f64 r) ∧ IsF r (sumL (nums l)) ∧ Below w.heap.size w w' := by
  obtain ⟨A, cap, rfl, hnc, hcap⟩ := h.form
  unfold maxLen at hcap
  have HL := Lib.hid h
  have HZ := Lib.hid (show sumL (nums l) = fadd (foldF (nums l)).1 (foldF (nums l)).2 from rfl)
  obtain ⟨z, hz⟩ : ∃ z, z = sumL (nums l) := ⟨_, rfl⟩
  rw [← hz] at HZ ⊢
  obtain ⟨I, hI⟩ : ∃ I : World → Prop, I = Below w.heap.size w := ⟨_, rfl⟩
  have hIn : ∀ W n, I W → I (W.drewN n) := by rw [hI]; exact fun W n h => below_drewN h n
  have hI1 : ∀ W, I W → Below w.heap.size w W := by rw [hI]; exact fun W h => h
  have HI := Lib.hid (show I w by rw [hI]; exact Below.refl _ _)
  clear h hz hI
  go_enter Tryz.func50, Tryz.ntmps50
  go_wp2_with fail
  go_loopw [3, 4, 5] (fun s c i wr => ∃ k s' c' : Nat, k ≤ l.length ∧ i = .int .i64 k ∧ s = .float .f64 s' ∧ c = .float .f64 c' ∧ IsF s' (foldF ((nums l).take k)).1 ∧ IsF c' (foldF ((nums l).take k)).2 ∧ I wr) (fun _ _ i _ => l.length - (intOf i).toNat)
  case atStart => exact ⟨0, 0, 0, Nat.zero_le _, rfl, rfl, rfl, zero_isF, zero_isF, HI.out⟩
  case round =>
    obtain ⟨k, s, c, hk, rfl, rfl, rfl, hs, hc, hi⟩ := hrel
    have HS := Lib.hid hs
    have HC := Lib.hid hc
    have HIr := Lib.hid hi
    clear hs hc
    by_cases hlt : k < l.length
    · obtain ⟨x, hx⟩ : ∃ x, l[k]? = some x := ⟨_, List.getElem?_eq_getElem hlt⟩
      have HSN := Lib.hid (foldF_snoc (nums_at hx))
      obtain ⟨bq, off, rfl, _, _, q0, q1⟩ := (HL.out.grow (hI1 _ hi)).at_ hx
      obtain ⟨p, hp⟩ : ∃ p, p = foldF ((nums l).take k) := ⟨_, rfl⟩
      obtain ⟨p', hp'⟩ : ∃ p, p = foldF ((nums l).take (k + 1)) := ⟨_, rfl⟩
      rw [← hp] at HS HC HSN
      rw [← hp'] at HSN
      have HP' := Lib.hid hp'
      obtain ⟨f, hf⟩ : ∃ f, f = cn x := ⟨_, rfl⟩
      rw [← hf] at HSN
      have HX := Lib.hid (show IsF x f from ⟨q1, hf.symm⟩)
      have e1 : (0 : Int) ≤ (k : Int) := by omega
      have e2 : (k : Int) < (l.length : Int) := by omega
      obtain ⟨fs, fc⟩ := p
      clear hx hp hp' hf hi q1
      go_wp2_with fail
      generalize hv : aV Ieee.double.add s x _ = t
      have Ht := Lib.hid (isF_eq hv (isF_add HS.out HX.out _))
      clear hv
      generalize hW : wr.drewN _ = w0
      have HI0 := Lib.hid (show I w0 from hW ▸ hIn _ _ HIr.out)
      clear hW
      go_wp2_with fail
      refine (abs_any HS.out _).mono ?_
      rintro e w9 ⟨ra, rfl, hA, hw9⟩
      rw [hw9]
      clear hw9
      have HA := Lib.hid hA
      clear hA
      go_wp2_with fail
      refine (abs_any HX.out _).mono ?_
      rintro e w9 ⟨rb, rfl, hA, hw9⟩
      rw [hw9]
      clear hw9
      have ho := order_isF HA.out hA
      clear hA
      by_cases hg : fge (fabs fs) (fabs f) = true
      · have d1 : (FloatKind.f64.format.order ra rb == some .gt || FloatKind.f64.format.order ra rb == some .eq) = true := by rw [ho]; exact hg
        have HP2 := Lib.hid (show p' = (fadd fs f, fadd fc (fadd (fsub fs (fadd fs f)) f)) by rw [HSN.out]; unfold addF; simp only; rw [if_pos hg])
        clear ho hg
        go_wp2_with fail
        generalize hv : aV Ieee.double.sub s t _ = x1
        have Hx1 := Lib.hid (isF_eq hv (isF_sub HS.out Ht.out _))
        clear hv
        generalize hv : aV Ieee.double.add x1 x _ = x2
        have Hx2 := Lib.hid (isF_eq hv (isF_add Hx1.out HX.out _))
        clear hv
        generalize hv : aV Ieee.double.add c x2 _ = x3
        have Hx3 := Lib.hid (isF_eq hv (isF_add HC.out Hx2.out _))
        clear hv
        generalize hW : w0.drewN _ = w4
        have HI9 := Lib.hid (show I w4 from hW ▸ hIn _ _ HI0.out)
        clear hW
        go_roundw
        case rel => exact ⟨k + 1, _, _, by omega, by go_num, rfl, rfl, by rw [← HP'.out, HP2.out]; exact Ht.out, by rw [← HP'.out, HP2.out]; exact Hx3.out, HI9.out⟩
        case measure => simp [intOf]; omega
      · have hg' : fge (fabs fs) (fabs f) = false := by simpa using hg
        have d1 : (FloatKind.f64.format.order ra rb == some .gt || FloatKind.f64.format.order ra rb == some .eq) = false := by rw [ho]; exact hg'
        have HP2 := Lib.hid (show p' = (fadd fs f, fadd fc (fadd (fsub f (fadd fs f)) fs)) by rw [HSN.out]; unfold addF; simp only; rw [if_neg hg])
        clear ho hg hg'
        go_wp2_with fail
        generalize hv : aV Ieee.double.sub x t _ = x1
        have Hx1 := Lib.hid (isF_eq hv (isF_sub HX.out Ht.out _))
        clear hv
        generalize hv : aV Ieee.double.add x1 s _ = x2
        have Hx2 := Lib.hid (isF_eq hv (isF_add Hx1.out HS.out _))
        clear hv
        generalize hv : aV Ieee.double.add c x2 _ = x3
        have Hx3 := Lib.hid (isF_eq hv (isF_add HC.out Hx2.out _))
        clear hv
        generalize hW : w0.drewN _ = w4
        have HI9 := Lib.hid (show I w4 from hW ▸ hIn _ _ HI0.out)
        clear hW
        go_roundw
        case rel => exact ⟨k + 1, _, _, by omega, by go_num, rfl, rfl, by rw [← HP'.out, HP2.out]; exact Ht.out, by rw [← HP'.out, HP2.out]; exact Hx3.out, HI9.out⟩
        case measure => simp [intOf]; omega
    · obtain rfl : k = l.length := by omega
      have hs := HS.out
      have hc := HC.out
      rw [show (nums l).take l.length = nums l from List.take_of_length_le (by rw [nums_length]; omega)] at hs hc
      have H2 := Lib.hid hs
      have H3 := Lib.hid hc
      clear hs hc HS HC
      go_wp2_with fail
      go_ret
      exact ⟨_, rfl, by rw [HZ.out]; exact isF_add H2.out H3.out _, below_drewN (hI1 _ HIr.out) _⟩
end Go.Proofs.YtidejikolcgojaaGreat.St

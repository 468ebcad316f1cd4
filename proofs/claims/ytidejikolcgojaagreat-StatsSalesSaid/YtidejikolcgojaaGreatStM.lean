/- Stats: the program's turn; the document's worth. -/
import Derived.Test.YtidejikolcgojaaGreatStL
namespace Go.Proofs.YtidejikolcgojaaGreat.St
open Go.RowKit Go.Shelf
open Go.Proofs.YtidejikolcgojaaGreat.Vb Go.Proofs.YtidejikolcgojaaGreat.Ac
attribute [local go_sem] run_fadd run_fsub run_fmul run_fdiv run_store_float

theorem turn11_any {W : World} {g gp : Nat} {R : Nat → Prop} {l : List Nat} {p : Nat} (h : RowAt W g R l) (hp : Blk W gp 3 #[.int .i64 p]) (hp3 : p ≤ 3) (hle : l.length ≤ 1000) {i x : Nat} (hx : l[4 * i + p]? = some x) :
    Calls Tryz.prog 67 #[.int .i64 i, .pointer (some ⟨g, 0, none⟩), .pointer (some ⟨gp, 0, none⟩)] W fun e W' => e = .returned (.float .f64 x) ∧ W' = W := by
  obtain ⟨v, h1, h2⟩ := h
  obtain ⟨A, cap, rfl, hnc, hcap⟩ := h2.form
  have hlt := (List.getElem?_eq_some_iff.1 hx).1
  obtain ⟨bq, off, rfl, _, _, q0, q1⟩ := h2.at_ hx
  have k0 : W.cell? ⟨g, 0, none⟩ = some (.slice (some ⟨bq, off, none⟩) l.length cap) := h1.cell 0
  have k1 : W.cell? ⟨gp, 0, none⟩ = some (.int .i64 p) := hp.cell 0
  have e0 : IntKind.i64.wrap (4 * (i : Int)) = 4 * (i : Int) := IntWalk.i64_in _ (by omega)
  have e1 : IntKind.i64.wrap (4 * (i : Int) + (p : Int)) = 4 * (i : Int) + (p : Int) := IntWalk.i64_in _ (by omega)
  have e2 : (0 : Int) ≤ 4 * (i : Int) + (p : Int) := by omega
  have e3 : 4 * (i : Int) + (p : Int) < (l.length : Int) := by omega
  have e4 : (4 * (i : Int) + (p : Int)).toNat = 4 * i + p := by omega
  clear h1 h2 hx hp
  go_enter Tryz.func67, Tryz.ntmps67
  go_wp2_with fail
  go_ret
  exact ⟨rfl, rfl⟩
theorem turn_giv {W : World} {g gp : Nat} {R : Nat → Prop} {l : List Nat} {p : Nat} (h : RowAt W g R l) (hp : Blk W gp 3 #[.int .i64 p]) (hp3 : p ≤ 3) (hle : l.length ≤ 1000) :
    Giv Tryz.prog 67 #[.pointer (some ⟨g, 0, none⟩), .pointer (some ⟨gp, 0, none⟩)] (nums (everyN l p)) W := by
  intro W1 i f hb hf
  obtain ⟨x, hx, rfl⟩ := nums_get hf
  have hx' := everyN_get hp3 hx
  refine (turn11_any (h.grow hb) (hp.grow hb) hp3 hle hx').mono ?_
  rintro e W' ⟨rfl, rfl⟩
  exact ⟨x, rfl, isF_self (h.lt x (List.mem_of_getElem? hx')), Below.refl _ _⟩
theorem turn1_any {W : World} {g : Nat} {R : Nat → Prop} {l : List Nat} {p : Nat} (h : RowAt W g R l) (hp3 : p ≤ 3) (hle : l.length ≤ 1000) :
    Calls Tryz.prog 66 #[.int .i64 p, .pointer (some ⟨g, 0, none⟩)] W fun e W' => ∃ r, e = .returned (.float .f64 r) ∧ IsF r (turnS l p) ∧ Below W.heap.size W W' := by
  obtain ⟨U, hU⟩ : ∃ U, U = W.alloc (.cells #[.int .i64 p] 3) := ⟨_, rfl⟩
  have hB : Below W.heap.size W U := by rw [hU]; exact (Below.refl _ _).alloc (Nat.le_refl _) _
  have hP : Blk U W.heap.size 3 #[.int .i64 p] := by rw [hU]; exact Blk.new _ _ _
  have hG := h.grow hB
  have HG := Lib.hid (turn_giv hG hP hp3 hle)
  have HB := Lib.hid hB
  obtain ⟨v, h1, h2⟩ := hG
  obtain ⟨A, cap, rfl, hnc, hcap⟩ := h2.form
  have k0 : U.cell? ⟨g, 0, none⟩ = some (.slice A l.length cap) := h1.cell 0
  have k1 : U.cell? ⟨W.heap.size, 0, none⟩ = some (.int .i64 p) := hP.cell 0
  have k2 : (W.alloc (.cells #[.int .i64 p] 3)).cell? ⟨g, 0, none⟩ = some (.slice A l.length cap) := by rw [← hU]; exact k0
  have e0 : IntKind.i64.wrap ((l.length : Int) + 3) = (l.length : Int) + 3 := IntWalk.i64_in _ (by omega)
  have e1 : IntKind.i64.wrap ((l.length : Int) + 3 - (p : Int)) = (l.length : Int) + 3 - (p : Int) := IntWalk.i64_in _ (by omega)
  have e2 : (0 : Int) ≤ (l.length : Int) + 3 - (p : Int) := by omega
  have HC := Lib.hid (show ((l.length : Int) + 3 - (p : Int)) / 4 = (((l.length + 3 - p) / 4 : Nat) : Int) by omega)
  have HT := Lib.hid (show turnS l p = sumL (nums (everyN l p)) from rfl)
  obtain ⟨z, hz⟩ : ∃ z, z = turnS l p := ⟨_, rfl⟩
  rw [← hz] at HT ⊢
  clear h hB hP h1 h2 hz
  go_enter Tryz.func66, Tryz.ntmps66
  go_wp2_with fail
  rw [← hU]
  clear hU
  go_wp2_with fail
  rw [HC.out]
  refine (sum_anyN HG.out (by rw [nums_length, everyN_length]) (by omega) (fun args W => by go_simp)).mono ?_
  rintro e w2 ⟨r, rfl, hr, hb⟩
  have HR := Lib.hid hr
  have HB2 := Lib.hid (HB.out.trans (hb.mono HB.out.size))
  clear hr hb
  go_wp2_with fail
  go_ret
  exact ⟨r, rfl, by rw [HT.out]; exact HR.out, HB2.out⟩

set_option maxRecDepth 100000 in
set_option maxHeartbeats 4000000 in
theorem Turn_any {l : List Nat} {v : Value} {R : Nat → Prop} {w : World} (h : Fls w R v l) (hle : l.length ≤ 1000) :
    Calls Tryz.prog 29 #[v] w fun e w' => (∃ a b, e = .returned (.complex .f64 a b) ∧ IsF a (turnR l) ∧ IsF b (turnI l)) ∧ Below w.heap.size w w' := by
  obtain ⟨A, cap, rfl, hnc, hcap⟩ := h.form
  obtain ⟨U, hU⟩ : ∃ U, U = w.alloc (.cells #[.slice A l.length cap] 24) := ⟨_, rfl⟩
  have hB : Below w.heap.size w U := by rw [hU]; exact (Below.refl _ _).alloc (Nat.le_refl _) _
  have hR : RowAt U w.heap.size R l := ⟨_, by rw [hU]; exact Blk.new w _ _, h.grow hB⟩
  have HB := Lib.hid hB
  have HR := Lib.hid hR
  obtain ⟨zr, hzr⟩ : ∃ z, z = turnR l := ⟨_, rfl⟩
  obtain ⟨zi, hzi⟩ : ∃ z, z = turnI l := ⟨_, rfl⟩
  have HZR := Lib.hid hzr
  have HZI := Lib.hid hzi
  rw [← hzr, ← hzi]
  clear h hB hR hzr hzi
  go_enter Tryz.func29, Tryz.ntmps29
  go_wp2_with fail
  rw [← hU]
  clear hU
  go_wp2_with fail
  refine (turn1_any (p := 0) HR.out (by omega) hle).mono ?_
  rintro e w1 ⟨s0, rfl, hs, hb⟩
  have HS0 := Lib.hid hs
  have HR1 := Lib.hid (HR.out.grow hb)
  have HB1 := Lib.hid (HB.out.trans (hb.mono HB.out.size))
  clear hs hb
  go_wp2_with fail
  refine (turn1_any (p := 2) HR1.out (by omega) hle).mono ?_
  rintro e w2 ⟨s2, rfl, hs, hb⟩
  have HS2 := Lib.hid hs
  have HR2 := Lib.hid (HR1.out.grow hb)
  have HB2 := Lib.hid (HB1.out.trans (hb.mono HB1.out.size))
  clear hs hb
  go_wp2_with fail
  generalize hv : aV Ieee.double.sub s0 s2 _ = q
  have HQ := Lib.hid (isF_eq hv (isF_sub HS0.out HS2.out _))
  clear hv
  generalize hW : w2.drewN _ = w3
  have HR3 := Lib.hid (show RowAt w3 w.heap.size R l by rw [← hW]; exact HR2.out.grow (below_drewN (Below.refl _ _) _))
  have HB3 := Lib.hid (show Below w.heap.size w w3 by rw [← hW]; exact below_drewN HB2.out _)
  clear hW
  refine (plain_any HQ.out _).mono ?_
  rintro e w9 ⟨r5, rfl, hr, hw9⟩
  rw [hw9]
  have HR5 := Lib.hid hr
  clear hr hw9 HQ
  go_wp2_with fail
  refine (turn1_any (p := 1) HR3.out (by omega) hle).mono ?_
  rintro e w4 ⟨s1, rfl, hs, hb⟩
  have HS1 := Lib.hid hs
  have HR4 := Lib.hid (HR3.out.grow hb)
  have HB4 := Lib.hid (HB3.out.trans (hb.mono HB3.out.size))
  clear hs hb
  go_wp2_with fail
  refine (turn1_any (p := 3) HR4.out (by omega) hle).mono ?_
  rintro e w5 ⟨s3, rfl, hs, hb⟩
  have HS3 := Lib.hid hs
  have HB5 := Lib.hid (HB4.out.trans (hb.mono HB4.out.size))
  clear hs hb
  go_wp2_with fail
  generalize hv : aV Ieee.double.sub s1 s3 _ = q
  have HQ := Lib.hid (isF_eq hv (isF_sub HS1.out HS3.out _))
  clear hv
  generalize hW : w5.drewN _ = w6
  have HB6 := Lib.hid (show Below w.heap.size w w6 by rw [← hW]; exact below_drewN HB5.out _)
  clear hW
  refine (plain_any HQ.out _).mono ?_
  rintro e w9 ⟨r9, rfl, hr, hw9⟩
  rw [hw9]
  have HR9 := Lib.hid hr
  clear hr hw9 HQ
  go_wp2_with fail
  go_ret
  exact ⟨⟨r5, r9, rfl, by rw [HZR.out]; exact HR5.out, by rw [HZI.out]; exact HR9.out⟩, HB6.out⟩

/-- what a row is worth now: the last k of it -/
def worthF (q : Fl) (fs : List Fl) : Fl := fs.foldr (fun f a => fadd f (fmul q a)) (some 0)
theorem worthF_drop {q : Fl} {fs : List Fl} {k : Nat} {f : Fl} (h : fs[k]? = some f) : worthF q (fs.drop k) = fadd f (fmul q (worthF q (fs.drop (k + 1)))) := by
  have hk := (List.getElem?_eq_some_iff.1 h).1
  rw [List.drop_eq_getElem_cons hk]
  have : fs[k] = f := by rw [List.getElem?_eq_getElem hk] at h; injection h
  rw [this]
  rfl
set_option maxRecDepth 100000 in
set_option maxHeartbeats 4000000 in
theorem refWorth_any {l : List Nat} {v : Value} {R : Nat → Prop} {q : Nat} {fq : Fl} {w : World} (h : Fls w R v l) (hq : IsF q fq) (hle : l.length ≤ 1000) :
    Calls Tryz.prog 32 #[.float .f64 q, v] w fun e w' => ∃ r, e = .returned (.float .f64 r) ∧ IsF r (fzero (worthF fq (nums l))) ∧ Below w.heap.size w w' := by
  obtain ⟨A, cap, rfl, hnc, hcap⟩ := h.form
  have HL := Lib.hid h
  have HQ := Lib.hid hq
  have e0 : IntKind.i64.wrap ((l.length : Int) - 1) = (l.length : Int) - 1 := IntWalk.i64_in _ (by omega)
  clear h hq
  go_enter Tryz.func32, Tryz.ntmps32
  go_wp2_with fail
  go_loopw [5, 6] (fun a i wr => ∃ k a' : Nat, k ≤ l.length ∧ i = .int .i64 ((k : Int) - 1) ∧ a = .float .f64 a' ∧ IsF a' (worthF fq ((nums l).drop k)) ∧ Below w.heap.size w wr) (fun _ i _ => (intOf i + 1).toNat)
  case atStart => exact ⟨l.length, 0, Nat.le_refl _, rfl, rfl, by rw [List.drop_of_length_le (by rw [nums_length]; omega)]; exact zero_isF, Below.refl _ _⟩
  case round =>
    obtain ⟨k, a, hk, rfl, rfl, ha, hb⟩ := hrel
    have HA := Lib.hid ha
    have HB := Lib.hid hb
    clear ha
    cases k with
    | zero =>
      have HA0 := Lib.hid (show IsF a (worthF fq (nums l)) from HA.out)
      have d1 : ¬ (0 : Int) ≤ ((0 : Nat) : Int) - 1 := by omega
      clear HA hb
      go_wp2_with fail
      refine (zero_any HA0.out _).mono ?_
      rintro e w9 ⟨r, rfl, hr, hw9⟩
      rw [hw9]
      have HR := Lib.hid hr
      clear hr hw9
      go_wp2_with fail
      go_ret
      exact ⟨r, rfl, HR.out, HB.out⟩
    | succ k =>
      rw [show ((k + 1 : Nat) : Int) - 1 = (k : Int) by omega]
      obtain ⟨x, hx⟩ : ∃ x, l[k]? = some x := ⟨_, List.getElem?_eq_getElem (by omega)⟩
      have HW := Lib.hid (worthF_drop (q := fq) (nums_at hx))
      obtain ⟨bq, off, rfl, _, _, q0, q1⟩ := (HL.out.grow hb).at_ hx
      have HX := Lib.hid (isF_self q1)
      have e1 : (0 : Int) ≤ (k : Int) := by omega
      have e2 : (k : Int) < (l.length : Int) := by omega
      have e3 : IntKind.i64.wrap ((k : Int) - 1) = (k : Int) - 1 := IntWalk.i64_in _ (by omega)
      clear hx q1 hb
      go_wp2_with fail
      generalize hv : aV Ieee.double.mul q a _ = x1
      have Hx1 := Lib.hid (isF_eq hv (isF_mul HQ.out HA.out _))
      clear hv
      generalize hv : aV Ieee.double.add x x1 _ = x2
      have Hx2 := Lib.hid (isF_eq hv (isF_add HX.out Hx1.out _))
      clear hv
      go_roundw
      case rel => exact ⟨k, x2, by omega, rfl, rfl, by rw [HW.out]; exact Hx2.out, below_drewN HB.out _⟩
      case measure => simp [intOf]
end Go.Proofs.YtidejikolcgojaaGreat.St

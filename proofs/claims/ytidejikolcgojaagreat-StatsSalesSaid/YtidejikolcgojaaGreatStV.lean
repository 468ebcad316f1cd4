/- Stats: how unequal, the ends: the program's. (Printed by tools/gen_stv.py.) -/
import Derived.Test.YtidejikolcgojaaGreatStU
namespace Go.Proofs.YtidejikolcgojaaGreat.St
open Go.RowKit Go.Shelf
open Go.Proofs.YtidejikolcgojaaGreat.Vb Go.Proofs.YtidejikolcgojaaGreat.Ac
attribute [local go_sem] run_fadd run_fsub run_fmul run_fdiv run_store_float

abbrev two64 : Nat := 4611686018427387904
theorem two_isF : IsF two64 (some two64) := ⟨by decide, by decide⟩
/-- a row's numbers by their places from 1 on -/
def placesL (s : List Nat) : List Fl := (List.range s.length).map fun (i : Nat) => fmul (cn (s.getD i 0)) (some (floatOfInt .f64 ((i : Int) + 1)))
theorem placesL_length (s : List Nat) : (placesL s).length = s.length := by simp [placesL]
theorem placesL_at {s : List Nat} {i x : Nat} (hx : s[i]? = some x) : (placesL s)[i]? = some (fmul (cn x) (some (floatOfInt .f64 ((i : Int) + 1)))) := by
  have h := (List.getElem?_eq_some_iff.1 hx).1
  unfold placesL
  rw [List.getElem?_map, List.getElem?_range h]
  simp [List.getD, hx]
theorem unequal1_any {W : World} {g : Nat} {R : Nat → Prop} {s : List Nat} (h : RowAt W g R s) (hle : s.length ≤ 1000) {i x : Nat} (hx : s[i]? = some x) :
    Calls Tryz.prog 62 #[.int .i64 i, .pointer (some ⟨g, 0, none⟩)] W fun e W' => ∃ r, e = .returned (.float .f64 r) ∧ IsF r (fmul (cn x) (some (floatOfInt .f64 ((i : Int) + 1)))) ∧ Below W.heap.size W W' := by
  obtain ⟨v, h1, h2⟩ := h
  obtain ⟨A, cap, rfl, hnc, hcap⟩ := h2.form
  have hlt := (List.getElem?_eq_some_iff.1 hx).1
  obtain ⟨bq, off, rfl, _, _, q0, q1⟩ := h2.at_ hx
  have k0 : W.cell? ⟨g, 0, none⟩ = some (.slice (some ⟨bq, off, none⟩) s.length cap) := h1.cell 0
  have e1 : (0 : Int) ≤ (i : Int) := by omega
  have e2 : (i : Int) < (s.length : Int) := by omega
  have e3 : IntKind.i64.wrap ((i : Int) + 1) = (i : Int) + 1 := IntWalk.i64_in _ (by omega)
  have HX := Lib.hid (isF_self q1)
  clear h1 h2 hx q1
  go_enter Tryz.func62, Tryz.ntmps62
  go_wp2_with fail
  generalize hv : aV Ieee.double.mul x _ _ = r
  have HR := Lib.hid (isF_eq hv (isF_mul HX.out (isF_int _) _))
  clear hv
  go_ret
  exact ⟨r, rfl, HR.out, below_drewN (Below.refl _ _) _⟩
theorem unequal_giv {W : World} {g : Nat} {R : Nat → Prop} {s : List Nat} (h : RowAt W g R s) (hle : s.length ≤ 1000) : Giv Tryz.prog 62 #[.pointer (some ⟨g, 0, none⟩)] (placesL s) W := by
  intro W1 i f hb hf
  have hi : i < s.length := by have := (List.getElem?_eq_some_iff.1 hf).1; rwa [placesL_length] at this
  obtain ⟨x, hx⟩ : ∃ x, s[i]? = some x := ⟨_, List.getElem?_eq_getElem hi⟩
  rw [placesL_at hx] at hf
  injection hf with hf
  subst hf
  exact unequal1_any (h.grow hb) hle hx

def uneqNo (l : List Nat) : Bool := l.isEmpty || l.any isN
def uneqN (l : List Nat) : Fl := some (floatOfInt .f64 (l.length : Int))
def uneqL (l : List Nat) : Fl :=
  fsub (fdiv (fmul (some two64) (sumL (placesL (sortB l)))) (fmul (uneqN l) (sumL (nums (sortB l))))) (fdiv (fadd (uneqN l) (some one64)) (uneqN l))
set_option maxRecDepth 100000 in
set_option maxHeartbeats 8000000 in
theorem Unequal_any {l : List Nat} {v : Value} {R : Nat → Prop} {w : World} (h : Fls w R v l) (hle : l.length ≤ 1000) :
    Calls Tryz.prog 25 #[v] w fun e w' => ∃ r, e = .returned (.float .f64 r) ∧ IsF r (if uneqNo l then none else fzero (uneqL l)) ∧ Below w.heap.size w w' := by
  obtain ⟨A, cap, rfl, hnc, hcap⟩ := h.form
  have HL := Lib.hid h
  obtain ⟨z, hz⟩ : ∃ z, z = if uneqNo l then none else fzero (uneqL l) := ⟨_, rfl⟩
  rw [← hz]
  clear h
  by_cases he : l = []
  · have HZ := Lib.hid (show z = none by rw [hz, if_pos (by rw [he]; rfl)])
    have d1 : ((l.length : Int) == 0) = true := by rw [he]; rfl
    clear he hz
    go_enter Tryz.func25, Tryz.ntmps25
    go_wp2_with fail
    refine (nan_any _).mono ?_
    rintro e w1 ⟨rfl, hw1⟩
    rw [hw1]
    clear hw1
    go_wp2_with fail
    go_ret
    exact ⟨_, rfl, by rw [HZ.out]; exact nan_isF, Below.refl _ _⟩
  · have d1 : ((l.length : Int) == 0) = false := by
      cases l with
      | nil => exact absurd rfl he
      | cons x r => simp; omega
    have hie : l.isEmpty = false := by
      cases l with
      | nil => exact absurd rfl he
      | cons x r => rfl
    cases hn : l.any isN with
    | true =>
      have HZ := Lib.hid (show z = none by rw [hz, if_pos (by unfold uneqNo; rw [hn]; simp)])
      have HN := Lib.hid hn
      clear he hz hn hie
      go_enter Tryz.func25, Tryz.ntmps25
      go_wp2_with fail
      refine (contains_any HL.out).mono ?_
      rintro e w1 ⟨rfl, q1, hw1⟩
      rw [HN.out, hw1]
      clear hw1
      go_wp2_with fail
      refine (nan_any _).mono ?_
      rintro e w1 ⟨rfl, hw1⟩
      rw [hw1]
      clear hw1
      go_wp2_with fail
      go_ret
      exact ⟨_, rfl, by rw [HZ.out]; exact nan_isF, below_drewN (Below.refl _ _) _⟩
    | false =>
      have HN := Lib.hid hn
      have HZ := Lib.hid (show z = fzero (uneqL l) by rw [hz, if_neg (by unfold uneqNo; rw [hie, hn]; decide)])
      have HU := Lib.hid (show uneqL l = fsub (fdiv (fmul (some two64) (sumL (placesL (sortB l)))) (fmul (uneqN l) (sumL (nums (sortB l))))) (fdiv (fadd (uneqN l) (some one64)) (uneqN l)) from rfl)
      have HUN := Lib.hid (show IsF (floatOfInt .f64 (l.length : Int)) (uneqN l) from isF_int _)
      obtain ⟨fl, hfl⟩ : ∃ f, f = floatOfInt .f64 (l.length : Int) := ⟨_, rfl⟩
      rw [← hfl] at HUN
      have HFL := Lib.hid hfl
      have HSL := Lib.hid (sortB_length l)
      clear he hz hn hie hfl
      go_enter Tryz.func25, Tryz.ntmps25
      go_wp2_with fail
      refine (contains_any HL.out).mono ?_
      rintro e w1 ⟨rfl, q1, hw1⟩
      rw [HN.out]
      have HL1 := Lib.hid (show Fls w1 R _ l by rw [hw1]; exact HL.out.grow (below_drewN (Below.refl _ _) _))
      have HB1 := Lib.hid (show Below w.heap.size w w1 by rw [hw1]; exact below_drewN (Below.refl _ _) _)
      clear hw1
      go_wp2_with fail
      refine (ordered_any HL1.out hle).mono ?_
      rintro e w2 ⟨A2, cap2, rfl, hf, hb2⟩
      obtain ⟨U, hU⟩ : ∃ U, U = w2.alloc (.cells #[.slice A2 l.length cap2] 24) := ⟨_, rfl⟩
      have hBU : Below w2.heap.size w2 U := by rw [hU]; exact (Below.refl _ _).alloc (Nat.le_refl _) _
      have hXU : Blk U w2.heap.size 24 #[.slice A2 l.length cap2] := by rw [hU]; exact Blk.new _ _ _
      have HB2 := Lib.hid (HB1.out.trans ((hb2.mono HB1.out.size).trans (hBU.mono (by have := HB1.out.size; have := hb2.size; omega))))
      have HF2 := Lib.hid (hf.grow hBU)
      have HX2 := Lib.hid hXU
      have HR2 := Lib.hid (show RowAt U w2.heap.size (fun _ => True) (sortB l) from ⟨_, hXU, hf.grow hBU⟩)
      have k0 : U.cell? ⟨w2.heap.size, 0, none⟩ = some (.slice A2 l.length cap2) := hXU.cell 0
      clear hf hb2 hBU hXU
      go_wp2_with fail
      rw [← hU]
      clear hU
      go_wp2_with fail
      rw [← HFL.out]
      refine (sum_anyN (unequal_giv HR2.out (by rw [HSL.out]; exact hle)) ((placesL_length _).trans HSL.out) (by omega) (fun args W => by go_simp)).mono ?_
      rintro e w3 ⟨sa, rfl, hs, hb⟩
      have HA := Lib.hid hs
      have HB3 := Lib.hid (HB2.out.trans (hb.mono HB2.out.size))
      have HF3 := Lib.hid (HF2.out.grow hb)
      have hX3 := HX2.out.grow hb
      have k1 : w3.cell? ⟨w2.heap.size, 0, none⟩ = some (.slice A2 l.length cap2) := hX3.cell 0
      clear hs hb hX3 k0
      go_wp2_with fail
      refine (all_any HF3.out).mono ?_
      rintro e w4 ⟨sb, rfl, hs, hb⟩
      have HBB := Lib.hid hs
      have HB4 := Lib.hid (HB3.out.trans (hb.mono HB3.out.size))
      clear hs hb
      go_wp2_with fail
      generalize hv : aV Ieee.double.mul fl sb _ = x1
      have Hx1 := Lib.hid (isF_eq hv (isF_mul HUN.out HBB.out _))
      clear hv
      generalize hv : aV Ieee.double.mul 4611686018427387904 sa _ = x2
      have Hx2 := Lib.hid (isF_eq hv (isF_mul two_isF HA.out _))
      clear hv
      generalize hv : aV Ieee.double.div x2 x1 _ = x3
      have Hx3 := Lib.hid (isF_eq hv (isF_div Hx2.out Hx1.out _))
      clear hv
      generalize hv : aV Ieee.double.add fl 4607182418800017408 _ = x4
      have Hx4 := Lib.hid (isF_eq hv (isF_add HUN.out one_isF _))
      clear hv
      generalize hv : aV Ieee.double.div x4 fl _ = x5
      have Hx5 := Lib.hid (isF_eq hv (isF_div Hx4.out HUN.out _))
      clear hv
      generalize hv : aV Ieee.double.sub x3 x5 _ = x6
      have Hx6 := Lib.hid (isF_eq hv (isF_sub Hx3.out Hx5.out _))
      clear hv
      generalize hW : w4.drewN _ = w5
      have HB5 := Lib.hid (show Below w.heap.size w w5 by rw [← hW]; exact below_drewN HB4.out _)
      clear hW
      refine (plain_any Hx6.out _).mono ?_
      rintro e w6 ⟨r, rfl, hr, hw6⟩
      rw [hw6]
      have HR := Lib.hid hr
      clear hr hw6
      go_wp2_with fail
      go_ret
      exact ⟨r, rfl, by rw [HZ.out, HU.out]; exact HR.out, HB5.out⟩

theorem delete_all {w : World} {base cap : Nat} {A : Option Addr} {l : List Nat} (ho : OwnL w base (.slice A l.length cap) l) (hle : l.length ≤ 1000) (hb : base ≤ w.heap.size) :
    Calls Tryz.prog 64 #[.slice A l.length cap, .func (.func 47) #[] #[]] w fun e w' => ∃ A' c', e = .returned (.slice A' (okL l).length c') ∧ Fls w' (fun _ => True) (.slice A' (okL l).length c') (okL l) ∧ Below base w w' := by
  by_cases he : l = []
  · subst he
    refine (deleteF_none rfl).mono ?_
    rintro e w' ⟨rfl, rfl⟩
    exact ⟨A, cap, rfl, ho.fls, (Below.refl _ _).mono hb⟩
  · obtain ⟨gm, cm, hform, hgm, hgm2⟩ := World.ownsRow.form ho.1 (List.length_pos_iff.2 he)
    injection hform with hA hX hc
    subst hA hc
    refine (deleteF_any ho hle he).mono ?_
    rintro e w' ⟨rfl, hf, hc⟩
    exact ⟨_, _, rfl, ⟨hf.1.mono fun _ _ _ => trivial, hf.2⟩, hc.below hb (fun k hk e => by omega)⟩
/-- the least and the greatest number of a row; nought of none -/
def endA (l : List Nat) : Nat := (sortB (okL l)).headD 0
def endB (l : List Nat) : Nat := (sortB (okL l)).getLastD 0
set_option maxRecDepth 100000 in
set_option maxHeartbeats 8000000 in
theorem Ends_any {l : List Nat} {v : Value} {R : Nat → Prop} {w : World} (h : Fls w R v l) (hle : l.length ≤ 1000) :
    Calls Tryz.prog 27 #[v] w fun e w' => e = .returned (.tuple #[.float .f64 (endA l), .float .f64 (endB l), .bool (!(okL l).isEmpty)]) ∧ Below w.heap.size w w' := by
  obtain ⟨A, cap, rfl, hnc, hcap⟩ := h.form
  have HL := Lib.hid h
  have HOL := Lib.hid (okL_length l)
  have hol := okL_length l
  obtain ⟨za, hza⟩ : ∃ z, z = endA l := ⟨_, rfl⟩
  obtain ⟨zb, hzb⟩ : ∃ z, z = endB l := ⟨_, rfl⟩
  obtain ⟨zo, hzo⟩ : ∃ z, z = !(okL l).isEmpty := ⟨_, rfl⟩
  rw [← hza, ← hzb, ← hzo]
  have HZA := Lib.hid hza
  have HZB := Lib.hid hzb
  have HZO := Lib.hid hzo
  clear h hza hzb hzo
  go_enter Tryz.func27, Tryz.ntmps27
  go_wp2_with fail
  refine (cloneF_any HL.out hle).mono ?_
  rintro e w2 ⟨A2, cap2, rfl, ho, hb⟩
  have HO := Lib.hid ho
  have HB2 := Lib.hid hb
  have hs2 := hb.size
  clear ho hb
  go_wp2_with fail
  refine (delete_all HO.out hle hs2).mono ?_
  rintro e w3 ⟨A3, cap3, rfl, hf, hb⟩
  have HF := Lib.hid hf
  have HB3 := Lib.hid (HB2.out.trans hb)
  clear hf hb
  go_wp2_with fail
  refine (ordered_any HF.out (by omega)).mono ?_
  rintro e w4 ⟨A4, cap4, rfl, hf, hb⟩
  have hf4 := hf
  have HB4 := Lib.hid (HB3.out.trans (hb.mono HB3.out.size))
  have hsl := sortB_length (okL l)
  by_cases he : okL l = []
  · have d1 : (((okL l).length : Int) == 0) = true := by rw [he]; rfl
    have HE := Lib.hid (show za = 0 ∧ zb = 0 ∧ zo = false by
      rw [HZA.out, HZB.out, HZO.out]
      unfold endA endB
      rw [he, show sortB [] = [] by simp [sortB]]
      exact ⟨rfl, rfl, rfl⟩)
    clear he hf hf4 hb hsl
    go_wp2_with fail
    refine bodyPost_ret (v := .tuple #[.float .f64 0, .float .f64 0, .bool false]) (by simp [results, Tryz.results27, go_sem]) rfl ⟨?_, HB4.out⟩
    rw [HE.out.1, HE.out.2.1, HE.out.2.2]
  · have d1 : (((okL l).length : Int) == 0) = false := by
      cases hq : okL l with
      | nil => exact absurd hq he
      | cons x r => simp; omega
    have hpos : 0 < (okL l).length := List.length_pos_iff.2 he
    obtain ⟨x, hx⟩ : ∃ x, (sortB (okL l))[0]? = some x := ⟨_, List.getElem?_eq_getElem (by omega)⟩
    obtain ⟨y, hy⟩ : ∃ y, (sortB (okL l))[(okL l).length - 1]? = some y := ⟨_, List.getElem?_eq_getElem (by omega)⟩
    obtain ⟨bq, off, rfl, _, lq, c0, c1⟩ := hf4.at_ hx
    obtain ⟨bq2, off2, hA2, _, _, c2, c3⟩ := hf4.at_ hy
    injection hA2 with hA2
    injection hA2 with hA2 hA3 _
    subst hA2 hA3
    have HE := Lib.hid (show za = x ∧ zb = y ∧ zo = true by
      rw [HZA.out, HZB.out, HZO.out]
      refine ⟨?_, ?_, ?_⟩
      · unfold endA
        rw [List.headD_eq_head?_getD, List.head?_eq_getElem?, hx]; rfl
      · unfold endB
        rw [List.getLastD_eq_getLast?, List.getLast?_eq_getElem?, hsl, hy]; rfl
      · cases hq : okL l with
        | nil => exact absurd hq he
        | cons x r => rfl)
    obtain ⟨n, hn⟩ : ∃ n, n = (okL l).length := ⟨_, rfl⟩
    rw [← hn] at c2 d1 hpos ⊢
    have i0 : IntKind.i64.wrap ((n : Int) - 1) = (n : Int) - 1 := IntWalk.i64_in _ (by omega)
    have i1 : (0 : Int) ≤ (n : Int) - 1 := by omega
    have i2 : (n : Int) - 1 < (n : Int) := by omega
    have i3 : ((n : Int) - 1).toNat = n - 1 := by omega
    have i4 : (0 : Int) < (n : Int) := by omega
    have i5 : 0 < n := by omega
    have c0' : w4.cell? ⟨bq, off, none⟩ = some (.float .f64 x) := c0
    clear he hx hy hf hf4 hb hsl c1 c3 hn hol
    go_wp2_with fail
    go_quiet (fail)
    go_wp2_with fail
    refine bodyPost_ret (v := .tuple #[.float .f64 x, .float .f64 y, .bool true]) (by simp [results, Tryz.results27, go_sem]) rfl ⟨?_, below_drewN HB4.out _⟩
    rw [HE.out.1, HE.out.2.1, HE.out.2.2]
end Go.Proofs.YtidejikolcgojaaGreat.St

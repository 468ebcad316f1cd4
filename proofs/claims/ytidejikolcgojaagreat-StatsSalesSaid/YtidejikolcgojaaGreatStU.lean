/- Stats: the middle, the ends, how unequal: the program's. -/
import Derived.Test.YtidejikolcgojaaGreatStR
import Derived.Test.YtidejikolcgojaaGreatStT
import Derived.Test.YtidejikolcgojaaGreatStH
namespace Go.Proofs.YtidejikolcgojaaGreat.St
open Go.RowKit Go.Shelf
open Go.Proofs.YtidejikolcgojaaGreat.Vb Go.Proofs.YtidejikolcgojaaGreat.Ac
attribute [local go_sem] run_fadd run_fsub run_fmul run_fdiv run_store_float

def inB (p : Nat) : Bool := (Ieee.double.order p 0 == some .gt || Ieee.double.order p 0 == some .eq) && (Ieee.double.order p one64 == some .lt || Ieee.double.order p one64 == some .eq)
def midNo (p : Nat) (l : List Nat) : Bool := l.isEmpty || l.any isN || !inB p
def midH (p n : Nat) : Nat := (Ieee.double.mul p (floatOfInt .f64 ((n - 1 : Nat) : Int))).getD 0
def midI (p n : Nat) : Nat := ((floatToIntVal .f64 (floorB (midH p n)) .i64).getD 0).toNat
def midF (p n : Nat) : Fl := fsub (some (midH p n)) (some (floorB (midH p n)))
def midL (p : Nat) (l : List Nat) : Fl :=
  if midI p l.length = l.length - 1 then cn ((sortB l).getD (midI p l.length) 0)
  else fadd (fmul (cn ((sortB l).getD (midI p l.length) 0)) (fsub (some one64) (midF p l.length))) (fmul (cn ((sortB l).getD (midI p l.length + 1) 0)) (midF p l.length))
theorem one_isF : IsF one64 (some one64) := ⟨by decide, by decide⟩
/-- what stands at the place that a part asks for -/
theorem mid_facts {p n : Nat} (hn : n ≤ 1000) (h : inB p = true) : Ieee.double.mul p (floatOfInt .f64 ((n - 1 : Nat) : Int)) = some (midH p n) ∧ isN (midH p n) = false ∧ midH p n < bits64 ∧ midI p n ≤ n - 1 ∧ floatToIntVal .f64 (floorB (midH p n)) .i64 = some (midI p n : Int) := by
  unfold inB at h
  rw [Bool.and_eq_true] at h
  obtain ⟨hh, q, h1, h2, h3⟩ := mid_range (N := n - 1) (by omega) h.1 h.2
  have e1 : midH p n = hh := by unfold midH; rw [h1]; rfl
  have e2 : midI p n = q := by unfold midI; rw [e1, h3]; simp
  rw [e1, e2]
  exact ⟨h1, ar_num .mul h1, ar_lt .mul h1, h2, h3⟩
set_option maxRecDepth 100000 in
set_option maxHeartbeats 8000000 in
theorem Middle_any {l : List Nat} {v : Value} {R : Nat → Prop} {p : Nat} {w : World} (h : Fls w R v l) (hle : l.length ≤ 1000) :
    Calls Tryz.prog 24 #[.float .f64 p, v] w fun e w' => ∃ r, e = .returned (.float .f64 r) ∧ IsF r (if midNo p l then none else fzero (midL p l)) ∧ Below w.heap.size w w' := by
  obtain ⟨A, cap, rfl, hnc, hcap⟩ := h.form
  have HL := Lib.hid h
  obtain ⟨z, hz⟩ : ∃ z, z = if midNo p l then none else fzero (midL p l) := ⟨_, rfl⟩
  rw [← hz]
  clear h
  by_cases he : l = []
  · have HZ := Lib.hid (show z = none by rw [hz, if_pos (by rw [he]; rfl)])
    have d1 : ((l.length : Int) == 0) = true := by rw [he]; rfl
    clear he hz
    go_enter Tryz.func24, Tryz.ntmps24
    go_wp2_with fail
    refine (nan_any _).mono ?_
    rintro e w1 ⟨rfl, hw1⟩
    rw [hw1]
    clear hw1
    go_wp2_with fail
    go_ret
    exact ⟨_, rfl, by rw [HZ.out]; exact nan_isF, Below.refl _ _⟩
  · have d1 : ((l.length : Int) == 0) = false := by
      cases l with
      | nil => exact absurd rfl he
      | cons x r => simp; omega
    have hie : l.isEmpty = false := by
      cases l with
      | nil => exact absurd rfl he
      | cons x r => rfl
    have hpos : 0 < l.length := List.length_pos_iff.2 he
    cases hn : l.any isN with
    | true =>
      have HZ := Lib.hid (show z = none by rw [hz, if_pos (by unfold midNo; rw [hn]; simp)])
      have HN := Lib.hid hn
      clear he hz hn hie
      go_enter Tryz.func24, Tryz.ntmps24
      go_wp2_with fail
      refine (contains_any HL.out).mono ?_
      rintro e w1 ⟨rfl, q1, hw1⟩
      rw [HN.out, hw1]
      clear hw1
      go_wp2_with fail
      refine (nan_any _).mono ?_
      rintro e w1 ⟨rfl, hw1⟩
      rw [hw1]
      clear hw1
      go_wp2_with fail
      go_ret
      exact ⟨_, rfl, by rw [HZ.out]; exact nan_isF, below_drewN (Below.refl _ _) _⟩
    | false =>
      have HN := Lib.hid hn
      have hmn : midNo p l = !inB p := by unfold midNo; rw [hie, hn]; rfl
      by_cases g1 : (Ieee.double.order p 0 == some .gt || Ieee.double.order p 0 == some .eq) = true
      · have d2 : (FloatKind.f64.format.order p 0 == some .gt || FloatKind.f64.format.order p 0 == some .eq) = true := g1
        by_cases g2 : (Ieee.double.order p one64 == some .lt || Ieee.double.order p one64 == some .eq) = true
        · have d3 : (FloatKind.f64.format.order p 4607182418800017408 == some .lt || FloatKind.f64.format.order p 4607182418800017408 == some .eq) = true := g2
          have hin : inB p = true := by unfold inB; rw [g1, g2]; rfl
          obtain ⟨f1, f2, f3, f4, f5⟩ := mid_facts (n := l.length) hle hin
          have HZ := Lib.hid (show z = fzero (midL p l) by rw [hz, if_neg (by rw [hmn, hin]; decide)])
          have HML := Lib.hid (show midL p l = if midI p l.length = l.length - 1 then cn ((sortB l).getD (midI p l.length) 0)
            else fadd (fmul (cn ((sortB l).getD (midI p l.length) 0)) (fsub (some one64) (midF p l.length))) (fmul (cn ((sortB l).getD (midI p l.length + 1) 0)) (midF p l.length)) from rfl)
          have HMF := Lib.hid (show midF p l.length = fsub (some (midH p l.length)) (some (floorB (midH p l.length))) from rfl)
          obtain ⟨ml, hml⟩ : ∃ z, z = midL p l := ⟨_, rfl⟩
          obtain ⟨mf, hmf⟩ : ∃ z, z = midF p l.length := ⟨_, rfl⟩
          obtain ⟨hb, hhb⟩ : ∃ z, z = midH p l.length := ⟨_, rfl⟩
          obtain ⟨k, hk⟩ : ∃ z, z = midI p l.length := ⟨_, rfl⟩
          rw [← hml] at HZ HML
          rw [← hmf] at HMF HML
          rw [← hhb] at f1 f2 f3 f5 HMF
          rw [← hk] at HML f4 f5
          have HF1 := Lib.hid f1
          have HHB := Lib.hid (isF_num f3 f2)
          have HFN := Lib.hid f2
          have hcv : ∀ W, (convert 27 3 (.float .f64 (floorB hb))).run Tryz.prog W = .ok (.int .i64 k) W := fun W => run_convert_float_int W _ _ _ _ _ _ (by kernel_rfl) Tryz.underlying3 f5
          have e0 : IntKind.i64.wrap ((l.length : Int) - 1) = (l.length : Int) - 1 := IntWalk.i64_in _ (by omega)
          have HNI := Lib.hid (show ((l.length - 1 : Nat) : Int) = (l.length : Int) - 1 by omega)
          have hfk : floorB hb < bits64 ∧ isN (floorB hb) = false := floor_num f2
          have HFK := Lib.hid (isF_num hfk.1 hfk.2)
          clear he hz hn hie hmn g1 g2 hin f1 f2 f3 f5 hml hmf hhb hk hfk
          go_enter Tryz.func24, Tryz.ntmps24
          go_wp2_with fail
          refine (contains_any HL.out).mono ?_
          rintro e w1 ⟨rfl, q1, hw1⟩
          rw [HN.out]
          have HL1 := Lib.hid (show Fls w1 R _ l by rw [hw1]; exact HL.out.grow (below_drewN (Below.refl _ _) _))
          have HB1 := Lib.hid (show Below w.heap.size w w1 by rw [hw1]; exact below_drewN (Below.refl _ _) _)
          clear hw1
          go_wp2_with fail
          refine (ordered_any HL1.out hle).mono ?_
          rintro e w2 ⟨A2, cap2, rfl, hf, hb2⟩
          have HF2 := Lib.hid hf
          have HB2 := Lib.hid (HB1.out.trans (hb2.mono HB1.out.size))
          clear hf hb2
          go_wp2_with fail
          have hav : ∀ W, aV Ieee.double.mul p (floatOfInt .f64 ((l.length : Int) - 1)) W = hb := fun W => by unfold aV; rw [← HNI.out, HF1.out]; rfl
          rw [hav]
          clear hav
          generalize hW : w2.drewN _ = w3
          have HF3 := Lib.hid (show Fls w3 (fun _ => True) (.slice A2 l.length cap2) (sortB l) by rw [← hW]; exact HF2.out.grow (below_drewN (Below.refl _ _) _))
          have HB3 := Lib.hid (show Below w.heap.size w w3 by rw [← hW]; exact below_drewN HB2.out _)
          clear hW
          refine (floor_any HFN.out _).mono ?_
          rintro e w4 ⟨rfl, hw4⟩
          rw [hw4]
          clear hw4
          obtain ⟨fb, hfb⟩ : ∃ z, z = floorB hb := ⟨_, rfl⟩
          rw [← hfb] at HFK HMF hcv ⊢
          clear hfb
          obtain ⟨x, hx⟩ : ∃ x, (sortB l)[k]? = some x := ⟨_, List.getElem?_eq_getElem (by rw [sortB_length]; omega)⟩
          have hxd : (sortB l).getD k 0 = x := by simp [List.getD, hx]
          obtain ⟨bq, off, rfl, _, lq, c0, c1⟩ := HF3.out.at_ hx
          have HX := Lib.hid (isF_self c1)
          have i1 : (0 : Int) ≤ (k : Int) := by omega
          have i2 : (k : Int) < (l.length : Int) := by omega
          by_cases hkn : k = l.length - 1
          · have d4 : ((k : Int) == (l.length : Int) - 1) = true := by rw [hkn]; simp; omega
            have HZ2 := Lib.hid (show z = fzero (cn x) by rw [HZ.out, HML.out, if_pos hkn, hxd])
            clear hkn hx hxd c1
            go_wp2_with fail
            generalize hW : w3.drewN _ = w5
            have HB5 := Lib.hid (show Below w.heap.size w w5 by rw [← hW]; exact below_drewN HB3.out _)
            clear hW
            refine (plain_any HX.out _).mono ?_
            rintro e w6 ⟨r, rfl, hr, hw6⟩
            rw [hw6]
            have HR := Lib.hid hr
            clear hr hw6
            go_wp2_with fail
            go_ret
            exact ⟨r, rfl, by rw [HZ2.out]; exact HR.out, HB5.out⟩
          · have d4 : ((k : Int) == (l.length : Int) - 1) = false := by simp; omega
            obtain ⟨y, hy⟩ : ∃ y, (sortB l)[k + 1]? = some y := ⟨_, List.getElem?_eq_getElem (by rw [sortB_length]; omega)⟩
            have hyd : (sortB l).getD (k + 1) 0 = y := by simp [List.getD, hy]
            obtain ⟨bq2, off2, hA2, _, _, c2, c3⟩ := HF3.out.at_ hy
            injection hA2 with hA2
            injection hA2 with hA2 hA3 _
            subst hA2 hA3
            have HY := Lib.hid (isF_self c3)
            have HZ2 := Lib.hid (show z = fzero (fadd (fmul (cn x) (fsub (some one64) mf)) (fmul (cn y) mf)) by rw [HZ.out, HML.out, if_neg hkn, hxd, hyd])
            have i3 : (0 : Int) ≤ (k : Int) + 1 := by omega
            have i4 : (k : Int) + 1 < (l.length : Int) := by omega
            have i5 : IntKind.i64.wrap ((k : Int) + 1) = (k : Int) + 1 := IntWalk.i64_in _ (by omega)
            have i6 : ((k : Int) + 1).toNat = k + 1 := by omega
            clear hkn hx hxd hy hyd c1 c3
            go_wp2_with fail
            generalize hv : aV Ieee.double.sub hb fb _ = f1
            have Hf1 := Lib.hid (show IsF f1 mf by rw [HMF.out]; exact isF_eq hv (isF_sub HHB.out HFK.out _))
            clear hv
            generalize hW : w3.drewN _ = w5
            have HB5 := Lib.hid (show Below w.heap.size w w5 by rw [← hW]; exact below_drewN HB3.out _)
            have z0 : w5.cell? ⟨bq, off + k, none⟩ = some (.float .f64 x) := by rw [← hW]; exact c0
            have z1 : w5.cell? ⟨bq, off + (k + 1), none⟩ = some (.float .f64 y) := by rw [← hW]; exact c2
            have lq5 : bq < w5.heap.size := by rw [← hW]; exact lq
            clear hW c0 c2
            obtain ⟨I, hI⟩ : ∃ I : World → Prop, I = Below w5.heap.size w5 := ⟨_, rfl⟩
            have hIn : ∀ W n, I W → I (W.drewN n) := by rw [hI]; exact fun W n h => below_drewN h n
            have hI1 : ∀ U, I U → Below w5.heap.size w5 U := by rw [hI]; exact fun W h => h
            have HI := Lib.hid (show I w5 by rw [hI]; exact Below.refl _ _)
            clear hI
            refine wp_region_F (Below w5.heap.size w5) [] (by kernel_rfl) ((Below.refl _ _).drew) (fun hS => ?_)
            refine wpAnyF_take (i := 0) (oi := { dst := some 52, op := Go.Op.move (Go.Operand.tmp 5), type := 24, pos := "stats.go:174", after := #[], guard := none }) (v := ?_) rfl (by kernel_rfl) (by kernel_rfl) (by kernel_rfl) (by kernel_rfl) (fun _ _ _ h => h) (Or.inl ⟨by rfl, ?_⟩) hS ?_
            rotate_left
            · intro w' hSw; have z2 := (hSw.cell (p := ⟨bq, off + k, none⟩) lq5).trans z0; have z3 := (hSw.cell (p := ⟨bq, off + (k + 1), none⟩) lq5).trans z1; go_simp; try with_reducible rfl
            try simp only [Act.put, List.setIfInBounds_toArray, List.set_cons_zero, List.set_cons_succ]
            refine wpAnyF_take (i := 1) (oi := { dst := some 53, op := Go.Op.move (Go.Operand.tmp 9), type := 3, pos := "stats.go:174", after := #[], guard := none }) (v := ?_) rfl (by kernel_rfl) (by kernel_rfl) (by kernel_rfl) (by kernel_rfl) (fun _ _ _ h => h) (Or.inl ⟨by rfl, ?_⟩) hS ?_
            rotate_left
            · intro w' hSw; have z2 := (hSw.cell (p := ⟨bq, off + k, none⟩) lq5).trans z0; have z3 := (hSw.cell (p := ⟨bq, off + (k + 1), none⟩) lq5).trans z1; go_simp; try with_reducible rfl
            try simp only [Act.put, List.setIfInBounds_toArray, List.set_cons_zero, List.set_cons_succ]
            refine wpAnyF_take (i := 2) (oi := { dst := some 54, op := Go.Op.indexAddr 24 (Go.Operand.tmp 52) (Go.Operand.tmp 53), type := 0, pos := "stats.go:174", after := #[{ on := 0, ground := Go.Ground.data }, { on := 1, ground := Go.Ground.data }], guard := none }) (v := ?_) rfl (by kernel_rfl) (by kernel_rfl) (by kernel_rfl) (by kernel_rfl) (fun _ _ _ h => h) (Or.inl ⟨by rfl, ?_⟩) hS ?_
            rotate_left
            · intro w' hSw; have z2 := (hSw.cell (p := ⟨bq, off + k, none⟩) lq5).trans z0; have z3 := (hSw.cell (p := ⟨bq, off + (k + 1), none⟩) lq5).trans z1; go_simp; try with_reducible rfl
            try simp only [Act.put, List.setIfInBounds_toArray, List.set_cons_zero, List.set_cons_succ]
            refine wpAnyF_take (i := 3) (oi := { dst := some 55, op := Go.Op.load 27 (Go.Operand.tmp 54), type := 27, pos := "stats.go:174", after := #[{ on := 2, ground := Go.Ground.data }], guard := none }) (v := ?_) rfl (by kernel_rfl) (by kernel_rfl) (by kernel_rfl) (by kernel_rfl) (fun _ _ _ h => h) (Or.inl ⟨by rfl, ?_⟩) hS ?_
            rotate_left
            · intro w' hSw; have z2 := (hSw.cell (p := ⟨bq, off + k, none⟩) lq5).trans z0; have z3 := (hSw.cell (p := ⟨bq, off + (k + 1), none⟩) lq5).trans z1; go_simp; try with_reducible rfl
            try simp only [Act.put, List.setIfInBounds_toArray, List.set_cons_zero, List.set_cons_succ]
            refine wpAnyF_take (i := 4) (oi := { dst := some 56, op := Go.Op.move (Go.Operand.tmp 8), type := 27, pos := "stats.go:174", after := #[], guard := none }) (v := ?_) rfl (by kernel_rfl) (by kernel_rfl) (by kernel_rfl) (by kernel_rfl) (fun _ _ _ h => h) (Or.inl ⟨by rfl, ?_⟩) hS ?_
            rotate_left
            · intro w' hSw; have z2 := (hSw.cell (p := ⟨bq, off + k, none⟩) lq5).trans z0; have z3 := (hSw.cell (p := ⟨bq, off + (k + 1), none⟩) lq5).trans z1; go_simp; try with_reducible rfl
            try simp only [Act.put, List.setIfInBounds_toArray, List.set_cons_zero, List.set_cons_succ]
            refine wpAnyF_take (i := 7) (oi := { dst := some 59, op := Go.Op.move (Go.Operand.tmp 5), type := 24, pos := "stats.go:174", after := #[], guard := none }) (v := ?_) rfl (by kernel_rfl) (by kernel_rfl) (by kernel_rfl) (by kernel_rfl) (fun _ _ _ h => h) (Or.inl ⟨by rfl, ?_⟩) hS ?_
            rotate_left
            · intro w' hSw; have z2 := (hSw.cell (p := ⟨bq, off + k, none⟩) lq5).trans z0; have z3 := (hSw.cell (p := ⟨bq, off + (k + 1), none⟩) lq5).trans z1; go_simp; try with_reducible rfl
            try simp only [Act.put, List.setIfInBounds_toArray, List.set_cons_zero, List.set_cons_succ]
            refine wpAnyF_take (i := 8) (oi := { dst := some 60, op := Go.Op.move (Go.Operand.tmp 9), type := 3, pos := "stats.go:174", after := #[], guard := none }) (v := ?_) rfl (by kernel_rfl) (by kernel_rfl) (by kernel_rfl) (by kernel_rfl) (fun _ _ _ h => h) (Or.inl ⟨by rfl, ?_⟩) hS ?_
            rotate_left
            · intro w' hSw; have z2 := (hSw.cell (p := ⟨bq, off + k, none⟩) lq5).trans z0; have z3 := (hSw.cell (p := ⟨bq, off + (k + 1), none⟩) lq5).trans z1; go_simp; try with_reducible rfl
            try simp only [Act.put, List.setIfInBounds_toArray, List.set_cons_zero, List.set_cons_succ]
            refine wpAnyF_take (i := 9) (oi := { dst := some 61, op := Go.Op.binOp Go.BinOp.add 3 (Go.Operand.tmp 60) (Go.Operand.const (Go.Value.int Go.IntKind.i64 1)) 3, type := 3, pos := "stats.go:174", after := #[{ on := 8, ground := Go.Ground.data }], guard := none }) (v := ?_) rfl (by kernel_rfl) (by kernel_rfl) (by kernel_rfl) (by kernel_rfl) (fun _ _ _ h => h) (Or.inl ⟨by rfl, ?_⟩) hS ?_
            rotate_left
            · intro w' hSw; have z2 := (hSw.cell (p := ⟨bq, off + k, none⟩) lq5).trans z0; have z3 := (hSw.cell (p := ⟨bq, off + (k + 1), none⟩) lq5).trans z1; go_simp; try with_reducible rfl
            try simp only [Act.put, List.setIfInBounds_toArray, List.set_cons_zero, List.set_cons_succ]
            refine wpAnyF_take (i := 10) (oi := { dst := some 62, op := Go.Op.indexAddr 24 (Go.Operand.tmp 59) (Go.Operand.tmp 61), type := 0, pos := "stats.go:174", after := #[{ on := 7, ground := Go.Ground.data }, { on := 9, ground := Go.Ground.data }], guard := none }) (v := ?_) rfl (by kernel_rfl) (by kernel_rfl) (by kernel_rfl) (by kernel_rfl) (fun _ _ _ h => h) (Or.inl ⟨by rfl, ?_⟩) hS ?_
            rotate_left
            · intro w' hSw; have z2 := (hSw.cell (p := ⟨bq, off + k, none⟩) lq5).trans z0; have z3 := (hSw.cell (p := ⟨bq, off + (k + 1), none⟩) lq5).trans z1; go_simp; try with_reducible rfl
            try simp only [Act.put, List.setIfInBounds_toArray, List.set_cons_zero, List.set_cons_succ]
            refine wpAnyF_take (i := 11) (oi := { dst := some 63, op := Go.Op.load 27 (Go.Operand.tmp 62), type := 27, pos := "stats.go:174", after := #[{ on := 10, ground := Go.Ground.data }], guard := none }) (v := ?_) rfl (by kernel_rfl) (by kernel_rfl) (by kernel_rfl) (by kernel_rfl) (fun _ _ _ h => h) (Or.inl ⟨by rfl, ?_⟩) hS ?_
            rotate_left
            · intro w' hSw; have z2 := (hSw.cell (p := ⟨bq, off + k, none⟩) lq5).trans z0; have z3 := (hSw.cell (p := ⟨bq, off + (k + 1), none⟩) lq5).trans z1; go_simp; try with_reducible rfl
            try simp only [Act.put, List.setIfInBounds_toArray, List.set_cons_zero, List.set_cons_succ]
            refine wpAnyF_take (i := 12) (oi := { dst := some 64, op := Go.Op.move (Go.Operand.tmp 8), type := 27, pos := "stats.go:174", after := #[], guard := none }) (v := ?_) rfl (by kernel_rfl) (by kernel_rfl) (by kernel_rfl) (by kernel_rfl) (fun _ _ _ h => h) (Or.inl ⟨by rfl, ?_⟩) hS ?_
            rotate_left
            · intro w' hSw; have z2 := (hSw.cell (p := ⟨bq, off + k, none⟩) lq5).trans z0; have z3 := (hSw.cell (p := ⟨bq, off + (k + 1), none⟩) lq5).trans z1; go_simp; try with_reducible rfl
            try simp only [Act.put, List.setIfInBounds_toArray, List.set_cons_zero, List.set_cons_succ]
            refine wpAnyF_ready (rs := [5, 13]) (by kernel_rfl) (by simp) ?_
            refine AllReadyF.cons (o := { dst := some 57, op := Go.Op.binOp Go.BinOp.sub 27 (Go.Operand.const (Go.Value.float Go.FloatKind.f64 4607182418800017408)) (Go.Operand.tmp 56) 27, type := 27, pos := "stats.go:174", after := #[{ on := 4, ground := Go.Ground.data }], guard := none }) rfl (by rfl) (fun K hK => ?_) ?_
            · go_simp
              have Hx5 := Lib.hid (isF_sub one_isF Hf1.out (w5.drew))
              generalize aV Ieee.double.sub 4607182418800017408 f1 (w5.drew) = x5 at Hx5 ⊢
              generalize hW : w5.drewN _ = W1
              have HI1 := Lib.hid (show I W1 from hW ▸ hIn _ _ HI.out)
              clear hW
              refine hK.out _ _ ?_ (fun hS => ?_)
              · exact hI1 _ HI1.out
              clear hK K
              try simp only [Act.put, List.setIfInBounds_toArray, List.set_cons_zero, List.set_cons_succ]
              refine wpAnyF_ready (rs := [6, 13]) (by kernel_rfl) (by simp) ?_
              refine AllReadyF.cons (o := { dst := some 58, op := Go.Op.binOp Go.BinOp.mul 27 (Go.Operand.tmp 55) (Go.Operand.tmp 57) 27, type := 27, pos := "stats.go:174", after := #[{ on := 3, ground := Go.Ground.data }, { on := 5, ground := Go.Ground.data }], guard := none }) rfl (by rfl) (fun K hK => ?_) ?_
              · go_simp
                have Hx6 := Lib.hid (isF_mul HX.out Hx5.out (W1))
                generalize aV Ieee.double.mul x x5 (W1) = x6 at Hx6 ⊢
                generalize hW : W1.drewN _ = W2
                have HI2 := Lib.hid (show I W2 from hW ▸ hIn _ _ HI1.out)
                clear hW
                refine hK.out _ _ ?_ (fun hS => ?_)
                · exact hI1 _ HI2.out
                clear hK K
                try simp only [Act.put, List.setIfInBounds_toArray, List.set_cons_zero, List.set_cons_succ]
                refine wpAnyF_ready (rs := [13]) (by kernel_rfl) (by simp) ?_
                refine AllReadyF.cons (o := { dst := some 65, op := Go.Op.binOp Go.BinOp.mul 27 (Go.Operand.tmp 63) (Go.Operand.tmp 64) 27, type := 27, pos := "stats.go:174", after := #[{ on := 11, ground := Go.Ground.data }, { on := 12, ground := Go.Ground.data }], guard := none }) rfl (by rfl) (fun K hK => ?_) ?_
                · go_simp
                  have Hx13 := Lib.hid (isF_mul HY.out Hf1.out (W2))
                  generalize aV Ieee.double.mul y f1 (W2) = x13 at Hx13 ⊢
                  generalize hW : W2.drewN _ = W3
                  have HI3 := Lib.hid (show I W3 from hW ▸ hIn _ _ HI2.out)
                  clear hW
                  refine hK.out _ _ ?_ (fun hS => ?_)
                  · exact hI1 _ HI3.out
                  clear hK K
                  try simp only [Act.put, List.setIfInBounds_toArray, List.set_cons_zero, List.set_cons_succ]
                  refine wpAnyF_ready (rs := [14]) (by kernel_rfl) (by simp) ?_
                  refine AllReadyF.cons (o := { dst := some 66, op := Go.Op.binOp Go.BinOp.add 27 (Go.Operand.tmp 58) (Go.Operand.tmp 65) 27, type := 27, pos := "stats.go:174", after := #[{ on := 6, ground := Go.Ground.data }, { on := 13, ground := Go.Ground.data }], guard := none }) rfl (by rfl) (fun K hK => ?_) ?_
                  · go_simp
                    have Hx14 := Lib.hid (isF_add Hx6.out Hx13.out (W3))
                    generalize aV Ieee.double.add x6 x13 (W3) = x14 at Hx14 ⊢
                    generalize hW : W3.drewN _ = W4
                    have HI4 := Lib.hid (show I W4 from hW ▸ hIn _ _ HI3.out)
                    clear hW
                    refine hK.out _ _ ?_ (fun hS => ?_)
                    · exact hI1 _ HI4.out
                    clear hK K
                    try simp only [Act.put, List.setIfInBounds_toArray, List.set_cons_zero, List.set_cons_succ]
                    refine wpAnyF_ready (rs := [15]) (by kernel_rfl) (by simp) ?_
                    refine AllReadyF.cons (o := { dst := some 67, op := Go.Op.call { callee := Go.Callee.value (Go.Operand.func 48), args := #[Go.Operand.tmp 66], argTypes := #[27] }, type := 27, pos := "stats.go:174", after := #[{ on := 14, ground := Go.Ground.data }], guard := none }) rfl (by rfl) (fun K hK => ?_) ?_
                    · go_simp
                      refine (plain_any Hx14.out _).mono ?_
                      rintro e w6 ⟨r, rfl, hr, hw6⟩
                      rw [hw6]
                      have HR := Lib.hid hr
                      clear hr hw6
                      refine hK.out _ _ ?_ (fun hS => ?_)
                      · exact hI1 _ HI4.out
                      clear hK K
                      try simp only [Act.put, List.setIfInBounds_toArray, List.set_cons_zero, List.set_cons_succ]
                      refine wpAnyF_take (i := 16) (oi := { dst := some 4, op := Go.Op.assign (Go.Operand.tmp 67), type := 27, pos := "stats.go:174", after := #[{ on := 15, ground := Go.Ground.data }, { on := 15, ground := Go.Ground.chain }, { on := 0, ground := Go.Ground.phase }, { on := 1, ground := Go.Ground.phase }, { on := 2, ground := Go.Ground.phase }, { on := 3, ground := Go.Ground.phase }, { on := 4, ground := Go.Ground.phase }, { on := 5, ground := Go.Ground.phase }, { on := 6, ground := Go.Ground.phase }, { on := 7, ground := Go.Ground.phase }, { on := 8, ground := Go.Ground.phase }, { on := 9, ground := Go.Ground.phase }, { on := 10, ground := Go.Ground.phase }, { on := 11, ground := Go.Ground.phase }, { on := 12, ground := Go.Ground.phase }, { on := 13, ground := Go.Ground.phase }, { on := 14, ground := Go.Ground.phase }, { on := 15, ground := Go.Ground.phase }], guard := none }) (v := ?_) rfl (by kernel_rfl) (by kernel_rfl) (by kernel_rfl) (by kernel_rfl) (fun _ _ _ h => h) (Or.inl ⟨by rfl, ?_⟩) hS ?_
                      rotate_left
                      · intro w' hSw; have z2 := (hSw.cell (p := ⟨bq, off + k, none⟩) lq5).trans z0; have z3 := (hSw.cell (p := ⟨bq, off + (k + 1), none⟩) lq5).trans z1; go_simp; try with_reducible rfl
                      try simp only [Act.put, List.setIfInBounds_toArray, List.set_cons_zero, List.set_cons_succ]
                      refine wpAnyF_done (by kernel_rfl) ?_ _
                      go_wp2_with fail
                      go_ret
                      exact ⟨r, rfl, by rw [HZ2.out]; exact HR.out, HB5.out.trans ((hI1 _ HI4.out).mono HB5.out.size)⟩
                    exact AllReadyF.nil
                  exact AllReadyF.nil
                exact AllReadyF.nil
              refine AllReadyF.cons (o := { dst := some 65, op := Go.Op.binOp Go.BinOp.mul 27 (Go.Operand.tmp 63) (Go.Operand.tmp 64) 27, type := 27, pos := "stats.go:174", after := #[{ on := 11, ground := Go.Ground.data }, { on := 12, ground := Go.Ground.data }], guard := none }) rfl (by rfl) (fun K hK => ?_) ?_
              · go_simp
                have Hx13 := Lib.hid (isF_mul HY.out Hf1.out (W1))
                generalize aV Ieee.double.mul y f1 (W1) = x13 at Hx13 ⊢
                generalize hW : W1.drewN _ = W2
                have HI2 := Lib.hid (show I W2 from hW ▸ hIn _ _ HI1.out)
                clear hW
                refine hK.out _ _ ?_ (fun hS => ?_)
                · exact hI1 _ HI2.out
                clear hK K
                try simp only [Act.put, List.setIfInBounds_toArray, List.set_cons_zero, List.set_cons_succ]
                refine wpAnyF_ready (rs := [6]) (by kernel_rfl) (by simp) ?_
                refine AllReadyF.cons (o := { dst := some 58, op := Go.Op.binOp Go.BinOp.mul 27 (Go.Operand.tmp 55) (Go.Operand.tmp 57) 27, type := 27, pos := "stats.go:174", after := #[{ on := 3, ground := Go.Ground.data }, { on := 5, ground := Go.Ground.data }], guard := none }) rfl (by rfl) (fun K hK => ?_) ?_
                · go_simp
                  have Hx6 := Lib.hid (isF_mul HX.out Hx5.out (W2))
                  generalize aV Ieee.double.mul x x5 (W2) = x6 at Hx6 ⊢
                  generalize hW : W2.drewN _ = W3
                  have HI3 := Lib.hid (show I W3 from hW ▸ hIn _ _ HI2.out)
                  clear hW
                  refine hK.out _ _ ?_ (fun hS => ?_)
                  · exact hI1 _ HI3.out
                  clear hK K
                  try simp only [Act.put, List.setIfInBounds_toArray, List.set_cons_zero, List.set_cons_succ]
                  refine wpAnyF_ready (rs := [14]) (by kernel_rfl) (by simp) ?_
                  refine AllReadyF.cons (o := { dst := some 66, op := Go.Op.binOp Go.BinOp.add 27 (Go.Operand.tmp 58) (Go.Operand.tmp 65) 27, type := 27, pos := "stats.go:174", after := #[{ on := 6, ground := Go.Ground.data }, { on := 13, ground := Go.Ground.data }], guard := none }) rfl (by rfl) (fun K hK => ?_) ?_
                  · go_simp
                    have Hx14 := Lib.hid (isF_add Hx6.out Hx13.out (W3))
                    generalize aV Ieee.double.add x6 x13 (W3) = x14 at Hx14 ⊢
                    generalize hW : W3.drewN _ = W4
                    have HI4 := Lib.hid (show I W4 from hW ▸ hIn _ _ HI3.out)
                    clear hW
                    refine hK.out _ _ ?_ (fun hS => ?_)
                    · exact hI1 _ HI4.out
                    clear hK K
                    try simp only [Act.put, List.setIfInBounds_toArray, List.set_cons_zero, List.set_cons_succ]
                    refine wpAnyF_ready (rs := [15]) (by kernel_rfl) (by simp) ?_
                    refine AllReadyF.cons (o := { dst := some 67, op := Go.Op.call { callee := Go.Callee.value (Go.Operand.func 48), args := #[Go.Operand.tmp 66], argTypes := #[27] }, type := 27, pos := "stats.go:174", after := #[{ on := 14, ground := Go.Ground.data }], guard := none }) rfl (by rfl) (fun K hK => ?_) ?_
                    · go_simp
                      refine (plain_any Hx14.out _).mono ?_
                      rintro e w6 ⟨r, rfl, hr, hw6⟩
                      rw [hw6]
                      have HR := Lib.hid hr
                      clear hr hw6
                      refine hK.out _ _ ?_ (fun hS => ?_)
                      · exact hI1 _ HI4.out
                      clear hK K
                      try simp only [Act.put, List.setIfInBounds_toArray, List.set_cons_zero, List.set_cons_succ]
                      refine wpAnyF_take (i := 16) (oi := { dst := some 4, op := Go.Op.assign (Go.Operand.tmp 67), type := 27, pos := "stats.go:174", after := #[{ on := 15, ground := Go.Ground.data }, { on := 15, ground := Go.Ground.chain }, { on := 0, ground := Go.Ground.phase }, { on := 1, ground := Go.Ground.phase }, { on := 2, ground := Go.Ground.phase }, { on := 3, ground := Go.Ground.phase }, { on := 4, ground := Go.Ground.phase }, { on := 5, ground := Go.Ground.phase }, { on := 6, ground := Go.Ground.phase }, { on := 7, ground := Go.Ground.phase }, { on := 8, ground := Go.Ground.phase }, { on := 9, ground := Go.Ground.phase }, { on := 10, ground := Go.Ground.phase }, { on := 11, ground := Go.Ground.phase }, { on := 12, ground := Go.Ground.phase }, { on := 13, ground := Go.Ground.phase }, { on := 14, ground := Go.Ground.phase }, { on := 15, ground := Go.Ground.phase }], guard := none }) (v := ?_) rfl (by kernel_rfl) (by kernel_rfl) (by kernel_rfl) (by kernel_rfl) (fun _ _ _ h => h) (Or.inl ⟨by rfl, ?_⟩) hS ?_
                      rotate_left
                      · intro w' hSw; have z2 := (hSw.cell (p := ⟨bq, off + k, none⟩) lq5).trans z0; have z3 := (hSw.cell (p := ⟨bq, off + (k + 1), none⟩) lq5).trans z1; go_simp; try with_reducible rfl
                      try simp only [Act.put, List.setIfInBounds_toArray, List.set_cons_zero, List.set_cons_succ]
                      refine wpAnyF_done (by kernel_rfl) ?_ _
                      go_wp2_with fail
                      go_ret
                      exact ⟨r, rfl, by rw [HZ2.out]; exact HR.out, HB5.out.trans ((hI1 _ HI4.out).mono HB5.out.size)⟩
                    exact AllReadyF.nil
                  exact AllReadyF.nil
                exact AllReadyF.nil
              exact AllReadyF.nil
            refine AllReadyF.cons (o := { dst := some 65, op := Go.Op.binOp Go.BinOp.mul 27 (Go.Operand.tmp 63) (Go.Operand.tmp 64) 27, type := 27, pos := "stats.go:174", after := #[{ on := 11, ground := Go.Ground.data }, { on := 12, ground := Go.Ground.data }], guard := none }) rfl (by rfl) (fun K hK => ?_) ?_
            · go_simp
              have Hx13 := Lib.hid (isF_mul HY.out Hf1.out (w5.drew))
              generalize aV Ieee.double.mul y f1 (w5.drew) = x13 at Hx13 ⊢
              generalize hW : w5.drewN _ = W1
              have HI1 := Lib.hid (show I W1 from hW ▸ hIn _ _ HI.out)
              clear hW
              refine hK.out _ _ ?_ (fun hS => ?_)
              · exact hI1 _ HI1.out
              clear hK K
              try simp only [Act.put, List.setIfInBounds_toArray, List.set_cons_zero, List.set_cons_succ]
              refine wpAnyF_ready (rs := [5]) (by kernel_rfl) (by simp) ?_
              refine AllReadyF.cons (o := { dst := some 57, op := Go.Op.binOp Go.BinOp.sub 27 (Go.Operand.const (Go.Value.float Go.FloatKind.f64 4607182418800017408)) (Go.Operand.tmp 56) 27, type := 27, pos := "stats.go:174", after := #[{ on := 4, ground := Go.Ground.data }], guard := none }) rfl (by rfl) (fun K hK => ?_) ?_
              · go_simp
                have Hx5 := Lib.hid (isF_sub one_isF Hf1.out (W1))
                generalize aV Ieee.double.sub 4607182418800017408 f1 (W1) = x5 at Hx5 ⊢
                generalize hW : W1.drewN _ = W2
                have HI2 := Lib.hid (show I W2 from hW ▸ hIn _ _ HI1.out)
                clear hW
                refine hK.out _ _ ?_ (fun hS => ?_)
                · exact hI1 _ HI2.out
                clear hK K
                try simp only [Act.put, List.setIfInBounds_toArray, List.set_cons_zero, List.set_cons_succ]
                refine wpAnyF_ready (rs := [6]) (by kernel_rfl) (by simp) ?_
                refine AllReadyF.cons (o := { dst := some 58, op := Go.Op.binOp Go.BinOp.mul 27 (Go.Operand.tmp 55) (Go.Operand.tmp 57) 27, type := 27, pos := "stats.go:174", after := #[{ on := 3, ground := Go.Ground.data }, { on := 5, ground := Go.Ground.data }], guard := none }) rfl (by rfl) (fun K hK => ?_) ?_
                · go_simp
                  have Hx6 := Lib.hid (isF_mul HX.out Hx5.out (W2))
                  generalize aV Ieee.double.mul x x5 (W2) = x6 at Hx6 ⊢
                  generalize hW : W2.drewN _ = W3
                  have HI3 := Lib.hid (show I W3 from hW ▸ hIn _ _ HI2.out)
                  clear hW
                  refine hK.out _ _ ?_ (fun hS => ?_)
                  · exact hI1 _ HI3.out
                  clear hK K
                  try simp only [Act.put, List.setIfInBounds_toArray, List.set_cons_zero, List.set_cons_succ]
                  refine wpAnyF_ready (rs := [14]) (by kernel_rfl) (by simp) ?_
                  refine AllReadyF.cons (o := { dst := some 66, op := Go.Op.binOp Go.BinOp.add 27 (Go.Operand.tmp 58) (Go.Operand.tmp 65) 27, type := 27, pos := "stats.go:174", after := #[{ on := 6, ground := Go.Ground.data }, { on := 13, ground := Go.Ground.data }], guard := none }) rfl (by rfl) (fun K hK => ?_) ?_
                  · go_simp
                    have Hx14 := Lib.hid (isF_add Hx6.out Hx13.out (W3))
                    generalize aV Ieee.double.add x6 x13 (W3) = x14 at Hx14 ⊢
                    generalize hW : W3.drewN _ = W4
                    have HI4 := Lib.hid (show I W4 from hW ▸ hIn _ _ HI3.out)
                    clear hW
                    refine hK.out _ _ ?_ (fun hS => ?_)
                    · exact hI1 _ HI4.out
                    clear hK K
                    try simp only [Act.put, List.setIfInBounds_toArray, List.set_cons_zero, List.set_cons_succ]
                    refine wpAnyF_ready (rs := [15]) (by kernel_rfl) (by simp) ?_
                    refine AllReadyF.cons (o := { dst := some 67, op := Go.Op.call { callee := Go.Callee.value (Go.Operand.func 48), args := #[Go.Operand.tmp 66], argTypes := #[27] }, type := 27, pos := "stats.go:174", after := #[{ on := 14, ground := Go.Ground.data }], guard := none }) rfl (by rfl) (fun K hK => ?_) ?_
                    · go_simp
                      refine (plain_any Hx14.out _).mono ?_
                      rintro e w6 ⟨r, rfl, hr, hw6⟩
                      rw [hw6]
                      have HR := Lib.hid hr
                      clear hr hw6
                      refine hK.out _ _ ?_ (fun hS => ?_)
                      · exact hI1 _ HI4.out
                      clear hK K
                      try simp only [Act.put, List.setIfInBounds_toArray, List.set_cons_zero, List.set_cons_succ]
                      refine wpAnyF_take (i := 16) (oi := { dst := some 4, op := Go.Op.assign (Go.Operand.tmp 67), type := 27, pos := "stats.go:174", after := #[{ on := 15, ground := Go.Ground.data }, { on := 15, ground := Go.Ground.chain }, { on := 0, ground := Go.Ground.phase }, { on := 1, ground := Go.Ground.phase }, { on := 2, ground := Go.Ground.phase }, { on := 3, ground := Go.Ground.phase }, { on := 4, ground := Go.Ground.phase }, { on := 5, ground := Go.Ground.phase }, { on := 6, ground := Go.Ground.phase }, { on := 7, ground := Go.Ground.phase }, { on := 8, ground := Go.Ground.phase }, { on := 9, ground := Go.Ground.phase }, { on := 10, ground := Go.Ground.phase }, { on := 11, ground := Go.Ground.phase }, { on := 12, ground := Go.Ground.phase }, { on := 13, ground := Go.Ground.phase }, { on := 14, ground := Go.Ground.phase }, { on := 15, ground := Go.Ground.phase }], guard := none }) (v := ?_) rfl (by kernel_rfl) (by kernel_rfl) (by kernel_rfl) (by kernel_rfl) (fun _ _ _ h => h) (Or.inl ⟨by rfl, ?_⟩) hS ?_
                      rotate_left
                      · intro w' hSw; have z2 := (hSw.cell (p := ⟨bq, off + k, none⟩) lq5).trans z0; have z3 := (hSw.cell (p := ⟨bq, off + (k + 1), none⟩) lq5).trans z1; go_simp; try with_reducible rfl
                      try simp only [Act.put, List.setIfInBounds_toArray, List.set_cons_zero, List.set_cons_succ]
                      refine wpAnyF_done (by kernel_rfl) ?_ _
                      go_wp2_with fail
                      go_ret
                      exact ⟨r, rfl, by rw [HZ2.out]; exact HR.out, HB5.out.trans ((hI1 _ HI4.out).mono HB5.out.size)⟩
                    exact AllReadyF.nil
                  exact AllReadyF.nil
                exact AllReadyF.nil
              exact AllReadyF.nil
            exact AllReadyF.nil
        · have g2' : (Ieee.double.order p one64 == some .lt || Ieee.double.order p one64 == some .eq) = false := by simpa using g2
          have d3 : (FloatKind.f64.format.order p 4607182418800017408 == some .lt || FloatKind.f64.format.order p 4607182418800017408 == some .eq) = false := g2'
          have HZ := Lib.hid (show z = none by rw [hz, if_pos (by rw [hmn]; unfold inB; rw [g2']; simp)])
          clear he hz hn hie hmn g1 g2 g2'
          go_enter Tryz.func24, Tryz.ntmps24
          go_wp2_with fail
          refine (contains_any HL.out).mono ?_
          rintro e w1 ⟨rfl, q1, hw1⟩
          rw [HN.out, hw1]
          clear hw1
          go_wp2_with fail
          refine (nan_any _).mono ?_
          rintro e w1 ⟨rfl, hw1⟩
          rw [hw1]
          clear hw1
          go_wp2_with fail
          go_ret
          exact ⟨_, rfl, by rw [HZ.out]; exact nan_isF, below_drewN (Below.refl _ _) _⟩
      · have g1' : (Ieee.double.order p 0 == some .gt || Ieee.double.order p 0 == some .eq) = false := by simpa using g1
        have d2 : (FloatKind.f64.format.order p 0 == some .gt || FloatKind.f64.format.order p 0 == some .eq) = false := g1'
        have HZ := Lib.hid (show z = none by rw [hz, if_pos (by rw [hmn]; unfold inB; rw [g1']; simp)])
        clear he hz hn hie hmn g1 g1'
        go_enter Tryz.func24, Tryz.ntmps24
        go_wp2_with fail
        refine (contains_any HL.out).mono ?_
        rintro e w1 ⟨rfl, q1, hw1⟩
        rw [HN.out, hw1]
        clear hw1
        go_wp2_with fail
        refine (nan_any _).mono ?_
        rintro e w1 ⟨rfl, hw1⟩
        rw [hw1]
        clear hw1
        go_wp2_with fail
        go_ret
        exact ⟨_, rfl, by rw [HZ.out]; exact nan_isF, below_drewN (Below.refl _ _) _⟩
end Go.Proofs.YtidejikolcgojaaGreat.St

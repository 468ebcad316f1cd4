/- Stats: turns. (Printed by tools/gen_stl.py.) -/
import Derived.Test.YtidejikolcgojaaGreatStK
import Derived.Laws.Cover3
namespace Go.Proofs.YtidejikolcgojaaGreat.St
open Go.RowKit Go.Shelf
open Go.Proofs.YtidejikolcgojaaGreat.Vb Go.Proofs.YtidejikolcgojaaGreat.Ac
attribute [local go_sem] run_fadd run_fsub run_fmul run_fdiv run_store_float

/-- the numbers at the places from p on, each fourth -/
def everyN (l : List Nat) (p : Nat) : List Nat := (List.range ((l.length + 3 - p) / 4)).map fun i => l.getD (4 * i + p) 0
theorem everyN_length (l : List Nat) (p : Nat) : (everyN l p).length = (l.length + 3 - p) / 4 := by unfold everyN; simp
theorem everyN_at {l : List Nat} {p k x : Nat} (hp : p ≤ 3) (hx : l[4 * k + p]? = some x) : (everyN l p)[k]? = some x := by
  have h := (List.getElem?_eq_some_iff.1 hx).1
  unfold everyN
  rw [List.getElem?_map, List.getElem?_range (by omega)]
  simp [List.getD, hx]
theorem everyN_get {l : List Nat} {p k x : Nat} (hp : p ≤ 3) (h : (everyN l p)[k]? = some x) : l[4 * k + p]? = some x := by
  have hk := (List.getElem?_eq_some_iff.1 h).1
  rw [everyN_length] at hk
  obtain ⟨y, hy⟩ : ∃ y, l[4 * k + p]? = some y := ⟨_, List.getElem?_eq_getElem (by omega)⟩
  rw [everyN_at hp hy] at h
  rw [hy, h]
theorem everyN_snoc {l : List Nat} {p k x : Nat} (hp : p ≤ 3) (hx : l[4 * k + p]? = some x) : (nums (everyN l p)).take (k + 1) = (nums (everyN l p)).take k ++ [cn x] := by
  rw [List.take_add_one, nums_at (everyN_at hp hx)]
  rfl
set_option maxRecDepth 100000 in
set_option maxHeartbeats 4000000 in
theorem every_any {l : List Nat} {v : Value} {R : Nat → Prop} {w : World} (h : Fls w R v l) (hle : l.length ≤ 1000) {p : Nat} (hp : p ≤ 3) :
    Calls Tryz.prog 68 #[v, .int .i64 p] w fun e w' => ∃ v', e = .returned v' ∧ OwnF w' w.heap.size v' (nums (everyN l p)) ∧ Below w.heap.size w w' := by
  obtain ⟨A, cap, rfl, hnc, hcap⟩ := h.form
  have HL := Lib.hid h
  obtain ⟨pl, hpl⟩ : ∃ z, z = nums (everyN l p) := ⟨_, rfl⟩
  have HP := Lib.hid hpl
  obtain ⟨cnt, hcnt⟩ : ∃ c, c = (l.length + 3 - p) / 4 := ⟨_, rfl⟩
  have HPL := Lib.hid (show pl.length = cnt by rw [hpl, nums_length, everyN_length, hcnt])
  have hc1 : 4 * cnt ≤ l.length + 3 - p := by omega
  have hc2 : l.length + 3 - p < 4 * cnt + 4 := by omega
  rw [← hpl]
  clear h hpl hcnt
  go_enter Tryz.func68, Tryz.ntmps68
  go_wp2_with fail
  go_loopw [5, 6] (fun o i wr => ∃ k : Nat, k ≤ cnt ∧ i = .int .i64 ((4 * k + p : Nat) : Int) ∧ OwnF wr w.heap.size o (pl.take k) ∧ Below w.heap.size w wr) (fun _ i _ => l.length + 8 - (intOf i).toNat)
  case atStart => exact ⟨0, Nat.zero_le _, by simp, ownF_nil _ _, Below.refl _ _⟩
  case round =>
    obtain ⟨k, hk, rfl, ho, hbl⟩ := hrel
    have HBL := Lib.hid hbl
    obtain ⟨j, hj⟩ : ∃ j, j = 4 * k + p := ⟨_, rfl⟩
    rw [← hj]
    by_cases hlt : j < l.length
    · obtain ⟨x, hx⟩ : ∃ x, l[j]? = some x := ⟨_, List.getElem?_eq_getElem hlt⟩
      have HSN := Lib.hid (show pl.take (k + 1) = pl.take k ++ [cn x] by rw [HP.out]; exact everyN_snoc hp (by rw [← hj]; exact hx))
      obtain ⟨bq, off, rfl, _, _, q0, q1⟩ := (HL.out.grow hbl).at_ hx
      have HPP := Lib.hid (isF_self q1)
      obtain ⟨ll, hl0, hl3, hown⟩ := ho
      have hll : ll.length = k := by
        rw [← nums_length, hl0, List.length_take, HPL.out]
        omega
      have HL0 := Lib.hid hl0
      have HL3 := Lib.hid hl3
      rw [hll] at hown
      obtain ⟨B1, d1, rfl⟩ := own_form hown
      have HLL := Lib.hid hll
      have HOW := Lib.hid hown
      have HJ := Lib.hid hj
      have hk2 : k < cnt := by omega
      have e1 : (0 : Int) ≤ (j : Int) := by omega
      have e2 : (j : Int) < (l.length : Int) := by omega
      have hsz := hbl.size
      have HW1 := Lib.hid (Below.refl wr.heap.size wr)
      clear hx hl0 hl3 hown hll q1 hbl hj
      go_wp2_with (at_builtin; go_must (have HSL := Lib.hid (show Sl (wr.alloc (.cells #[.float .f64 x] 27)) (fun _ => True) (.slice (some ⟨wr.heap.size, 0, none⟩) 1 1) 1 1 [.float .f64 x] from (Sl.new wr #[.float .f64 x] 27 1 1 (by unfold maxLen; omega) rfl).mono fun _ _ _ => trivial); refine wpList_app _ rfl (.tmp 14) (.tmp 19) et_f64 rfl w.heap.size (.slice B1 k d1) k (flts ll) rfl (own_grow HOW.out ((Below.refl wr.heap.size wr).alloc (Nat.le_refl _) (.cells #[.float .f64 x] 27))) _ _ 1 _ rfl HSL.out (by simp [Value.oneCell']) (by omega) (by unfold maxLen; omega) (by simp; omega) ?_; intro A5 c5 w5 hown5 hg5 _; have HB5 := Lib.hid ((HBL.out.alloc (by omega) (.cells #[.float .f64 x] 27)).grown hg5 (by simp; omega) (fun r e => (HOW.out.lt r e).1)); have HO5 := Lib.hid hown5; clear hown5 hg5))
      go_wp2_with fail
      go_roundw
      case rel => exact ⟨k + 1, by omega, by have := HJ.out; congr 1; omega, by rw [HSN.out]; exact ownF_app HL0.out HL3.out HPP.out (by rw [HLL.out]; exact HO5.out), HB5.out⟩
      case measure => simp [intOf]; omega
    · have hk2 : k = cnt := by omega
      have e2 : ¬ (j : Int) < (l.length : Int) := by omega
      rw [List.take_of_length_le (by rw [HPL.out]; omega)] at ho
      obtain ⟨A5, c5, rfl⟩ := ownF_form ho
      have HO := Lib.hid ho
      clear ho hbl hj hk2
      go_wp2_with fail
      go_ret
      exact ⟨_, rfl, HO.out, HBL.out⟩

/-- a row as a complex number -/
def turnS (l : List Nat) (p : Nat) : Fl := sumL (nums (everyN l p))
def turnR (l : List Nat) : Fl := fzero (fsub (turnS l 0) (turnS l 2))
def turnI (l : List Nat) : Fl := fzero (fsub (turnS l 1) (turnS l 3))
set_option maxRecDepth 100000 in
set_option maxHeartbeats 4000000 in
theorem refTurn_any {l : List Nat} {v : Value} {R : Nat → Prop} {w : World} (h : Fls w R v l) (hle : l.length ≤ 1000) :
    Calls Tryz.prog 30 #[v] w fun e w' => (∃ a b, e = .returned (.tuple #[.float .f64 a, .float .f64 b]) ∧ IsF a (turnR l) ∧ IsF b (turnI l)) ∧ Below w.heap.size w w' := by
  obtain ⟨A, cap, rfl, hnc, hcap⟩ := h.form
  have HL0 := Lib.hid h
  have HB0 := Lib.hid (Below.refl w.heap.size w)
  obtain ⟨zr, hzr⟩ : ∃ z, z = turnR l := ⟨_, rfl⟩
  obtain ⟨zi, hzi⟩ : ∃ z, z = turnI l := ⟨_, rfl⟩
  have HZR := Lib.hid hzr
  have HZI := Lib.hid hzi
  rw [← hzr, ← hzi]
  clear h hzr hzi
  go_enter Tryz.func30, Tryz.ntmps30
  go_wp2_with fail
  refine (every_any (p := 0) HL0.out hle (by omega)).mono ?_
  rintro e w1 ⟨v1, rfl, ho, hb⟩
  have HO1 := Lib.hid ho
  have HL1 := Lib.hid (HL0.out.grow hb)
  have HB1 := Lib.hid (HB0.out.trans (hb.mono HB0.out.size))
  obtain ⟨B1, d1, rfl⟩ := ownF_form ho
  clear ho hb
  go_wp2_with fail
  refine (sum_own HO1.out).mono ?_
  rintro e w2 ⟨s0, rfl, hs, hb⟩
  have HS0 := Lib.hid (show IsF s0 (turnS l 0) from hs)
  have HL2 := Lib.hid (HL1.out.grow hb)
  have HB2 := Lib.hid (HB1.out.trans (hb.mono HB1.out.size))
  clear hs hb
  go_wp2_with fail
  refine (every_any (p := 2) HL2.out hle (by omega)).mono ?_
  rintro e w3 ⟨v3, rfl, ho, hb⟩
  have HO3 := Lib.hid ho
  have HL3 := Lib.hid (HL2.out.grow hb)
  have HB3 := Lib.hid (HB2.out.trans (hb.mono HB2.out.size))
  obtain ⟨B3, d3, rfl⟩ := ownF_form ho
  clear ho hb
  go_wp2_with fail
  refine (sum_own HO3.out).mono ?_
  rintro e w4 ⟨s2, rfl, hs, hb⟩
  have HS2 := Lib.hid (show IsF s2 (turnS l 2) from hs)
  have HL4 := Lib.hid (HL3.out.grow hb)
  have HB4 := Lib.hid (HB3.out.trans (hb.mono HB3.out.size))
  clear hs hb
  go_wp2_with fail
  generalize hv : aV Ieee.double.sub s0 s2 _ = q
  have HQ := Lib.hid (isF_eq hv (isF_sub HS0.out HS2.out _))
  clear hv
  generalize hW : w4.drewN _ = w5
  have HL5 := Lib.hid (show Fls w5 R _ l by rw [← hW]; exact HL4.out.grow (below_drewN (Below.refl _ _) _))
  have HB5 := Lib.hid (show Below w.heap.size w w5 by rw [← hW]; exact below_drewN HB4.out _)
  clear hW
  refine (zero_any HQ.out _).mono ?_
  rintro e w9_ ⟨r5, rfl, hr, hw9⟩
  rw [hw9]
  have HR5 := Lib.hid hr
  clear hr hw9 HQ
  go_wp2_with fail
  refine (every_any (p := 1) HL5.out hle (by omega)).mono ?_
  rintro e w6 ⟨v6, rfl, ho, hb⟩
  have HO6 := Lib.hid ho
  have HL6 := Lib.hid (HL5.out.grow hb)
  have HB6 := Lib.hid (HB5.out.trans (hb.mono HB5.out.size))
  obtain ⟨B6, d6, rfl⟩ := ownF_form ho
  clear ho hb
  go_wp2_with fail
  refine (sum_own HO6.out).mono ?_
  rintro e w7 ⟨s1, rfl, hs, hb⟩
  have HS1 := Lib.hid (show IsF s1 (turnS l 1) from hs)
  have HL7 := Lib.hid (HL6.out.grow hb)
  have HB7 := Lib.hid (HB6.out.trans (hb.mono HB6.out.size))
  clear hs hb
  go_wp2_with fail
  refine (every_any (p := 3) HL7.out hle (by omega)).mono ?_
  rintro e w8 ⟨v8, rfl, ho, hb⟩
  have HO8 := Lib.hid ho
  have HL8 := Lib.hid (HL7.out.grow hb)
  have HB8 := Lib.hid (HB7.out.trans (hb.mono HB7.out.size))
  obtain ⟨B8, d8, rfl⟩ := ownF_form ho
  clear ho hb
  go_wp2_with fail
  refine (sum_own HO8.out).mono ?_
  rintro e w9 ⟨s3, rfl, hs, hb⟩
  have HS3 := Lib.hid (show IsF s3 (turnS l 3) from hs)
  have HL9 := Lib.hid (HL8.out.grow hb)
  have HB9 := Lib.hid (HB8.out.trans (hb.mono HB8.out.size))
  clear hs hb
  go_wp2_with fail
  generalize hv : aV Ieee.double.sub s1 s3 _ = q
  have HQ := Lib.hid (isF_eq hv (isF_sub HS1.out HS3.out _))
  clear hv
  generalize hW : w9.drewN _ = w10
  have HL10 := Lib.hid (show Fls w10 R _ l by rw [← hW]; exact HL9.out.grow (below_drewN (Below.refl _ _) _))
  have HB10 := Lib.hid (show Below w.heap.size w w10 by rw [← hW]; exact below_drewN HB9.out _)
  clear hW
  refine (zero_any HQ.out _).mono ?_
  rintro e w9_ ⟨r9, rfl, hr, hw9⟩
  rw [hw9]
  have HR9 := Lib.hid hr
  clear hr hw9 HQ
  go_wp2_with fail
  have HEND := HB10
  go_ret2
  exact ⟨⟨r5, r9, rfl, by rw [HZR.out]; exact HR5.out, by rw [HZI.out]; exact HR9.out⟩, HEND.out⟩
end Go.Proofs.YtidejikolcgojaaGreat.St

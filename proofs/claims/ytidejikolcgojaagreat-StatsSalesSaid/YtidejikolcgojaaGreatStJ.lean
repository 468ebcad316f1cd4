/- Stats: the document's products, spread, shares, line. (Printed by tools/gen_stj.py.) -/
import Derived.Test.YtidejikolcgojaaGreatStI
namespace Go.Proofs.YtidejikolcgojaaGreat.St
open Go.RowKit Go.Shelf
open Go.Proofs.YtidejikolcgojaaGreat.Vb Go.Proofs.YtidejikolcgojaaGreat.Ac
attribute [local go_sem] run_fadd run_fsub run_fmul run_fdiv run_store_float

/-- a row of the call's own, of some bits of these numbers -/
def OwnF (W : World) (base : Nat) (v : Value) (fs : List Fl) : Prop := ∃ l : List Nat, nums l = fs ∧ (∀ x ∈ l, x < bits64) ∧ W.ownsRow base 27 1 v l.length (flts l)
theorem OwnF.fls {W : World} {base : Nat} {v : Value} {fs : List Fl} (h : OwnF W base v fs) : ∃ l, nums l = fs ∧ Fls W (fun _ => True) v l := by
  obtain ⟨l, h1, h2, h3⟩ := h
  exact ⟨l, h1, (Sl.of_own h3).mono fun _ _ _ => trivial, h2⟩
theorem OwnF.grow {W W' : World} {base : Nat} {v : Value} {fs : List Fl} (h : OwnF W base v fs) (hb : Below W.heap.size W W') : OwnF W' base v fs := by
  obtain ⟨l, h1, h2, h3⟩ := h
  exact ⟨l, h1, h2, own_grow h3 hb⟩
theorem ownF_nil (W : World) (base : Nat) : OwnF W base (.slice none 0 0) [] := ⟨[], rfl, (by intro x hx; cases hx), World.ownsRow_nil _ _ _ _⟩
theorem ownF_form {W : World} {base : Nat} {v : Value} {fs : List Fl} (h : OwnF W base v fs) : ∃ A c, v = .slice A fs.length c := by
  obtain ⟨l, h1, _, h3⟩ := h
  obtain ⟨A, c, rfl⟩ := own_form h3
  exact ⟨A, c, by rw [← h1, nums_length]⟩
/-- one number more -/
theorem ownF_app {W' : World} {base : Nat} {v' : Value} {fs : List Fl} {l : List Nat} {x : Nat} {f : Fl} (h1 : nums l = fs) (h2 : ∀ x ∈ l, x < bits64) (hx : IsF x f) (h : W'.ownsRow base 27 1 v' (l.length + 1) (flts l ++ [.float .f64 x])) : OwnF W' base v' (fs ++ [f]) := by
  refine ⟨l ++ [x], ?_, ?_, ?_⟩
  · unfold nums at *
    rw [List.map_append, h1, List.map_cons, List.map_nil, hx.2]
  · intro y hy
    rcases List.mem_append.1 hy with hy | hy
    · exact h2 y hy
    · obtain rfl : y = x := by simpa using hy
      exact hx.1
  · rw [List.length_append, flts_append]
    exact h

theorem prodL_snoc {x y : List Fl} {a b p q : Fl} {k : Nat} (hp : x[k]? = some p) (hq : y[k]? = some q) : (prodL x a y b).take (k + 1) = (prodL x a y b).take k ++ [fmul (fsub p a) (fsub q b)] := by
  unfold prodL
  rw [List.take_add_one, List.getElem?_zipWith, hp, hq]
  rfl
theorem shareL_snoc {x : List Fl} {s p : Fl} {k : Nat} (hp : x[k]? = some p) : (shareL x s).take (k + 1) = (shareL x s).take k ++ [fmul (fdiv p s) (fdiv p s)] := by
  unfold shareL
  rw [List.take_add_one, List.getElem?_map, hp]
  rfl
set_option maxRecDepth 100000 in
set_option maxHeartbeats 4000000 in
theorem products_any {x y : List Nat} {vx vy : Value} {R R' : Nat → Prop} {a b : Nat} {fa fb : Fl} {w : World} (hx : Fls w R vx x) (hy : Fls w R' vy y) (hlen : x.length = y.length) (hle : x.length ≤ 1000) (ha : IsF a fa) (hb : IsF b fb) :
    Calls Tryz.prog 51 #[vx, .float .f64 a, vy, .float .f64 b] w fun e w' => ∃ v, e = .returned v ∧ OwnF w' w.heap.size v (prodL (nums x) fa (nums y) fb) ∧ Below w.heap.size w w' := by
  obtain ⟨A, cap, rfl, hnc, hcap⟩ := hx.form
  obtain ⟨A2, cap2, rfl, hnc2, hcap2⟩ := hy.form
  have HX := Lib.hid hx
  have HY := Lib.hid hy
  have HA := Lib.hid ha
  have HB := Lib.hid hb
  have hl1 : x.length ≤ y.length := by omega
  have hl2 : y.length ≤ x.length := by omega
  obtain ⟨pl, hpl⟩ : ∃ z, z = prodL (nums x) fa (nums y) fb := ⟨_, rfl⟩
  have HP := Lib.hid hpl
  have HPL := Lib.hid (show pl.length = x.length by rw [hpl, prodL_length _ _ _ _ (by rw [nums_length, nums_length]; exact hlen), nums_length])
  rw [← hpl]
  clear hx hy ha hb hlen hpl
  go_enter Tryz.func51, Tryz.ntmps51
  go_wp2_with fail
  go_loopw [9, 10] (fun o i wr => ∃ k : Nat, k ≤ x.length ∧ i = .int .i64 k ∧ OwnF wr w.heap.size o (pl.take k) ∧ Below w.heap.size w wr) (fun _ i _ => x.length - (intOf i).toNat)
  case atStart => exact ⟨0, Nat.zero_le _, rfl, ownF_nil _ _, Below.refl _ _⟩
  case round =>
    obtain ⟨k, hk, rfl, ho, hbl⟩ := hrel
    have HBL := Lib.hid hbl
    by_cases hlt : k < x.length
    · obtain ⟨p, hp⟩ : ∃ p, x[k]? = some p := ⟨_, List.getElem?_eq_getElem hlt⟩
      obtain ⟨q, hq⟩ : ∃ q, y[k]? = some q := ⟨_, List.getElem?_eq_getElem (by omega)⟩
      have HSN := Lib.hid (show pl.take (k + 1) = pl.take k ++ [fmul (fsub (cn p) fa) (fsub (cn q) fb)] by rw [HP.out]; exact prodL_snoc (nums_at hp) (nums_at hq))
      obtain ⟨bq, off, rfl, _, _, q0, q1⟩ := (HX.out.grow hbl).at_ hp
      obtain ⟨bq2, off2, rfl, _, _, p0, p1⟩ := (HY.out.grow hbl).at_ hq
      have HPP := Lib.hid (isF_self q1)
      have HQQ := Lib.hid (isF_self p1)
      obtain ⟨ll, hl0, hl3, hown⟩ := ho
      have hll : ll.length = k := by
        rw [← nums_length, hl0, List.length_take, HPL.out]
        omega
      have HL0 := Lib.hid hl0
      have HL3 := Lib.hid hl3
      rw [hll] at hown
      obtain ⟨B1, d1, rfl⟩ := own_form hown
      have HLL := Lib.hid hll
      have HOW := Lib.hid hown
      have e1 : (0 : Int) ≤ (k : Int) := by omega
      have e2 : (k : Int) < (x.length : Int) := by omega
      have e3 : (k : Int) < (y.length : Int) := by omega
      have hsz := hbl.size
      clear hp hq hl0 hl3 hown hll q1 p1 hbl
      go_wp2_with (at_builtin; go_must (generalize hv : aV Ieee.double.sub p a _ = x1; have Hx1 := Lib.hid (isF_eq hv (isF_sub HPP.out HA.out _)); clear hv; generalize hv : aV Ieee.double.sub q b _ = x2; have Hx2 := Lib.hid (isF_eq hv (isF_sub HQQ.out HB.out _)); clear hv; generalize hv : aV Ieee.double.mul x1 x2 _ = x3; have Hx3 := Lib.hid (isF_eq hv (isF_mul Hx1.out Hx2.out _)); clear hv; generalize hW : wr.drewN _ = w1; have HW1 := Lib.hid (show Below wr.heap.size wr w1 by rw [← hW]; exact below_drewN (Below.refl _ _) _); have hs1 : wr.heap.size ≤ w1.heap.size := HW1.out.size; have HSL := Lib.hid (show Sl (w1.alloc (.cells #[.float .f64 x3] 27)) (fun _ => True) (.slice (some ⟨wr.heap.size, 0, none⟩) 1 1) 1 1 [.float .f64 x3] from by (rw [show wr.heap.size = w1.heap.size by (rw [← hW]; rfl)]; exact (Sl.new w1 #[.float .f64 x3] 27 1 1 (by unfold maxLen; omega) rfl).mono fun _ _ _ => trivial)); clear hW; refine wpList_app _ rfl (.tmp 31) (.tmp 35) et_f64 rfl w.heap.size (.slice B1 k d1) k (flts ll) rfl (own_grow (own_grow HOW.out HW1.out) ((Below.refl w1.heap.size w1).alloc (Nat.le_refl _) (.cells #[.float .f64 x3] 27))) _ _ 1 _ rfl HSL.out (by simp [Value.oneCell']) (by omega) (by unfold maxLen; omega) (by simp; omega) ?_; intro A5 c5 w5 hown5 hg5 _; have HB5 := Lib.hid (((HBL.out.trans (HW1.out.mono (by omega))).alloc (by omega) (.cells #[.float .f64 x3] 27)).grown hg5 (by simp; omega) (fun r e => (HOW.out.lt r e).1)); have HO5 := Lib.hid hown5; clear hown5 hg5))
      go_wp2_with fail
      go_roundw
      case rel => exact ⟨k + 1, by omega, by go_num, by rw [HSN.out]; exact ownF_app HL0.out HL3.out Hx3.out (by rw [HLL.out]; exact HO5.out), HB5.out⟩
      case measure => simp [intOf]; omega
    · obtain rfl : k = x.length := by omega
      rw [List.take_of_length_le (by rw [HPL.out]; omega)] at ho
      obtain ⟨A5, c5, rfl⟩ := ownF_form ho
      have HO := Lib.hid ho
      clear ho hbl
      go_wp2_with fail
      go_ret
      exact ⟨_, rfl, HO.out, HBL.out⟩

theorem sum_own {W : World} {base : Nat} {v : Value} {fs : List Fl} (h : OwnF W base v fs) : Calls Tryz.prog 50 #[v] W fun e w' => ∃ r, e = .returned (.float .f64 r) ∧ IsF r (sumL fs) ∧ Below W.heap.size W w' := by
  obtain ⟨l, rfl, hl⟩ := h.fls
  exact refsum_any hl
theorem refSpread_any {l : List Nat} {v : Value} {R : Nat → Prop} {w : World} (h : Fls w R v l) (hle : l.length ≤ 1000) :
    Calls Tryz.prog 15 #[v] w (Maybe l (fzero (spreadL l)) w) := by
  obtain ⟨A, cap, rfl, hnc, hcap⟩ := h.form
  have HL := Lib.hid h
  clear h
  by_cases he : l = []
  · have d1 : ((l.length : Int) == 0) = true := by rw [he]; rfl
    have HE := Lib.hid he
    clear he
    go_enter Tryz.func15, Tryz.ntmps15
    go_wp2_with fail
    go_ret2
    exact ⟨⟨0, by rw [HE.out]; rfl, fun h => absurd HE.out h, by decide⟩, Below.refl _ _⟩
  · have d1 : ((l.length : Int) == 0) = false := by
      cases l with
      | nil => exact absurd rfl he
      | cons x r => simp; omega
    have HE := Lib.hid he
    clear he
    go_enter Tryz.func15, Tryz.ntmps15
    go_wp2_with fail
    refine (refmean_any HL.out HE.out).mono ?_
    rintro e w1 ⟨m, rfl, hm, hb⟩
    have HM := Lib.hid hm
    have HB := Lib.hid hb
    have HL1 := Lib.hid (HL.out.grow hb)
    clear hm hb
    go_wp2_with fail
    refine (products_any HL1.out HL1.out rfl hle HM.out HM.out).mono ?_
    rintro e w2 ⟨v2, rfl, ho, hb⟩
    rw [prodL_self] at ho
    have HO := Lib.hid ho
    have HB2 := Lib.hid (HB.out.trans (hb.mono HB.out.size))
    obtain ⟨B2, d2, rfl⟩ := ownF_form ho
    clear ho hb
    go_wp2_with fail
    refine (sum_own HO.out).mono ?_
    rintro e w3 ⟨s, rfl, hs, hb⟩
    have HS := Lib.hid hs
    have HB3 := Lib.hid (HB2.out.trans (hb.mono HB2.out.size))
    clear hs hb
    go_wp2_with fail
    generalize hv : aV Ieee.double.div s _ _ = q
    have HQ := Lib.hid (isF_eq hv (isF_div HS.out (isF_int _) _))
    clear hv
    refine (sqrt_any HQ.out _).mono ?_
    rintro e w4 ⟨r, n4, rfl, hr, hw4⟩
    rw [hw4]
    have HR4 := Lib.hid hr
    clear hr hw4
    go_wp2_with fail
    refine (zero_any HR4.out _).mono ?_
    rintro e w5 ⟨r5, rfl, hr, hw5⟩
    rw [hw5]
    have HR5 := Lib.hid hr
    clear hr hw5
    go_wp2_with fail
    go_ret2
    exact ⟨⟨r5, by rw [show l.isEmpty = false by cases l with | nil => exact absurd rfl HE.out | cons x r => rfl]; rfl, fun _ => HR5.out, HR5.out.1⟩, below_drewN HB3.out _⟩

set_option maxRecDepth 100000 in
set_option maxHeartbeats 4000000 in
theorem refShares_any {l : List Nat} {v : Value} {R : Nat → Prop} {w : World} (h : Fls w R v l) (hle : l.length ≤ 1000) :
    Calls Tryz.prog 18 #[v] w (Maybe l (fzero (sharesL l)) w) := by
  obtain ⟨A, cap, rfl, hnc, hcap⟩ := h.form
  have HL := Lib.hid h
  clear h
  by_cases he : l = []
  · have d1 : ((l.length : Int) == 0) = true := by rw [he]; rfl
    have HE := Lib.hid he
    clear he
    go_enter Tryz.func18, Tryz.ntmps18
    go_wp2_with fail
    go_ret2
    exact ⟨⟨0, by rw [HE.out]; rfl, fun h => absurd HE.out h, by decide⟩, Below.refl _ _⟩
  · have d1 : ((l.length : Int) == 0) = false := by
      cases l with
      | nil => exact absurd rfl he
      | cons x r => simp; omega
    have HE := Lib.hid he
    clear he
    obtain ⟨pl, hpl⟩ : ∃ z, z = shareL (nums l) (sumL (nums l)) := ⟨_, rfl⟩
    have HP := Lib.hid hpl
    have HPL := Lib.hid (show pl.length = l.length by rw [hpl, shareL_length, nums_length])
    have HSH := Lib.hid (show sharesL l = sumL pl by rw [hpl]; rfl)
    clear hpl
    go_enter Tryz.func18, Tryz.ntmps18
    go_wp2_with fail
    refine (refsum_any HL.out).mono ?_
    rintro e w1 ⟨s, rfl, hs, hb⟩
    have HS := Lib.hid hs
    have HB := Lib.hid hb
    have HL1 := Lib.hid (HL.out.grow hb)
    have hsw := hb.size
    clear hs hb d1
    go_wp2_with fail
    go_loopw [5, 6] (fun o i wr => ∃ k : Nat, k ≤ l.length ∧ i = .int .i64 k ∧ OwnF wr w1.heap.size o (pl.take k) ∧ Below w1.heap.size w1 wr) (fun _ i _ => l.length - (intOf i).toNat)
    case atStart => exact ⟨0, Nat.zero_le _, rfl, ownF_nil _ _, Below.refl _ _⟩
    case round =>
      obtain ⟨k, hk, rfl, ho, hbl⟩ := hrel
      have HBL := Lib.hid hbl
      by_cases hlt : k < l.length
      · obtain ⟨p, hp⟩ : ∃ p, l[k]? = some p := ⟨_, List.getElem?_eq_getElem hlt⟩
        have HSN := Lib.hid (show pl.take (k + 1) = pl.take k ++ [fmul (fdiv (cn p) (sumL (nums l))) (fdiv (cn p) (sumL (nums l)))] by rw [HP.out]; exact shareL_snoc (nums_at hp))
        obtain ⟨bq, off, rfl, _, _, q0, q1⟩ := (HL1.out.grow hbl).at_ hp
        have HPP := Lib.hid (isF_self q1)
        obtain ⟨ll, hl0, hl3, hown⟩ := ho
        have hll : ll.length = k := by
          rw [← nums_length, hl0, List.length_take, HPL.out]
          omega
        have HL0 := Lib.hid hl0
        have HL3 := Lib.hid hl3
        rw [hll] at hown
        obtain ⟨B1, d1, rfl⟩ := own_form hown
        have HLL := Lib.hid hll
        have HOW := Lib.hid hown
        have e1 : (0 : Int) ≤ (k : Int) := by omega
        have e2 : (k : Int) < (l.length : Int) := by omega
        have hsz := hbl.size
        clear hp hl0 hl3 hown hll q1 hbl
        go_wp2_with (at_builtin; go_must (generalize hv : aV Ieee.double.div p s _ = x1; have Hx1 := Lib.hid (isF_eq hv (isF_div HPP.out HS.out _)); clear hv; generalize hv : aV Ieee.double.mul x1 x1 _ = x2; have Hx2 := Lib.hid (isF_eq hv (isF_mul Hx1.out Hx1.out _)); clear hv; generalize hW : wr.drewN _ = w9; have HW1 := Lib.hid (show Below wr.heap.size wr w9 by rw [← hW]; exact below_drewN (Below.refl _ _) _); have hs1 : wr.heap.size ≤ w9.heap.size := HW1.out.size; have HSL := Lib.hid (show Sl (w9.alloc (.cells #[.float .f64 x2] 27)) (fun _ => True) (.slice (some ⟨wr.heap.size, 0, none⟩) 1 1) 1 1 [.float .f64 x2] from by (rw [show wr.heap.size = w9.heap.size by (rw [← hW]; rfl)]; exact (Sl.new w9 #[.float .f64 x2] 27 1 1 (by unfold maxLen; omega) rfl).mono fun _ _ _ => trivial)); clear hW; refine wpList_app _ rfl (.tmp 25) (.tmp 29) et_f64 rfl w1.heap.size (.slice B1 k d1) k (flts ll) rfl (own_grow (own_grow HOW.out HW1.out) ((Below.refl w9.heap.size w9).alloc (Nat.le_refl _) (.cells #[.float .f64 x2] 27))) _ _ 1 _ rfl HSL.out (by simp [Value.oneCell']) (by omega) (by unfold maxLen; omega) (by simp; omega) ?_; intro A5 c5 w5 hown5 hg5 _; have HB5 := Lib.hid (((HBL.out.trans (HW1.out.mono (by omega))).alloc (by omega) (.cells #[.float .f64 x2] 27)).grown hg5 (by simp; omega) (fun r e => (HOW.out.lt r e).1)); have HO5 := Lib.hid hown5; clear hown5 hg5))
        go_wp2_with fail
        go_roundw
        case rel => exact ⟨k + 1, by omega, by go_num, by rw [HSN.out]; exact ownF_app HL0.out HL3.out Hx2.out (by rw [HLL.out]; exact HO5.out), HB5.out⟩
        case measure => simp [intOf]; omega
      · obtain rfl : k = l.length := by omega
        rw [List.take_of_length_le (by rw [HPL.out]; omega)] at ho
        obtain ⟨A5, c5, rfl⟩ := ownF_form ho
        have HO := Lib.hid ho
        clear ho hbl
        go_wp2_with fail
        refine (sum_own HO.out).mono ?_
        rintro e w3 ⟨s3, rfl, hs, hb⟩
        have HS3 := Lib.hid hs
        have HB3 := Lib.hid (HBL.out.trans (hb.mono HBL.out.size))
        clear hs hb
        go_wp2_with fail
        refine (zero_any HS3.out _).mono ?_
        rintro e w5 ⟨r5, rfl, hr, hw5⟩
        rw [hw5]
        have HR5 := Lib.hid hr
        clear hr hw5
        go_wp2_with fail
        go_ret2
        exact ⟨⟨r5, by rw [show l.isEmpty = false by cases l with | nil => exact absurd rfl HE.out | cons x r => rfl]; rfl, fun _ => by rw [HSH.out]; exact HR5.out, HR5.out.1⟩, HB.out.trans (HB3.out.mono hsw)⟩
end Go.Proofs.YtidejikolcgojaaGreat.St

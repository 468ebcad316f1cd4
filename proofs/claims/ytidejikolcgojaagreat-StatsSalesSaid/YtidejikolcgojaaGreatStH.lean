/- Stats: the spread, the shares. -/
import Derived.Test.YtidejikolcgojaaGreatStG
namespace Go.Proofs.YtidejikolcgojaaGreat.St
open Go.RowKit Go.Shelf
open Go.Proofs.YtidejikolcgojaaGreat.Vb Go.Proofs.YtidejikolcgojaaGreat.Ac
attribute [local go_sem] run_fadd run_fsub run_fmul run_fdiv run_store_float

def sqL (x : List Fl) (m : Fl) : List Fl := x.map fun p => fmul (fsub p m) (fsub p m)
theorem prodL_self (x : List Fl) (m : Fl) : prodL x m x m = sqL x m := by
  unfold prodL sqL
  induction x with
  | nil => rfl
  | cons a r ih => simp [ih]
theorem sqL_length (x : List Fl) (m : Fl) : (sqL x m).length = x.length := List.length_map ..
theorem shareL_length (x : List Fl) (m : Fl) : (shareL x m).length = x.length := List.length_map ..
theorem map_get {α β : Type} {f : α → β} {l : List α} {i : Nat} {y : β} (h : (l.map f)[i]? = some y) : ∃ x, l[i]? = some x ∧ y = f x := by
  rw [List.getElem?_map] at h
  cases hx : l[i]? with
  | none => rw [hx] at h; cases h
  | some x => rw [hx] at h; injection h with h; exact ⟨x, rfl, h.symm⟩
theorem spread_giv {W : World} {gt gm : Nat} {R : Nat → Prop} {t : List Nat} {mt : Fl} (ht : RowAt W gt R t) (hm : NumAt W gm mt) : Giv Tryz.prog 59 #[.pointer (some ⟨gt, 0, none⟩), .pointer (some ⟨gm, 0, none⟩)] (sqL (nums t) mt) W := by
  intro W1 i f hb hf
  obtain ⟨p, hp, rfl⟩ := map_get hf
  obtain ⟨x, hx, rfl⟩ := nums_get hp
  exact spread1_any (ht.grow hb) (hm.grow hb) hx
theorem share_giv {W : World} {gt gm : Nat} {R : Nat → Prop} {t : List Nat} {mt : Fl} (ht : RowAt W gt R t) (hm : NumAt W gm mt) : Giv Tryz.prog 63 #[.pointer (some ⟨gt, 0, none⟩), .pointer (some ⟨gm, 0, none⟩)] (shareL (nums t) mt) W := by
  intro W1 i f hb hf
  obtain ⟨p, hp, rfl⟩ := map_get hf
  obtain ⟨x, hx, rfl⟩ := nums_get hp
  exact shares1_any (ht.grow hb) (hm.grow hb) hx

theorem sum_anyN {fs : List Fl} {n : Nat} {g : Nat} {cb : Array Value} {w : World} (hg : Giv Tryz.prog g cb fs w) (hN : fs.length = n) (hn : n ≤ 9223372036854775807) (eg : ∀ args W, (callFunc g args).run Tryz.prog W = .ok (.enter g args) W) :
    Calls Tryz.prog 44 #[.int .i64 n, .func (.func g) #[] cb] w fun e w' => ∃ r, e = .returned (.float .f64 r) ∧ IsF r (sumL fs) ∧ Below w.heap.size w w' := by
  subst hN
  exact sum_any hg eg hn
/-- how far a row spreads, NaN of none -/
def spreadL (l : List Nat) : Fl := fsqrt (fdiv (sumL (sqL (nums l) (meanL l))) (some (floatOfInt .f64 l.length)))
set_option maxRecDepth 100000 in
set_option maxHeartbeats 2000000 in
theorem Spread_any {l : List Nat} {v : Value} {R : Nat → Prop} {w : World} (h : Fls w R v l) :
    Calls Tryz.prog 23 #[v] w fun e w' => ∃ r, e = .returned (.float .f64 r) ∧ IsF r (fzero (spreadL l)) ∧ Below w.heap.size w w' := by
  obtain ⟨A, cap, rfl, hnc, hcap⟩ := h.form
  unfold maxLen at hcap
  obtain ⟨U, hU⟩ : ∃ U, U = w.alloc (.cells #[.slice A l.length cap] 24) := ⟨_, rfl⟩
  have hB : Below w.heap.size w U := by rw [hU]; exact (Below.refl _ _).alloc (Nat.le_refl _) _
  have hR : RowAt U w.heap.size R l := ⟨_, by rw [hU]; exact Blk.new w _ _, h.grow hB⟩
  have hX : Blk U w.heap.size 24 #[.slice A l.length cap] := by rw [hU]; exact Blk.new w _ _
  have HB := Lib.hid hB
  have HR := Lib.hid hR
  have HX := Lib.hid hX
  have HL := Lib.hid (h.grow hB)
  have k0 : U.cell? ⟨w.heap.size, 0, none⟩ = some (.slice A l.length cap) := hX.cell 0
  have HN := Lib.hid (nums_length l)
  obtain ⟨z, hz⟩ : ∃ z, z = spreadL l := ⟨_, rfl⟩
  have HZ := Lib.hid hz
  rw [← hz]
  have hsU := hB.size
  clear h hB hR hX hz
  go_enter Tryz.func23, Tryz.ntmps23
  go_wp2_with fail
  rw [← hU]
  clear hU
  go_wp2_with fail
  refine (mean_any HL.out).mono ?_
  rintro e w2 ⟨m, rfl, hm, hb⟩
  have HM := Lib.hid hm
  have HR2 := Lib.hid (HR.out.grow hb)
  have HX2 := Lib.hid (HX.out.grow hb)
  have HB2 := Lib.hid (HB.out.trans (hb.mono HB.out.size))
  have k1 : w2.cell? ⟨w.heap.size, 0, none⟩ = some (.slice A l.length cap) := HX2.out.cell 0
  have lx := HX2.out.lt
  clear hm hb k0
  go_wp2_with fail
  obtain ⟨U2, hU2⟩ : ∃ U, U = w2.alloc (.cells #[.float .f64 m] 27) := ⟨_, rfl⟩
  have hB2 : Below w2.heap.size w2 U2 := by rw [hU2]; exact (Below.refl _ _).alloc (Nat.le_refl _) _
  have hM2 : NumAt U2 w2.heap.size (meanL l) := ⟨m, by rw [hU2]; exact Blk.new w2 _ _, HM.out⟩
  rw [← hU2]
  have HB3 := Lib.hid (HB2.out.trans (hB2.mono HB2.out.size))
  have hX3 := HX2.out.grow hB2
  have k2 : U2.cell? ⟨w.heap.size, 0, none⟩ = some (.slice A l.length cap) := hX3.cell 0
  have HX3 := Lib.hid hX3
  have HG := Lib.hid (spread_giv (HR2.out.grow hB2) hM2)
  clear hU2 hB2 hM2 hX3 k1
  refine (sum_anyN HG.out ((sqL_length _ _).trans HN.out) (by omega) (fun args W => by go_simp)).mono ?_
  rintro e w3 ⟨s, rfl, hs, hb⟩
  have HS := Lib.hid hs
  have HB4 := Lib.hid (HB3.out.trans (hb.mono HB3.out.size))
  have hX4 := HX3.out.grow hb
  have k3 : w3.cell? ⟨w.heap.size, 0, none⟩ = some (.slice A l.length cap) := hX4.cell 0
  clear hs hb hX4 k2
  go_wp2_with fail
  generalize hv : aV Ieee.double.div s _ _ = q
  have HQ := Lib.hid (isF_eq hv (isF_div HS.out (isF_int _) _))
  clear hv
  refine (sqrt_any HQ.out _).mono ?_
  rintro e w4 ⟨r, n4, rfl, hr, hw4⟩
  rw [hw4]
  have HR4 := Lib.hid hr
  clear hr hw4
  go_wp2_with fail
  refine (plain_any HR4.out _).mono ?_
  rintro e w5 ⟨r5, rfl, hr, hw5⟩
  rw [hw5]
  have HR5 := Lib.hid hr
  clear hr hw5
  go_wp2_with fail
  go_ret
  exact ⟨r5, rfl, by rw [HZ.out]; exact HR5.out, below_drewN HB4.out _⟩

/-- the sum of the squares of a row's shares -/
def sharesL (l : List Nat) : Fl := sumL (shareL (nums l) (sumL (nums l)))
set_option maxRecDepth 100000 in
set_option maxHeartbeats 2000000 in
theorem Shares_any {l : List Nat} {v : Value} {R : Nat → Prop} {w : World} (h : Fls w R v l) :
    Calls Tryz.prog 26 #[v] w fun e w' => ∃ r, e = .returned (.float .f64 r) ∧ IsF r (if l = [] then none else fzero (sharesL l)) ∧ Below w.heap.size w w' := by
  obtain ⟨A, cap, rfl, hnc, hcap⟩ := h.form
  unfold maxLen at hcap
  obtain ⟨U, hU⟩ : ∃ U, U = w.alloc (.cells #[.slice A l.length cap] 24) := ⟨_, rfl⟩
  have hB : Below w.heap.size w U := by rw [hU]; exact (Below.refl _ _).alloc (Nat.le_refl _) _
  have hR : RowAt U w.heap.size R l := ⟨_, by rw [hU]; exact Blk.new w _ _, h.grow hB⟩
  have hX : Blk U w.heap.size 24 #[.slice A l.length cap] := by rw [hU]; exact Blk.new w _ _
  have HB := Lib.hid hB
  have HR := Lib.hid hR
  have HX := Lib.hid hX
  have HL := Lib.hid (h.grow hB)
  have k0 : U.cell? ⟨w.heap.size, 0, none⟩ = some (.slice A l.length cap) := hX.cell 0
  have HN := Lib.hid (nums_length l)
  obtain ⟨z, hz⟩ : ∃ z, z = if l = [] then none else fzero (sharesL l) := ⟨_, rfl⟩
  rw [← hz]
  have hsU := hB.size
  clear h hB hR hX
  by_cases he : l = []
  · have HZ := Lib.hid (show z = none by rw [hz, if_pos he])
    have d1 : ((l.length : Int) == 0) = true := by rw [he]; rfl
    clear he hz
    go_enter Tryz.func26, Tryz.ntmps26
    go_wp2_with fail
    rw [← hU]
    clear hU
    go_wp2_with fail
    refine (nan_any _).mono ?_
    rintro e w1 ⟨rfl, hw1⟩
    rw [hw1]
    clear hw1
    go_wp2_with fail
    go_ret
    exact ⟨_, rfl, by rw [HZ.out]; exact nan_isF, HB.out⟩
  · have HZ := Lib.hid (show z = fzero (sharesL l) by rw [hz, if_neg he])
    have d1 : ((l.length : Int) == 0) = false := by
      cases l with
      | nil => exact absurd rfl he
      | cons x r => simp; omega
    clear he hz
    go_enter Tryz.func26, Tryz.ntmps26
    go_wp2_with fail
    rw [← hU]
    clear hU
    go_wp2_with fail
    refine (all_any HL.out).mono ?_
    rintro e w2 ⟨m, rfl, hm, hb⟩
    have HM := Lib.hid hm
    have HR2 := Lib.hid (HR.out.grow hb)
    have HX2 := Lib.hid (HX.out.grow hb)
    have HB2 := Lib.hid (HB.out.trans (hb.mono HB.out.size))
    have k1 : w2.cell? ⟨w.heap.size, 0, none⟩ = some (.slice A l.length cap) := HX2.out.cell 0
    have lx := HX2.out.lt
    clear hm hb k0
    go_wp2_with fail
    obtain ⟨U2, hU2⟩ : ∃ U, U = w2.alloc (.cells #[.float .f64 m] 27) := ⟨_, rfl⟩
    have hB2 : Below w2.heap.size w2 U2 := by rw [hU2]; exact (Below.refl _ _).alloc (Nat.le_refl _) _
    have hM2 : NumAt U2 w2.heap.size (sumL (nums l)) := ⟨m, by rw [hU2]; exact Blk.new w2 _ _, HM.out⟩
    rw [← hU2]
    have HB3 := Lib.hid (HB2.out.trans (hB2.mono HB2.out.size))
    have HG := Lib.hid (share_giv (HR2.out.grow hB2) hM2)
    clear hU2 hB2 hM2 k1
    refine (sum_anyN HG.out ((shareL_length _ _).trans HN.out) (by omega) (fun args W => by go_simp)).mono ?_
    rintro e w3 ⟨s, rfl, hs, hb⟩
    have HS := Lib.hid hs
    have HB4 := Lib.hid (HB3.out.trans (hb.mono HB3.out.size))
    clear hs hb
    go_wp2_with fail
    refine (plain_any HS.out _).mono ?_
    rintro e w5 ⟨r5, rfl, hr, hw5⟩
    rw [hw5]
    have HR5 := Lib.hid hr
    clear hr hw5
    go_wp2_with fail
    go_ret
    exact ⟨r5, rfl, by rw [HZ.out]; exact HR5.out, HB4.out⟩
end Go.Proofs.YtidejikolcgojaaGreat.St

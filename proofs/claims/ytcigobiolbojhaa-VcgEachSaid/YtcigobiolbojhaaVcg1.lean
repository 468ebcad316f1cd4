/- vcg.Without; what is lost without a buyer. -/
import Derived.Test.YtcigobiolbojhaaBest
namespace Go.Proofs.Ytcigobiolbojhaa.Vb
open Go.RowKit

theorem checkE_nil {n : Int} (h : 1 ≤ n ∧ n ≤ 10) : checkE n [] = 0 := by
  unfold checkE
  rw [if_neg (by omega), if_neg (by simp)]
  rfl
theorem instE_of {n : Int} {bs : List (List Off)} (h1 : 1 ≤ n) (h2 : n ≤ 10) (h3 : bs.length ≤ 32) (h4 : ∀ l ∈ bs, l.length ≤ 8) (h5 : ∀ l ∈ bs, checkE n l = 0) : instE n bs = 0 := by
  unfold instE
  rw [if_neg (by omega), if_neg, instLoop_none n bs h5]
  rintro (h | h)
  · omega
  · obtain ⟨l, hl, hb⟩ := List.any_eq_true.1 h
    have := h4 l hl
    simp [longB] at hb
    omega
theorem instE_set {n : Int} {bs : List (List Off)} {l : List Off} {i : Nat} (h : instE n bs = 0) (hl : l.length ≤ 8) (hc : checkE n l = 0) : instE n (bs.set i l) = 0 := by
  obtain ⟨h1, h2, h3, h4, h5⟩ := instE_zero h
  refine instE_of h1 h2 (by simpa using h3) (fun x hx => ?_) (fun x hx => ?_)
  · rcases List.mem_or_eq_of_mem_set hx with h | rfl
    · exact h4 x h
    · exact hl
  · rcases List.mem_or_eq_of_mem_set hx with h | rfl
    · exact h5 x h
    · exact hc
theorem instE_nil {n : Int} {bs : List (List Off)} {i : Nat} (h : instE n bs = 0) : instE n (bs.set i []) = 0 :=
  instE_set h (by simp) (checkE_nil ⟨(instE_zero h).1, (instE_zero h).2.1⟩)
theorem withE_nil {n : Int} {bs : List (List Off)} {i : Int} (h : instE n bs = 0) (h0 : 0 ≤ i) (h1 : i < bs.length) : withE n bs i [] = 0 := by
  unfold withE
  rw [if_neg (by simpa using h), if_neg (by omega)]
  exact checkE_nil ⟨(instE_zero h).1, (instE_zero h).2.1⟩
theorem withE_inst {n : Int} {bs : List (List Off)} {i : Int} {l : List Off} (h : withE n bs i l = 0) : instE n bs = 0 := by
  by_cases hi : instE n bs = 0
  · exact hi
  · unfold withE at h; rw [if_pos hi] at h; exact absurd h hi

/-- W without a buyer; 0 beside an error -/
def woW (n : Int) (bs : List (List Off)) (i : Int) : Int := if withE n bs i [] = 0 then W (bs.set i.toNat []) (allOf n) else 0

theorem struct_new {w w1 : World} {c0 c1 : Value} {t : TypeId} (hb : Below (w.heap.size + 1) (w.alloc (.cells #[c0, c1] t)) w1) : w1.cell? ⟨w.heap.size, 0, none⟩ = some c0 ∧ w1.cell? ⟨w.heap.size, 1, none⟩ = some c1 :=
  ⟨(one_new hb).1, (one_new hb).2.1⟩

set_option maxHeartbeats 800000 in
theorem vcgWithout_any (n : Int) (bs : List (List Off)) (buyer : Int) (v : Value) (R : Nat → Prop) (w : World) (hl : Buys w R v bs) :
    Calls Try.prog 24 #[.agg #[.int .i64 n, v], .int .i64 buyer] w fun e w' => e = .returned (.tuple #[.int .i64 (woW n bs buyer), .int .i64 (withE n bs buyer [])]) ∧ Below w.heap.size w w' := by
  obtain ⟨vs, ⟨_, A, cap, rfl, _⟩, _⟩ := id hl
  have HB := Lib.hid hl
  clear hl
  by_cases he : withE n bs buyer [] = 0
  · have hW : woW n bs buyer = W (bs.set buyer.toNat []) (allOf n) := by unfold woW; rw [if_pos he]
    have hI := instE_nil (i := buyer.toNat) (withE_inst he)
    have hbw : bestW n (bs.set buyer.toNat []) = W (bs.set buyer.toNat []) (allOf n) := by unfold bestW; rw [if_pos hI]
    have HW := Lib.hid hW
    have HE := Lib.hid he
    have HI := Lib.hid hI
    have HBW := Lib.hid hbw
    clear hW he hI hbw
    go_enter Try.func24, Try.ntmps24
    go_wp2_with (first
      | (go_at_call 32; refine (without_ok n bs buyer _ R _ (HB.out.alloc _) HE.out).mono ?_; rintro e w1 ⟨A1, cap1, rfl, hob, hb1⟩; have HOB := Lib.hid hob; have HB1 := Lib.hid (hb1.mono (B' := w.heap.size + 1) (by simp)); clear hob hb1)
      | (go_at_call 33; refine (W_any n (bs.set buyer.toNat []) (.slice A1 bs.length cap1) _ _ ((HOB.out.alloc _).buys)).mono ?_; rintro e w2 ⟨rfl, hb2⟩; rw [HBW.out, HI.out]; have HB2 := Lib.hid hb2; clear hb2))
    go_ret2
    refine ⟨by rw [HW.out, HE.out]; rfl, ?_⟩
    have h1 := (one_new HB1.out).2.2.2.2
    exact (h1.alloc h1.size _).trans (HB2.out.mono (by have := h1.size; simp; omega))
  · have hW : woW n bs buyer = 0 := by unfold woW; rw [if_neg he]
    have hcb : (withE n bs buyer [] != 0) = true := by simpa using he
    have HW := Lib.hid hW
    have HE := Lib.hid he
    clear hW he
    go_enter Try.func24, Try.ntmps24
    go_wp2_with (go_at_call 32; refine (without_err n bs buyer _ R _ (HB.out.alloc _) HE.out).mono ?_; rintro e w1 ⟨rfl, hb1⟩; have HB1 := Lib.hid (hb1.mono (B' := w.heap.size + 1) (by simp)); clear hb1)
    go_ret2
    refine ⟨by rw [HW.out]; rfl, ?_⟩
    have h1 := (one_new HB1.out).2.2.2.2
    exact h1.alloc h1.size _

/-- what is known of W without a buyer -/
def KnownL (n : Int) (bs : List (List Off)) (key val : Value) : Prop := ∃ i : Nat, i < bs.length ∧ bs.length ≤ 32 ∧ key = .int .i64 i ∧ val = .int .i64 (woW n bs i)
def buyerKeys : List Value := (List.range 32).map fun i => .int .i64 (i : Nat)
theorem buyerKeys_length : buyerKeys.length < maxLen := by
  have : buyerKeys.length = 32 := by simp [buyerKeys]
  rw [this]
  decide
theorem knownL_in (n : Int) (bs : List (List Off)) : ∀ k v, KnownL n bs k v → k ∈ buyerKeys := by
  rintro key val ⟨i, hi, hl, rfl, _⟩
  exact List.mem_map.2 ⟨i, List.mem_range.2 (by omega), rfl⟩
theorem intKeyed : Maps.Keyed Try.prog 3 := Maps.int_keyed Try.underlying3

structure LostAt (w : World) (B b5 b1 b2 mm : Nat) (n : Int) (v : Value) (bs : List (List Off)) : Prop where
  c5 : w.cell? ⟨b5, 0, none⟩ = some (.map (some mm))
  x0 : w.cell? ⟨b1, 0, none⟩ = some (.int .i64 n)
  x1 : w.cell? ⟨b1, 1, none⟩ = some v
  w1 : w.cell? ⟨b2, 1, none⟩ = some (.int .i64 (W bs (allOf n)))
  buys : Buys w (· < B) v bs
  hB : B ≤ mm
  map : MapG Try.prog 3 2 w mm (KnownL n bs)
  ok : instE n bs = 0
section
variable {w w' : World} {B b5 b1 b2 mm : Nat} {n : Int} {v : Value} {bs : List (List Off)}
theorem LostAt.keep (h : LostAt w B b5 b1 b2 mm n v bs) (hg : w.grownBy w' (some mm)) {p : Addr} {u : Value} (hc : w.cell? p = some u) : w'.cell? p = some u := hg.cell hc (fun e => h.map.not_cells hc (by injection e))
theorem LostAt.grown (h : LostAt w B b5 b1 b2 mm n v bs) (hg : w.grownBy w' (some mm)) (hm : MapG Try.prog 3 2 w' mm (KnownL n bs)) : LostAt w' B b5 b1 b2 mm n v bs :=
  ⟨h.keep hg h.c5, h.keep hg h.x0, h.keep hg h.x1, h.keep hg h.w1, h.buys.grown hg (fun b _ hb e => by injection e with e; have := h.hB; omega), h.hB, hm, h.ok⟩
theorem LostAt.grow (h : LostAt w B b5 b1 b2 mm n v bs) (hb : Below w.heap.size w w') : LostAt w' B b5 b1 b2 mm n v bs := h.grown (grownBy_of_below hb _) (h.map.grow hb)
theorem LostAt.alloc (h : LostAt w B b5 b1 b2 mm n v bs) (o : Obj) : LostAt (w.alloc o) B b5 b1 b2 mm n v bs := h.grow ((Below.refl _ _).alloc (Nat.le_refl _) o)
theorem LostAt.drew (h : LostAt w B b5 b1 b2 mm n v bs) : LostAt w.drew B b5 b1 b2 mm n v bs := ⟨h.c5, h.x0, h.x1, h.w1, h.buys, h.hB, h.map, h.ok⟩
/-- a row beyond all of it is written -/
theorem LostAt.far {row : Option Nat} (h : LostAt w B b5 b1 b2 mm n v bs) (hg : w.grownBy w' row) (hr : ∀ g, row = some g → b5 < g ∧ b1 < g ∧ b2 < g ∧ mm < g) : LostAt w' B b5 b1 b2 mm n v bs :=
  ⟨hg.cell h.c5 (fun e => by have := hr _ e.symm; simp at this), hg.cell h.x0 (fun e => by have := hr _ e.symm; simp at this), hg.cell h.x1 (fun e => by have := hr _ e.symm; simp at this),
    hg.cell h.w1 (fun e => by have := hr _ e.symm; simp at this), h.buys.grown hg (fun b _ hb e => by have := hr b e.symm; have := h.hB; omega), h.hB, h.map.grown hg (fun e => by have := hr mm e.symm; omega), h.ok⟩
end

theorem woW_bd {n : Int} {bs : List (List Off)} (hw : ∀ l ∈ bs, ∀ o ∈ l, o.wf) (h : instE n bs = 0) (i : Int) : 0 ≤ woW n bs i ∧ woW n bs i ≤ 35184372088832 := by
  unfold woW
  split
  · have hok := (okb_of (bs := bs.set i.toNat []) (fun l hl o ho => by
      rcases List.mem_or_eq_of_mem_set hl with h | rfl
      · exact hw l h o ho
      · cases ho) (instE_nil h)).1
    exact ⟨W_nonneg _ _, by simpa using hok.W_le 0 (allOf n)⟩
  · omega

set_option maxHeartbeats 1600000 in
theorem each_any (B b5 b1 b2 mm : Nat) (n : Int) (v : Value) (bs : List (List Off)) (i : Nat) (hi : i < bs.length) (w : World) (h : LostAt w B b5 b1 b2 mm n v bs) :
    Calls Try.prog 118 #[.int .i64 i, .pointer (some ⟨b5, 0, none⟩), .pointer (some ⟨b1, 0, none⟩), .pointer (some ⟨b2, 0, none⟩)] w fun e w' => e = .returned (.int .i64 (W bs (allOf n) - woW n bs i)) ∧ LostAt w' B b5 b1 b2 mm n v bs ∧ w.grownBy w' (some mm) := by
  have hwf := buys_wf h.buys
  have hlen := (instE_zero h.ok).2.2.1
  obtain ⟨hw0, hw1⟩ := woW_bd hwf h.ok i
  have hW0 := W_nonneg bs (allOf n)
  have hW1 : W bs (allOf n) ≤ 35184372088832 := by simpa using (okb_of hwf h.ok).1.W_le 0 (allOf n)
  have hkey := Maps.keyOf_int_mk (P := Try.prog) Try.underlying3 (a := (i : Int)) (WalkArith.wf_i64 (by omega))
  obtain ⟨vs, ⟨_, A, cap, rfl, _⟩, _⟩ := id h.buys
  have H := Lib.hid h
  have HK := Lib.hid hkey
  have hwe := withE_nil (i := (i : Int)) h.ok (by omega) (by omega)
  have HWE := Lib.hid hwe
  have hlook := h.map.look intKeyed Try.underlying181 zero64 hkey true
  obtain ⟨c5, x0, x1, w1, _, _, _, _⟩ := h
  clear hwf hkey hwe
  rcases hlook with hrun | ⟨vv, hrun, hgood⟩
  · have hq := hrun w rfl
    clear hrun
    go_enter Try.func118, Try.ntmps118
    go_wp2_with (go_at_call 24; refine (vcgWithout_any n bs _ _ _ _ H.out.buys).mono ?_; rintro e w2 ⟨rfl, hb2⟩; rw [HWE.out]; have d5 := (H.out.grow hb2).c5; have d1 := (H.out.grow hb2).w1; obtain ⟨w5, hrun5, hm5, hg5⟩ := (H.out.grow hb2).map.store intKeyed Try.underlying181 Try.underlying2 (knownL_in n bs) buyerKeys_length HK.out (c := woW n bs i) (WalkArith.wf_i64 (by omega)) ⟨i, hi, hlen, rfl, rfl⟩; have e1 := (H.out.grow hb2).keep hg5 d1; have HB2 := Lib.hid hb2; have HM5 := Lib.hid hm5; have HG5 := Lib.hid hg5; clear hb2 hm5 hg5)
    go_ret
    exact ⟨by simp, (H.out.grow HB2.out).grown HG5.out HM5.out, (grownBy_of_below HB2.out _).trans HG5.out⟩
  · obtain ⟨i', _, _, hkk, rfl⟩ := hgood
    have hii : i' = i := by simp at hkk; omega
    subst hii
    have hq := hrun w rfl
    clear hrun hkk
    go_enter Try.func118, Try.ntmps118
    go_wp2
    go_ret
    exact ⟨by simp, H.out, grownBy_of_below (Below.refl _ _) _⟩
end Go.Proofs.Ytcigobiolbojhaa.Vb

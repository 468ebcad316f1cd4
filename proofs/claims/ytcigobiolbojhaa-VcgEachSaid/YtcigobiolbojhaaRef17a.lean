/- The reference of layer 17: W, Without, Won. -/
import Derived.Test.YtcigobiolbojhaaTab
namespace Go.Proofs.Ytcigobiolbojhaa.Vb
open Go.RowKit

theorem Buys.wf {w : World} {R : Nat → Prop} {v : Value} {bs : List (List Off)} (h : Buys w R v bs) : ∀ l ∈ bs, ∀ o ∈ l, o.wf := by
  obtain ⟨vs, _, hvs⟩ := h
  intro l hl o ho
  obtain ⟨k, hk, rfl⟩ := List.getElem_of_mem hl
  obtain ⟨_, _, h⟩ := hvs k _ (List.getElem?_eq_getElem hk)
  exact h.2 o ho

theorem allOf_nat {m : Nat} (h : m ≤ 10) : allOf (m : Int) = 2 ^ m - 1 := by unfold allOf; rw [if_neg (by omega), Int.toNat_natCast]

set_option maxHeartbeats 800000 in
theorem refW_any (n : Int) (bs : List (List Off)) (v : Value) (R : Nat → Prop) (w : World) (hl : Buys w R v bs) (hi : instE n bs = 0) :
    Calls Try.prog 81 #[.agg #[.int .i64 n, v]] w fun e w' => e = .returned (.int .i64 (W bs (allOf n))) ∧ Below w.heap.size w w' := by
  have hok := (okb_of hl.wf hi).1
  obtain ⟨hn1, hn2, _⟩ := instE_zero hi
  obtain ⟨m, rfl⟩ := Int.eq_ofNat_of_zero_le (show 0 ≤ n by omega)
  have hm0 : 1 ≤ m := by omega
  have hm1 : m ≤ 10 := by omega
  obtain ⟨S, hS⟩ : ∃ S, S = 2 ^ m := ⟨_, rfl⟩
  have hS1 : S ≤ 1024 := by rw [hS]; exact Nat.le_trans (Nat.pow_le_pow_right (by omega) hm1) (by decide)
  have hS0 : 0 < S := by rw [hS]; exact Nat.two_pow_pos m
  have hal : allOf (m : Int) = S - 1 := by rw [allOf_nat hm1, hS]
  obtain ⟨vs, ⟨_, A, cap, rfl, _⟩, _⟩ := id hl
  have HB := Lib.hid hl
  have HAL := Lib.hid hal
  have HS := Lib.hid hS
  have HOK := Lib.hid hok
  clear hl hi hal hS hok
  have c0 : (w.alloc (.cells #[.int .i64 m, .slice A bs.length cap] 24)).cell? ⟨w.heap.size, 0, none⟩ = some (.int .i64 m) := by simp
  have c1 : (w.alloc (.cells #[.int .i64 m, .slice A bs.length cap] 24)).cell? ⟨w.heap.size, 1, none⟩ = some (.slice A bs.length cap) := by simp
  go_enter Try.func81, Try.ntmps81
  go_wp2_with (go_at_call 116; refine (table_any m S hm0 hm1 HS.out bs _ R _ (HB.out.alloc _) HOK.out).mono ?_; rintro e w1 ⟨gT, hi, F, rfl, hT, hg, hb1⟩; obtain ⟨g, hg2, p0, ps⟩ := hT.at (k := 0) (Nat.zero_le _) (Nat.zero_le _); have p1 := ps (S - 1) (by omega); have HB1 := Lib.hid hb1; clear hT hb1 ps)
  have hsub : IntKind.i64.wrap ((S : Int) - 1) = (S : Int) - 1 := IntWalk.i64_in _ (by omega)
  have hidx : ((S : Int) - 1).toNat = S - 1 := by omega
  go_wp2_with fail
  go_quiet (fail)
  go_wp2_with fail
  go_ret
  exact ⟨by rw [HAL.out]; rfl, below_drewN (((Below.refl _ _).alloc (Nat.le_refl _) _).trans (HB1.out.mono (by simp))) _⟩

set_option maxHeartbeats 800000 in
theorem refWithout_any (n : Int) (bs : List (List Off)) (buyer : Int) (v : Value) (R : Nat → Prop) (w : World) (hl : Buys w R v bs) :
    Calls Try.prog 25 #[.agg #[.int .i64 n, v], .int .i64 buyer] w fun e w' => e = .returned (.tuple #[.int .i64 (woW n bs buyer), .int .i64 (withE n bs buyer [])]) ∧ Below w.heap.size w w' := by
  obtain ⟨vs, ⟨_, A, cap, rfl, _⟩, _⟩ := id hl
  have HB := Lib.hid hl
  clear hl
  by_cases he : withE n bs buyer [] = 0
  · have hW : woW n bs buyer = W (bs.set buyer.toNat []) (allOf n) := by unfold woW; rw [if_pos he]
    have hI := instE_nil (i := buyer.toNat) (withE_inst he)
    have HW := Lib.hid hW
    have HE := Lib.hid he
    have HI := Lib.hid hI
    clear hW he hI
    go_enter Try.func25, Try.ntmps25
    go_wp2_with (first
      | (go_at_call 85; refine (refWith_ok n bs buyer [] _ _ R (fun _ => True) _ (HB.out.alloc _) (Offs.nil _ _) HE.out).mono ?_; rintro e w1 ⟨A1, cap1, rfl, hob, hb1⟩; have HOB := Lib.hid hob; have HB1 := Lib.hid (hb1.mono (B' := w.heap.size + 1) (by simp)); clear hob hb1)
      | (go_at_call 81; refine (refW_any n (bs.set buyer.toNat []) (.slice A1 bs.length cap1) _ _ (HOB.out.alloc _) HI.out).mono ?_; rintro e w2 ⟨rfl, hb2⟩; have HB2 := Lib.hid hb2; clear hb2))
    go_ret2
    refine ⟨by rw [HW.out, HE.out]; rfl, ?_⟩
    have h1 := (one_new HB1.out).2.2.2.2
    exact (h1.alloc h1.size _).trans (HB2.out.mono (by have := h1.size; simp; omega))
  · have hW : woW n bs buyer = 0 := by unfold woW; rw [if_neg he]
    have hcb : (withE n bs buyer [] != 0) = true := by simpa using he
    have HW := Lib.hid hW
    have HE := Lib.hid he
    clear hW he
    go_enter Try.func25, Try.ntmps25
    go_wp2_with (go_at_call 85; refine (refWith_err n bs buyer [] _ _ R (fun _ => True) _ (HB.out.alloc _) (Offs.nil _ _) HE.out).mono ?_; rintro e w1 ⟨rfl, hb1⟩; have HB1 := Lib.hid (hb1.mono (B' := w.heap.size + 1) (by simp)); clear hb1)
    go_ret2
    refine ⟨by rw [HW.out]; rfl, ?_⟩
    have h1 := (one_new HB1.out).2.2.2.2
    exact h1.alloc h1.size _

theorem coinAt_neg {bs : List (List Off)} {i : Nat} {c : Int} (h : c < 0) : coinAt bs i c = 0 := by unfold coinAt; rw [if_pos h]
theorem coinAt_some {bs : List (List Off)} {i j : Nat} {l : List Off} {o : Off} (h1 : bs[i]? = some l) (h2 : l[j]? = some o) : coinAt bs i (j : Int) = o.c := by
  unfold coinAt
  rw [if_neg (by omega), h1]
  simp [h2]

set_option maxHeartbeats 800000 in
theorem refWon_any (n : Int) (bs : List (List Off)) (cs : List Int) (v vc : Value) (R Rc : Nat → Prop) (k : Nat) (c : Int) (kI : Int) (w : World) (hl : Buys w R v bs) (hcs : Sl w Rc vc cs.length 1 (ints cs))
    (hk : cs[k]? = some c) (hkI : kI = k) (hgood : c = -1 ∨ ∃ (j : Nat) (l : List Off) (o : Off), c = (j : Int) ∧ bs[k]? = some l ∧ l[j]? = some o) :
    Calls Try.prog 82 #[.agg #[.int .i64 n, v], vc, .int .i64 kI] w fun e w' => e = .returned (.int .i64 (coinAt bs k c)) ∧ Below w.heap.size w w' := by
  subst hkI
  obtain ⟨vs, ⟨hlen, A, cap, rfl, hncap, hcap, hcells⟩, hvs⟩ := id hl
  obtain ⟨_, Ac, capc, rfl, hncapc, hcapc, hcellsc⟩ := hcs
  unfold maxLen at hcap hcapc
  have hkl : k < cs.length := (List.getElem?_eq_some_iff.1 hk).1
  have hcc : (ints cs)[k]? = some (.int .i64 c) := by simp [ints, hk]
  obtain ⟨bc, offc, rfl, _, hbc, hcs1⟩ := hcellsc (by omega)
  have c0 := cellAlloc (hcs1 _ _ hcc)
  clear hcs1 hcc hl hlen
  rcases hgood with rfl | ⟨j, l, o, rfl, h1, h2⟩
  · have hz := coinAt_neg (bs := bs) (i := k) (c := -1) (by decide)
    have HZ := Lib.hid hz
    clear hz hcells hvs hk
    go_enter Try.func82, Try.ntmps82
    go_wp2_with fail
    go_ret
    exact ⟨by rw [HZ.out]; rfl, (Below.refl _ _).alloc (Nat.le_refl _) _⟩
  · have hkb : k < bs.length := (List.getElem?_eq_some_iff.1 h1).1
    have hjl : j < l.length := (List.getElem?_eq_some_iff.1 h2).1
    have hz := coinAt_some h1 h2
    obtain ⟨bb, off, rfl, _, hbb, hcs2⟩ := hcells (by omega)
    obtain ⟨u, hu, hol⟩ := hvs k l h1
    have c1 := cellAlloc (hcs2 _ _ hu)
    obtain ⟨⟨_, A1, cap1, rfl, hnc1, hcap1, hcs3⟩, _⟩ := hol
    unfold maxLen at hcap1
    obtain ⟨b1, off1, rfl, _, hb1, hcs3⟩ := hcs3 (by omega)
    have c2 : ∀ O : Obj, (w.alloc O).cell? ⟨b1, off1 + j * 2 + 1, none⟩ = some (.int .i64 o.c) := cellAlloc (hcs3 _ _ (Off.all_snd l j o h2))
    have hj0 : (0 : Int) ≤ (j : Int) := by omega
    have HZ := Lib.hid hz
    clear hz hcs2 hcs3 hcells hvs hk h1 h2 hu
    go_enter Try.func82, Try.ntmps82
    go_wp2_with fail
    go_quiet (fail)
    go_wp2_with fail
    go_ret
    exact ⟨by rw [HZ.out]; rfl, below_drewN ((Below.refl _ _).alloc (Nat.le_refl _) _) _⟩
end Go.Proofs.Ytcigobiolbojhaa.Vb

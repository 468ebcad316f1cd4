/- clear: of, whole, may, From, W. -/
import Derived.Test.YtcigobiolbojhaaBw
namespace Go.Proofs.Ytcigobiolbojhaa.Vb
open Go.RowKit

theorem buys_lt {w : World} {R : Nat → Prop} {v : Value} {bs : List (List Off)} (h : Buys w R v bs) {B : Nat} (hB : w.heap.size ≤ B) : Buys w (· < B) v bs :=
  h.mono fun b hlt _ => by omega
theorem buys_wf {w : World} {R : Nat → Prop} {v : Value} {bs : List (List Off)} (h : Buys w R v bs) : ∀ l ∈ bs, ∀ o ∈ l, o.wf := by
  obtain ⟨vs, hs, ho⟩ := h
  intro l hl
  obtain ⟨k, hk⟩ := List.getElem?_of_mem hl
  obtain ⟨u, _, hu⟩ := ho k l hk
  exact hu.2

set_option maxHeartbeats 400000 in
theorem of_any (n : Int) (bs : List (List Off)) (v : Value) (R : Nat → Prop) (w : World) (hl : Buys w R v bs) (hok : Okb bs) :
    Calls Try.prog 121 #[.agg #[.int .i64 n, v]] w fun e w' => ∃ bb m, e = .returned (.pointer (some ⟨bb, 0, none⟩)) ∧ BoardAt w' w.heap.size bb m n v bs ∧ w.heap.size ≤ m ∧ Below w.heap.size w w' := by
  obtain ⟨vs, ⟨_, A, cap, rfl, _⟩, _⟩ := id hl
  have HB := Lib.hid hl
  clear hl
  have hmm := @run_makeMap Try.prog
  go_enter Try.func121, Try.ntmps121
  go_wp2
  go_ret
  refine ⟨w.heap.size + 1 + 1, w.heap.size + 1, by simp, ?_, by omega, (((Below.refl _ _).alloc (Nat.le_refl _) _).alloc (by simp) _).alloc (by simp; omega) _⟩
  have hm : MapG Try.prog 218 2 ((w.alloc (.cells #[.int .i64 n, .slice A bs.length cap] 24)).alloc (.map #[] 0)) (w.heap.size + 1) (Known bs) := by
    simpa using MapG.made (P := Try.prog) (kt := 218) (et := 2) (Good := Known bs) (w.alloc (.cells #[.int .i64 n, .slice A bs.length cap] 24))
  refine ⟨?_, ?_, ?_, ?_, by omega, hm.alloc _, hok⟩
  · go_simp
  · go_simp
  · go_simp
  · exact ((buys_lt HB.out (Nat.le_refl _)).grow ((((Below.refl _ _).alloc (Nat.le_refl _) _).alloc (by simp) _).alloc (by simp; omega) _))

set_option maxHeartbeats 400000 in
theorem whole_any (n : Int) (A : Option Addr) (k c : Nat) (w : World) :
    Calls Try.prog 88 #[.agg #[.int .i64 n, .slice A k c]] w fun e w' => e = .returned (.int .u32 (allOf n : Nat)) ∧ Below w.heap.size w w' := by
  go_enter Try.func88, Try.ntmps88
  go_wp2_with (go_at_call 123; refine (all_any n _).mono ?_; rintro e w' ⟨rfl, rfl⟩)
  go_ret
  exact ⟨rfl, (Below.refl _ _).alloc (Nat.le_refl _) _⟩

/-- behind one new block -/
theorem one_new {w w1 : World} {c0 c1 : Value} {t : TypeId} (hb : Below (w.heap.size + 1) (w.alloc (.cells #[c0, c1] t)) w1) :
    w1.cell? ⟨w.heap.size, 0, none⟩ = some c0 ∧ w1.cell? ⟨w.heap.size, 1, none⟩ = some c1 ∧ (∀ i, w1.frozen? ⟨w.heap.size, i, none⟩ = false) ∧ w.heap.size + 1 ≤ w1.heap.size ∧ Below w.heap.size w w1 := by
  have hs := hb.size
  simp at hs
  exact ⟨(hb.cell (p := ⟨w.heap.size, 0, none⟩) (by simp)).trans (by simp), (hb.cell (p := ⟨w.heap.size, 1, none⟩) (by simp)).trans (by simp),
    fun i => (hb.frozen (p := ⟨w.heap.size, i, none⟩) (by simp)).trans (by simp), hs, ((Below.refl _ _).alloc (Nat.le_refl _) _).trans (hb.mono (by omega))⟩

theorem andNot_self (a : Nat) (h : a < 4294967296) : andNot a a = 0 := by
  unfold andNot
  apply Nat.eq_of_testBit_eq
  intro i
  rw [Nat.testBit_and, Nat.zero_testBit]
  by_cases hi : i < 32
  · have e : 4294967295 - a = 2 ^ 32 - (a + 1) := by omega
    rw [e, Nat.testBit_two_pow_sub_succ (by omega)]
    cases a.testBit i <;> simp
  · have : a.testBit i = false := Nat.testBit_lt_two_pow (Nat.lt_of_lt_of_le h (by
      have : 2 ^ 32 ≤ 2 ^ i := Nat.pow_le_pow_right (by omega) (by omega)
      simpa using this))
    rw [this]
    rfl

/-- clear.may of the whole instance from the first buyer on: Instance's error. -/
theorem may_any (n : Int) (bs : List (List Off)) (v : Value) (R : Nat → Prop) (w : World) (hl : Buys w R v bs) :
    Calls Try.prog 120 #[.agg #[.int .i64 n, v], .int .i64 0, .int .u32 (allOf n : Nat)] w fun e w' => e = .returned (.int .i64 (instE n bs)) ∧ Below w.heap.size w w' := by
  obtain ⟨vs, ⟨_, A, cap, rfl, _⟩, _⟩ := id hl
  have HB := Lib.hid hl
  clear hl
  have hself := andNot_self (allOf n) (allOf_lt n)
  have hlt := allOf_lt n
  by_cases hi : instE n bs = 0
  · have HI := Lib.hid hi
    have HSF := Lib.hid hself
    clear hi hself
    have hge : ¬ ((bs.length : Int) < 0) := by omega
    go_enter Try.func120, Try.ntmps120
    go_wp2_with (first
      | (go_at_call 124; refine (instance_any n bs _ R _ (HB.out.alloc _)).mono ?_; rintro e w1 ⟨rfl, hb1⟩; rw [HI.out]; have hb1a := hb1.mono (B' := w.heap.size + 1) (by simp); obtain ⟨c0, c1, fz, hs1, hbw⟩ := one_new hb1a; have HBW := Lib.hid hbw; clear hbw hb1 hb1a)
      | (go_at_call 88; refine (whole_any n _ _ _ _).mono ?_; rintro e w2 ⟨rfl, hb2⟩; have HB2 := Lib.hid hb2; clear hb2)
      | (go_at_call 135; refine (within_any _ _ hlt hlt _).mono ?_; rintro e w3 ⟨rfl, rfl⟩; rw [HSF.out]))
    go_ret
    exact ⟨by rw [HI.out]; rfl, HBW.out.trans (HB2.out.mono HBW.out.size)⟩
  · have hcb : (instE n bs != 0) = true := by simpa using hi
    clear hself
    have HI := Lib.hid hi
    clear hi
    go_enter Try.func120, Try.ntmps120
    go_wp2_with (go_at_call 124; refine (instance_any n bs _ R _ (HB.out.alloc _)).mono ?_; rintro e w1 ⟨rfl, hb1⟩; have hb1a := hb1.mono (B' := w.heap.size + 1) (by simp); obtain ⟨c0, c1, fz, hs1, hbw⟩ := one_new hb1a; have HBW := Lib.hid hbw; clear hbw hb1 hb1a)
    go_ret
    exact ⟨rfl, HBW.out⟩
end Go.Proofs.Ytcigobiolbojhaa.Vb

/- vcg.Each: what it tells (the going over itself apart). -/
import Derived.Test.YtcigobiolbojhaaLaw1
namespace Go.Proofs.Ytcigobiolbojhaa.Vb
open Go.RowKit

theorem ints_one (cs : List Int) : ∀ u ∈ ints cs, u.oneCell' = true := by
  intro u hu
  simp [ints] at hu
  obtain ⟨x, _, rfl⟩ := hu
  rfl

set_option maxHeartbeats 400000 in
theorem clone_i64 (xs : List Value) (n : Nat) (v : Value) (R : Nat → Prop) (w : World) (hl : Sl w R v n 1 xs) (h1 : ∀ u ∈ xs, u.oneCell' = true) (hb : n * 8 ≤ 140737488355328) :
    Calls Try.prog 78 #[v] w fun e w' => ∃ A' cap', e = .returned (.slice A' n cap') ∧ w'.ownsRow w.heap.size 2 1 (.slice A' n cap') n xs ∧ Below w.heap.size w w' := by
  obtain ⟨hlen, A, cap, rfl, hncap, hcap, hcells⟩ := id hl
  have HS := Lib.hid hl
  clear hl hcells
  have hq := fun (W : World) (a : Option Addr) => Lib.run_eql_slice_nil (P := Try.prog) W 34 2 a n cap 0 0 Try.underlying34
  cases A with
  | none =>
    have hn : n = 0 := by
      obtain ⟨_, A, c, h, _, _, hc⟩ := HS.out
      injection h with hA _ _
      subst hA
      rcases Nat.eq_zero_or_pos n with h0 | h0
      · exact h0
      · obtain ⟨b, off, h, _⟩ := hc h0
        cases h
    subst hn
    have hx : xs = [] := List.eq_nil_of_length_eq_zero (by simpa using hlen)
    subst hx
    go_enter Try.func78, Try.ntmps78
    go_wp2
    go_ret
    exact ⟨none, 0, rfl, World.ownsRow_nil _ _ _ _, Below.refl _ _⟩
  | some ad =>
    clear hlen
    go_enter Try.func78, Try.ntmps78
    go_wp2_with (at_builtin; refine wpList_app _ rfl (.tmp 5) (.tmp 6) et_i64 rfl w.heap.size (.slice (some ⟨w.heap.size, 0, none⟩) 0 0) 0 [] rfl (World.ownsRow_lit w #[] 0 (Nat.le_refl _) (Nat.zero_le _) rfl) R _ n xs rfl (HS.out.alloc _) h1 (by omega) (by unfold maxLen; omega) (by simp) ?_; intro A' cap' w1 hown hg hloc)
    go_ret
    refine ⟨A', cap', by simp, by simpa using hown, ((Below.refl _ _).alloc (Nat.le_refl _) _).grown hg (by simp) (by simp [Value.ownBlock])⟩

set_option maxHeartbeats 800000 in
theorem each_err (n : Int) (bs : List (List Off)) (v : Value) (R : Nat → Prop) (w : World) (hl : Buys w R v bs) (hs : Small bs) (hi : instE n bs ≠ 0) :
    Calls Try.prog 16 #[.agg #[.int .i64 n, v]] w fun e w' => e = .returned (.tuple #[.nilFunc, .int .i64 (instE n bs)]) ∧ Below w.heap.size w w' := by
  obtain ⟨vs, ⟨_, A, cap, rfl, _⟩, _⟩ := id hl
  have HB := Lib.hid hl
  have HS := Lib.hid hs
  have hcb : (instE n bs != 0) = true := by simpa using hi
  have HI := Lib.hid hi
  clear hl hi hs
  go_enter Try.func16, Try.ntmps16
  go_wp2_with (first
    | (go_at_call 77; refine (copy_any n bs _ R _ (HB.out.alloc _) HS.out).mono ?_; rintro e w1 ⟨A1, c1, rfl, hob, hb1⟩; have hs1 := hb1.size; have HB1 := Lib.hid (((Below.refl _ _).alloc (Nat.le_refl _) _).trans (hb1.mono (B' := w.heap.size) (by simp))); have HOB := Lib.hid hob; clear hb1 hob)
    | (go_at_call 21; refine (costs_err n bs _ _ _ HOB.out.buys HI.out).mono ?_; rintro e w2 ⟨rfl, hb2⟩; have HB2 := Lib.hid (HB1.out.trans (hb2.mono HB1.out.size)); clear hb2))
  go_ret2
  exact ⟨rfl, HB2.out.alloc HB2.out.size _⟩

/-- where the iterator's two variables lie, and what they hold -/
structure EachAt (w : World) (lo pb pp : Nat) (n : Int) (bs : List (List Off)) : Prop where
  at_ : ∃ A1 c1 A2 c2 A3 c3, Blk w pb 36 #[.slice A1 bs.length c1, .int .i64 (W bs (allOf n)), .slice A2 bs.length c2] ∧ Blk w pp 34 #[.slice A3 bs.length c3] ∧
    w.ownsRow lo 3 1 (.slice A1 bs.length c1) bs.length (ints (bestC n bs)) ∧ w.ownsRow lo 2 1 (.slice A3 bs.length c3) bs.length (ints (paysC n bs))

theorem EachAt.grow {w w' : World} {lo pb pp : Nat} {n : Int} {bs : List (List Off)} (h : EachAt w lo pb pp n bs) (hb : Below w.heap.size w w') : EachAt w' lo pb pp n bs := by
  obtain ⟨A1, c1, A2, c2, A3, c3, h1, h2, h3, h4⟩ := h.at_
  exact ⟨A1, c1, A2, c2, A3, c3, h1.grow hb, h2.grow hb, own_grow h3 hb, own_grow h4 hb⟩

set_option maxHeartbeats 800000 in
theorem each_ok (n : Int) (bs : List (List Off)) (v : Value) (R : Nat → Prop) (w : World) (hl : Buys w R v bs) (hi : instE n bs = 0) :
    Calls Try.prog 16 #[.agg #[.int .i64 n, v]] w fun e w' => ∃ pb pp, e = .returned (.tuple #[.func (.func 79) #[] #[.pointer (some ⟨pb, 0, none⟩), .pointer (some ⟨pp, 0, none⟩)], .int .i64 0]) ∧
      EachAt w' w.heap.size pb pp n bs ∧ w.heap.size ≤ pb ∧ w.heap.size ≤ pp ∧ Below w.heap.size w w' := by
  obtain ⟨vs, ⟨_, A, cap, rfl, _⟩, _⟩ := id hl
  have HB := Lib.hid hl
  have HS := Lib.hid (instE_small hi)
  have hl32 := (instE_zero hi).2.2.1
  have HI := Lib.hid hi
  clear hl hi
  go_enter Try.func16, Try.ntmps16
  go_wp2_with (first
    | (go_at_call 77; refine (copy_any n bs _ R _ (HB.out.alloc _) HS.out).mono ?_; rintro e w1 ⟨A1, c1, rfl, hob, hb1⟩; have hs1 := hb1.size; simp at hs1; have HB1 := Lib.hid (((Below.refl _ _).alloc (Nat.le_refl _) _).trans (hb1.mono (B' := w.heap.size) (by simp))); have HOB := Lib.hid hob; clear hb1 hob)
    | (go_at_call 21; refine (costs_ok n bs _ _ _ HOB.out.buys HI.out).mono ?_; rintro e w2 ⟨AC, cC, AP, cP, rfl, hownC, hownP, hb2⟩; have hs2 := hb2.size; have HB2 := Lib.hid (HB1.out.trans (hb2.mono HB1.out.size)); have HC2 := Lib.hid hownC; have HP2 := Lib.hid hownP; clear hb2 hownC hownP)
    | (go_at_call 78; refine (clone_i64 (ints (paysC n bs)) bs.length _ _ _ ((Sl.of_own HP2.out).alloc _) (ints_one _) (by omega)).mono ?_; rintro e w3 ⟨A3, c3, rfl, hown3, hb3⟩; have HB3 := Lib.hid hb3; have HO3 := Lib.hid hown3; clear hb3 hown3))
  go_ret2
  have h3 := HB3.out.size
  simp at h3
  refine ⟨_, _, rfl, ⟨AC, cC, AP, cP, A3, c3, ((Blk.new w2 _ _).grow HB3.out).alloc _, Blk.new w3 _ _, ?_, ?_⟩, by omega, by omega, ?_⟩
  · exact own_mono (own_alloc (own_grow (own_alloc HC2.out _) HB3.out) _) (by omega)
  · exact own_mono (own_alloc HO3.out _) (by simp; omega)
  · exact ((HB2.out.alloc HB2.out.size _).trans (HB3.out.mono (by simp; omega))).alloc (by omega) _
end Go.Proofs.Ytcigobiolbojhaa.Vb

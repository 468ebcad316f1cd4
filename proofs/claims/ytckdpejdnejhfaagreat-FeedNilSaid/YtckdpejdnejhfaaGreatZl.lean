/- Joined by program: HrC HrD HrE. -/
import Derived.Test.YtckdpejdnejhfaaGreatZk
/- House: put, done. -/
set_option linter.all false
namespace Go.Proofs.YtckdpejdnejhfaaGreat.Ho
open Go.RowKit
open Go.Proofs.YtckdpejdnejhfaaGreat.Vb Go.Proofs.YtckdpejdnejhfaaGreat.Ac

theorem ptrs_snoc (f : Nat → Nat) (n : Nat) : ptrs f (n + 1) = ptrs f n ++ [.pointer (some ⟨f n, 0, none⟩)] := by simp [ptrs, List.range_succ]
theorem ptrs_congr {f g : Nat → Nat} {n : Nat} (h : ∀ i, i < n → f i = g i) : ptrs f n = ptrs g n := by
  unfold ptrs
  refine List.map_congr_left fun i hi => ?_
  rw [h i (List.mem_range.1 hi)]
end Go.Proofs.YtckdpejdnejhfaaGreat.Ho

/- House: none; New. -/
namespace Go.Proofs.YtckdpejdnejhfaaGreat.Ho
open Go.RowKit
open Go.Proofs.YtckdpejdnejhfaaGreat.Vb Go.Proofs.YtckdpejdnejhfaaGreat.Ac

theorem hnone_any {W : World} {T : Nat → Part} {h K : Nat} {H : House} (hH : HouseIn W T h K H) : Calls Tryz.prog 61 #[.pointer (some ⟨h, 0, none⟩)] W fun e W' => e = .returned (.bool false) ∧ W' = W := by
  obtain ⟨pn, pc, va, vl, vb, vs, hH⟩ := hH
  have c3 := hH.cells.2.2.2.1
  clear hH
  go_enter Tryz.func61, Tryz.ntmps61
  go_wp2_with fail
  go_ret
  exact ⟨rfl, rfl⟩
def emptyH : House := ⟨[], [], [], 0, [], [], fun _ => none⟩
set_option maxRecDepth 100000 in
theorem hnew_any (W : World) : Calls Tryz.prog 5 #[] W fun e W' => ∃ h T, e = .returned (.pointer (some ⟨h, 0, none⟩)) ∧ HouseIn W' T h 0 emptyH ∧ Below W.heap.size W W' ∧ ∀ b, b < W.heap.size → T b = .no := by
  go_enter Tryz.func5, Tryz.ntmps5
  go_wp2_with fail
  refine (nnew_any (by decide) (by decide) _).mono ?_
  rintro e W1 ⟨pn, rfl, hn, hb1⟩
  have HN := Lib.hid hn
  have HB1 := Lib.hid hb1
  clear hn hb1
  go_wp2_with fail
  refine (tnew_any _).mono ?_
  rintro e W2 ⟨pc, rfl, hc, hb2⟩
  have HC := Lib.hid hc
  have HB2 := Lib.hid hb2
  clear hc hb2
  go_wp2_with fail
  go_ret
  have hs1 := HB1.out.size
  have hs2 := HB2.out.size
  obtain ⟨W3, hW3⟩ : ∃ W3, W3 = W2.alloc (.cells #[.pointer (some ⟨pn, 0, none⟩), .slice none 0 0, .slice none 0 0, .pointer (some ⟨pc, 0, none⟩), .slice none 0 0, .slice none 0 0] 83) := ⟨_, rfl⟩
  have hs3 : W3.heap.size = W2.heap.size + 1 := by rw [hW3]; simp
  have hb3 : Below W2.heap.size W2 W3 := by rw [hW3]; exact (Below.refl _ _).alloc (Nat.le_refl _) _
  have hx : Blk W3 W2.heap.size 83 #[.pointer (some ⟨pn, 0, none⟩), .slice none 0 0, .slice none 0 0, .pointer (some ⟨pc, 0, none⟩), .slice none 0 0, .slice none 0 0] := by rw [hW3]; exact Blk.new _ _ _
  rw [← hW3]
  obtain ⟨T, hT⟩ : ∃ T : Nat → Part, T = fun b => if b < W.heap.size then .no else if b < W1.heap.size then .names else if b < W2.heap.size then .cal else if b < W3.heap.size then .hs else .no := ⟨_, rfl⟩
  refine ⟨W2.heap.size, T, rfl, ⟨pn, pc, .slice none 0 0, .slice none 0 0, .slice none 0 0, .slice none 0 0, ?_, hx, ?_, ⟨fun _ => 0, fun _ => 0, RowAt.nil, fun i a h => by simp [emptyH] at h⟩, ⟨fun _ => 0, RowAt.nil, fun i a h => by simp [emptyH] at h⟩, ?_, ⟨fun _ => .slice none 0 0, RowAt.nil, fun i a h => by simp [emptyH] at h⟩, RowAt.nil, fun b hb => ?_⟩, HB1.out.trans ((HB2.out.mono hs1).trans (hb3.mono (by omega))), fun b hb => ?_⟩
  · rw [hT]; simp [show ¬ W2.heap.size < W.heap.size by omega, show ¬ W2.heap.size < W1.heap.size by omega, hs3]
  · refine ((HN.out.mono (R' := fun b => W.heap.size ≤ b ∧ b < W1.heap.size) fun b hb hr => ⟨hr, hb⟩).grow (HB2.out.trans (hb3.mono hs2))).mono fun b _ hr => ?_
    rw [hT]; simp [show ¬ b < W.heap.size by omega, hr.2]
  · have h1 : CalAt W2 (fun b => W1.heap.size ≤ b ∧ b < W2.heap.size) pc 0 (fun _ => none) := HC.out.mono fun b hb hr => ⟨hr, hb⟩
    have h2 := (h1.grow hb3).mono (R' := fun b => T b = .cal) fun b _ hr => by
      rw [hT]; simp [show ¬ b < W.heap.size by omega, show ¬ b < W1.heap.size by omega, hr.2]
    exact h2
  · rw [hT]; simp [show ¬ b < W.heap.size by omega, show ¬ b < W1.heap.size by omega, show ¬ b < W2.heap.size by omega, show ¬ b < W3.heap.size by omega]
  · rw [hT]; simp [hb]
theorem strz (s : ByteArray) (w : World) : (binOp .eql 9 (.string s) (.string { data := #[] })).run Tryz.prog w = .ok (.bool (decide (s.size = 0))) w := by
  go_simp
  rw [ByteArray.toList_eq]
  obtain ⟨⟨x⟩⟩ := s
  cases x with
  | nil => exact (decide_eq_true (rfl : ({ data := { toList := [] } } : ByteArray) = ByteArray.empty)).symm
  | cons a l =>
    refine (decide_eq_false fun h => ?_).symm
    have h2 := congrArg (fun b : ByteArray => b.data.toList.length) h
    exact Nat.succ_ne_zero _ h2
end Go.Proofs.YtckdpejdnejhfaaGreat.Ho

/- House: spare. -/
namespace Go.Proofs.YtckdpejdnejhfaaGreat.Ho
open Go.RowKit
open Go.Proofs.YtckdpejdnejhfaaGreat.Vb Go.Proofs.YtckdpejdnejhfaaGreat.Ac

def zeroLot : LotR := ⟨0, 0, 0, 0, 0, 0, 0, 0, 0, 0, 0⟩
theorem isE (s : ByteArray) : s.toList.isEmpty = decide (s.size = 0) := by
  rw [ByteArray.toList_eq]
  obtain ⟨⟨x⟩⟩ := s
  cases x <;> simp [ByteArray.size]
/-- are the fields zero that a kind does not name -/
def spareB (o : OrderR) : Bool :=
  let n := decide (o.name.size = 0); let c := (o.coins == 0); let b := (o.bidder == 0); let l := (o.lot == 0); let p := decide (o.put = zeroLot); let f := ((o.offers.length : Int) == 0); let t := (o.tick == 0)
  if o.kind = 1 then b && l && p && f && t else if o.kind = 2 then n && l && p && f && t else if o.kind = 3 then n && c && b && l && f && t else if o.kind = 4 then n && c && p && t else if o.kind = 5 then n && c && p && f && t else if o.kind = 6 then n && c && b && l && p && f else false

set_option maxRecDepth 100000 in
set_option maxHeartbeats 4000000 in
theorem spare_1 (o : OrderR) (A : Option Addr) (c : Nat) (hk : o.kind = 1) (W : World) : Calls Tryz.prog 93 #[o.agg (.slice A o.offers.length c)] W fun e W' => e = .returned (.bool ((o.bidder == 0) && (o.lot == 0) && decide (o.put = zeroLot) && ((o.offers.length : Int) == 0) && (o.tick == 0))) ∧ Below W.heap.size W W' := by
  obtain ⟨z, hz⟩ : ∃ z, z = ((o.bidder == 0) && (o.lot == 0) && decide (o.put = zeroLot) && ((o.offers.length : Int) == 0) && (o.tick == 0)) := ⟨_, rfl⟩
  rw [← hz]
  obtain ⟨okind, oname, ocoins, obidder, olot, put, ooff, otick⟩ := o
  simp only at hk hz
  obtain ⟨no, hno⟩ : ∃ n, n = ooff.length := ⟨_, rfl⟩
  obtain ⟨bp, hbp⟩ : ∃ b, b = decide (put = zeroLot) := ⟨_, rfl⟩
  have heq := fun W => eql_lot W put zeroLot
  rw [← hbp] at heq
  obtain ⟨bn, hbn⟩ : ∃ b, b = decide (oname.size = 0) := ⟨_, rfl⟩
  have hst := fun W => strz oname W
  have hst2 := isE oname
  rw [← hbn] at hst hst2
  obtain ⟨kind, opens, closes, start, step, extend, last, floor, fall, count, rule⟩ := put
  simp only [OrderR.agg, OrderR.cells, LotR.agg, LotR.cells, zeroLot, List.cons_append, List.nil_append] at heq ⊢
  rw [← hno]
  rw [← hbp, ← hno] at hz
  subst hk
  have HZ := Lib.hid hz
  clear hz hbp hbn hno
  cases hb : (obidder == 0) with
  | false =>
    have HE := Lib.hid (show z = false from HZ.out.trans (by rw [hb]; simp))
    go_enter Tryz.func93, Tryz.ntmps93
    go_wp2_with fail
    go_ret
    exact ⟨by rw [HE.out]; rfl, (Below.refl _ _).alloc (Nat.le_refl _) _⟩
  | true =>
    cases hl : (olot == 0) with
    | false =>
      have HE := Lib.hid (show z = false from HZ.out.trans (by rw [hb, hl]; simp))
      go_enter Tryz.func93, Tryz.ntmps93
      go_wp2_with fail
      go_ret
      exact ⟨by rw [HE.out]; rfl, (Below.refl _ _).alloc (Nat.le_refl _) _⟩
    | true =>
      cases bp with
      | false =>
        have HE := Lib.hid (show z = false from HZ.out.trans (by simp [hb, hl]))
        go_enter Tryz.func93, Tryz.ntmps93
        go_wp2_with fail
        go_ret
        exact ⟨by rw [HE.out]; rfl, (Below.refl _ _).alloc (Nat.le_refl _) _⟩
      | true =>
        cases hf : ((no : Int) == 0) with
        | false =>
          have HE := Lib.hid (show z = false from HZ.out.trans (by rw [hb, hl, hf]; simp))
          go_enter Tryz.func93, Tryz.ntmps93
          go_wp2_with fail
          go_ret
          exact ⟨by rw [HE.out]; rfl, (Below.refl _ _).alloc (Nat.le_refl _) _⟩
        | true =>
          cases ht : (otick == 0) with
          | false =>
            have HE := Lib.hid (show z = false from HZ.out.trans (by rw [hb, hl, hf, ht]; simp))
            go_enter Tryz.func93, Tryz.ntmps93
            go_wp2_with fail
            go_ret
            exact ⟨by rw [HE.out]; rfl, (Below.refl _ _).alloc (Nat.le_refl _) _⟩
          | true =>
            have HE := Lib.hid (show z = true from HZ.out.trans (by rw [hb, hl, hf, ht]; rfl))
            go_enter Tryz.func93, Tryz.ntmps93
            go_wp2_with fail
            go_ret
            exact ⟨by rw [HE.out]; rfl, (Below.refl _ _).alloc (Nat.le_refl _) _⟩
set_option maxRecDepth 100000 in
set_option maxHeartbeats 4000000 in
theorem spare_2 (o : OrderR) (A : Option Addr) (c : Nat) (hk : o.kind = 2) (W : World) : Calls Tryz.prog 93 #[o.agg (.slice A o.offers.length c)] W fun e W' => e = .returned (.bool (decide (o.name.size = 0) && (o.lot == 0) && decide (o.put = zeroLot) && ((o.offers.length : Int) == 0) && (o.tick == 0))) ∧ Below W.heap.size W W' := by
  obtain ⟨z, hz⟩ : ∃ z, z = (decide (o.name.size = 0) && (o.lot == 0) && decide (o.put = zeroLot) && ((o.offers.length : Int) == 0) && (o.tick == 0)) := ⟨_, rfl⟩
  rw [← hz]
  obtain ⟨okind, oname, ocoins, obidder, olot, put, ooff, otick⟩ := o
  simp only at hk hz
  obtain ⟨no, hno⟩ : ∃ n, n = ooff.length := ⟨_, rfl⟩
  obtain ⟨bp, hbp⟩ : ∃ b, b = decide (put = zeroLot) := ⟨_, rfl⟩
  have heq := fun W => eql_lot W put zeroLot
  rw [← hbp] at heq
  obtain ⟨bn, hbn⟩ : ∃ b, b = decide (oname.size = 0) := ⟨_, rfl⟩
  have hst := fun W => strz oname W
  have hst2 := isE oname
  rw [← hbn] at hst hst2
  obtain ⟨kind, opens, closes, start, step, extend, last, floor, fall, count, rule⟩ := put
  simp only [OrderR.agg, OrderR.cells, LotR.agg, LotR.cells, zeroLot, List.cons_append, List.nil_append] at heq ⊢
  rw [← hno]
  rw [← hbp, ← hbn, ← hno] at hz
  subst hk
  have HZ := Lib.hid hz
  clear hz hbp hbn hno
  cases bn with
  | false =>
    have HE := Lib.hid (show z = false from HZ.out.trans (by simp))
    go_enter Tryz.func93, Tryz.ntmps93
    go_wp2_with fail
    go_ret
    exact ⟨by rw [HE.out]; rfl, (Below.refl _ _).alloc (Nat.le_refl _) _⟩
  | true =>
    cases hl : (olot == 0) with
    | false =>
      have HE := Lib.hid (show z = false from HZ.out.trans (by rw [hl]; simp))
      go_enter Tryz.func93, Tryz.ntmps93
      go_wp2_with fail
      go_ret
      exact ⟨by rw [HE.out]; rfl, (Below.refl _ _).alloc (Nat.le_refl _) _⟩
    | true =>
      cases bp with
      | false =>
        have HE := Lib.hid (show z = false from HZ.out.trans (by simp [hl]))
        go_enter Tryz.func93, Tryz.ntmps93
        go_wp2_with fail
        go_ret
        exact ⟨by rw [HE.out]; rfl, (Below.refl _ _).alloc (Nat.le_refl _) _⟩
      | true =>
        cases hf : ((no : Int) == 0) with
        | false =>
          have HE := Lib.hid (show z = false from HZ.out.trans (by rw [hl, hf]; simp))
          go_enter Tryz.func93, Tryz.ntmps93
          go_wp2_with fail
          go_ret
          exact ⟨by rw [HE.out]; rfl, (Below.refl _ _).alloc (Nat.le_refl _) _⟩
        | true =>
          cases ht : (otick == 0) with
          | false =>
            have HE := Lib.hid (show z = false from HZ.out.trans (by rw [hl, hf, ht]; simp))
            go_enter Tryz.func93, Tryz.ntmps93
            go_wp2_with fail
            go_ret
            exact ⟨by rw [HE.out]; rfl, (Below.refl _ _).alloc (Nat.le_refl _) _⟩
          | true =>
            have HE := Lib.hid (show z = true from HZ.out.trans (by rw [hl, hf, ht]; rfl))
            go_enter Tryz.func93, Tryz.ntmps93
            go_wp2_with fail
            go_ret
            exact ⟨by rw [HE.out]; rfl, (Below.refl _ _).alloc (Nat.le_refl _) _⟩
set_option maxRecDepth 100000 in
set_option maxHeartbeats 4000000 in
theorem spare_3 (o : OrderR) (A : Option Addr) (c : Nat) (hk : o.kind = 3) (W : World) : Calls Tryz.prog 93 #[o.agg (.slice A o.offers.length c)] W fun e W' => e = .returned (.bool (decide (o.name.size = 0) && (o.coins == 0) && (o.bidder == 0) && (o.lot == 0) && ((o.offers.length : Int) == 0) && (o.tick == 0))) ∧ Below W.heap.size W W' := by
  obtain ⟨z, hz⟩ : ∃ z, z = (decide (o.name.size = 0) && (o.coins == 0) && (o.bidder == 0) && (o.lot == 0) && ((o.offers.length : Int) == 0) && (o.tick == 0)) := ⟨_, rfl⟩
  rw [← hz]
  obtain ⟨okind, oname, ocoins, obidder, olot, put, ooff, otick⟩ := o
  simp only at hk hz
  obtain ⟨no, hno⟩ : ∃ n, n = ooff.length := ⟨_, rfl⟩
  obtain ⟨bp, hbp⟩ : ∃ b, b = decide (put = zeroLot) := ⟨_, rfl⟩
  have heq := fun W => eql_lot W put zeroLot
  rw [← hbp] at heq
  obtain ⟨bn, hbn⟩ : ∃ b, b = decide (oname.size = 0) := ⟨_, rfl⟩
  have hst := fun W => strz oname W
  have hst2 := isE oname
  rw [← hbn] at hst hst2
  obtain ⟨kind, opens, closes, start, step, extend, last, floor, fall, count, rule⟩ := put
  simp only [OrderR.agg, OrderR.cells, LotR.agg, LotR.cells, zeroLot, List.cons_append, List.nil_append] at heq ⊢
  rw [← hno]
  rw [← hbn, ← hno] at hz
  subst hk
  have HZ := Lib.hid hz
  clear hz hbp hbn hno
  cases bn with
  | false =>
    have HE := Lib.hid (show z = false from HZ.out.trans (by simp))
    go_enter Tryz.func93, Tryz.ntmps93
    go_wp2_with fail
    go_ret
    exact ⟨by rw [HE.out]; rfl, (Below.refl _ _).alloc (Nat.le_refl _) _⟩
  | true =>
    cases hc : (ocoins == 0) with
    | false =>
      have HE := Lib.hid (show z = false from HZ.out.trans (by rw [hc]; simp))
      go_enter Tryz.func93, Tryz.ntmps93
      go_wp2_with fail
      go_ret
      exact ⟨by rw [HE.out]; rfl, (Below.refl _ _).alloc (Nat.le_refl _) _⟩
    | true =>
      cases hb : (obidder == 0) with
      | false =>
        have HE := Lib.hid (show z = false from HZ.out.trans (by rw [hc, hb]; simp))
        go_enter Tryz.func93, Tryz.ntmps93
        go_wp2_with fail
        go_ret
        exact ⟨by rw [HE.out]; rfl, (Below.refl _ _).alloc (Nat.le_refl _) _⟩
      | true =>
        cases hl : (olot == 0) with
        | false =>
          have HE := Lib.hid (show z = false from HZ.out.trans (by rw [hc, hb, hl]; simp))
          go_enter Tryz.func93, Tryz.ntmps93
          go_wp2_with fail
          go_ret
          exact ⟨by rw [HE.out]; rfl, (Below.refl _ _).alloc (Nat.le_refl _) _⟩
        | true =>
          cases hf : ((no : Int) == 0) with
          | false =>
            have HE := Lib.hid (show z = false from HZ.out.trans (by rw [hc, hb, hl, hf]; simp))
            go_enter Tryz.func93, Tryz.ntmps93
            go_wp2_with fail
            go_ret
            exact ⟨by rw [HE.out]; rfl, (Below.refl _ _).alloc (Nat.le_refl _) _⟩
          | true =>
            cases ht : (otick == 0) with
            | false =>
              have HE := Lib.hid (show z = false from HZ.out.trans (by rw [hc, hb, hl, hf, ht]; simp))
              go_enter Tryz.func93, Tryz.ntmps93
              go_wp2_with fail
              go_ret
              exact ⟨by rw [HE.out]; rfl, (Below.refl _ _).alloc (Nat.le_refl _) _⟩
            | true =>
              have HE := Lib.hid (show z = true from HZ.out.trans (by rw [hc, hb, hl, hf, ht]; rfl))
              go_enter Tryz.func93, Tryz.ntmps93
              go_wp2_with fail
              go_ret
              exact ⟨by rw [HE.out]; rfl, (Below.refl _ _).alloc (Nat.le_refl _) _⟩
set_option maxRecDepth 100000 in
set_option maxHeartbeats 4000000 in
theorem spare_4 (o : OrderR) (A : Option Addr) (c : Nat) (hk : o.kind = 4) (W : World) : Calls Tryz.prog 93 #[o.agg (.slice A o.offers.length c)] W fun e W' => e = .returned (.bool (decide (o.name.size = 0) && (o.coins == 0) && decide (o.put = zeroLot) && (o.tick == 0))) ∧ Below W.heap.size W W' := by
  obtain ⟨z, hz⟩ : ∃ z, z = (decide (o.name.size = 0) && (o.coins == 0) && decide (o.put = zeroLot) && (o.tick == 0)) := ⟨_, rfl⟩
  rw [← hz]
  obtain ⟨okind, oname, ocoins, obidder, olot, put, ooff, otick⟩ := o
  simp only at hk hz
  obtain ⟨no, hno⟩ : ∃ n, n = ooff.length := ⟨_, rfl⟩
  obtain ⟨bp, hbp⟩ : ∃ b, b = decide (put = zeroLot) := ⟨_, rfl⟩
  have heq := fun W => eql_lot W put zeroLot
  rw [← hbp] at heq
  obtain ⟨bn, hbn⟩ : ∃ b, b = decide (oname.size = 0) := ⟨_, rfl⟩
  have hst := fun W => strz oname W
  have hst2 := isE oname
  rw [← hbn] at hst hst2
  obtain ⟨kind, opens, closes, start, step, extend, last, floor, fall, count, rule⟩ := put
  simp only [OrderR.agg, OrderR.cells, LotR.agg, LotR.cells, zeroLot, List.cons_append, List.nil_append] at heq ⊢
  rw [← hno]
  rw [← hbp, ← hbn] at hz
  subst hk
  have HZ := Lib.hid hz
  clear hz hbp hbn hno
  cases bn with
  | false =>
    have HE := Lib.hid (show z = false from HZ.out.trans (by simp))
    go_enter Tryz.func93, Tryz.ntmps93
    go_wp2_with fail
    go_ret
    exact ⟨by rw [HE.out]; rfl, (Below.refl _ _).alloc (Nat.le_refl _) _⟩
  | true =>
    cases hc : (ocoins == 0) with
    | false =>
      have HE := Lib.hid (show z = false from HZ.out.trans (by rw [hc]; simp))
      go_enter Tryz.func93, Tryz.ntmps93
      go_wp2_with fail
      go_ret
      exact ⟨by rw [HE.out]; rfl, (Below.refl _ _).alloc (Nat.le_refl _) _⟩
    | true =>
      cases bp with
      | false =>
        have HE := Lib.hid (show z = false from HZ.out.trans (by simp [hc]))
        go_enter Tryz.func93, Tryz.ntmps93
        go_wp2_with fail
        go_ret
        exact ⟨by rw [HE.out]; rfl, (Below.refl _ _).alloc (Nat.le_refl _) _⟩
      | true =>
        cases ht : (otick == 0) with
        | false =>
          have HE := Lib.hid (show z = false from HZ.out.trans (by rw [hc, ht]; simp))
          go_enter Tryz.func93, Tryz.ntmps93
          go_wp2_with fail
          go_ret
          exact ⟨by rw [HE.out]; rfl, (Below.refl _ _).alloc (Nat.le_refl _) _⟩
        | true =>
          have HE := Lib.hid (show z = true from HZ.out.trans (by rw [hc, ht]; rfl))
          go_enter Tryz.func93, Tryz.ntmps93
          go_wp2_with fail
          go_ret
          exact ⟨by rw [HE.out]; rfl, (Below.refl _ _).alloc (Nat.le_refl _) _⟩
set_option maxRecDepth 100000 in
set_option maxHeartbeats 4000000 in
theorem spare_5 (o : OrderR) (A : Option Addr) (c : Nat) (hk : o.kind = 5) (W : World) : Calls Tryz.prog 93 #[o.agg (.slice A o.offers.length c)] W fun e W' => e = .returned (.bool (decide (o.name.size = 0) && (o.coins == 0) && decide (o.put = zeroLot) && ((o.offers.length : Int) == 0) && (o.tick == 0))) ∧ Below W.heap.size W W' := by
  obtain ⟨z, hz⟩ : ∃ z, z = (decide (o.name.size = 0) && (o.coins == 0) && decide (o.put = zeroLot) && ((o.offers.length : Int) == 0) && (o.tick == 0)) := ⟨_, rfl⟩
  rw [← hz]
  obtain ⟨okind, oname, ocoins, obidder, olot, put, ooff, otick⟩ := o
  simp only at hk hz
  obtain ⟨no, hno⟩ : ∃ n, n = ooff.length := ⟨_, rfl⟩
  obtain ⟨bp, hbp⟩ : ∃ b, b = decide (put = zeroLot) := ⟨_, rfl⟩
  have heq := fun W => eql_lot W put zeroLot
  rw [← hbp] at heq
  obtain ⟨bn, hbn⟩ : ∃ b, b = decide (oname.size = 0) := ⟨_, rfl⟩
  have hst := fun W => strz oname W
  have hst2 := isE oname
  rw [← hbn] at hst hst2
  obtain ⟨kind, opens, closes, start, step, extend, last, floor, fall, count, rule⟩ := put
  simp only [OrderR.agg, OrderR.cells, LotR.agg, LotR.cells, zeroLot, List.cons_append, List.nil_append] at heq ⊢
  rw [← hno]
  rw [← hbp, ← hbn, ← hno] at hz
  subst hk
  have HZ := Lib.hid hz
  clear hz hbp hbn hno
  cases bn with
  | false =>
    have HE := Lib.hid (show z = false from HZ.out.trans (by simp))
    go_enter Tryz.func93, Tryz.ntmps93
    go_wp2_with fail
    go_ret
    exact ⟨by rw [HE.out]; rfl, (Below.refl _ _).alloc (Nat.le_refl _) _⟩
  | true =>
    cases hc : (ocoins == 0) with
    | false =>
      have HE := Lib.hid (show z = false from HZ.out.trans (by rw [hc]; simp))
      go_enter Tryz.func93, Tryz.ntmps93
      go_wp2_with fail
      go_ret
      exact ⟨by rw [HE.out]; rfl, (Below.refl _ _).alloc (Nat.le_refl _) _⟩
    | true =>
      cases bp with
      | false =>
        have HE := Lib.hid (show z = false from HZ.out.trans (by simp [hc]))
        go_enter Tryz.func93, Tryz.ntmps93
        go_wp2_with fail
        go_ret
        exact ⟨by rw [HE.out]; rfl, (Below.refl _ _).alloc (Nat.le_refl _) _⟩
      | true =>
        cases hf : ((no : Int) == 0) with
        | false =>
          have HE := Lib.hid (show z = false from HZ.out.trans (by rw [hc, hf]; simp))
          go_enter Tryz.func93, Tryz.ntmps93
          go_wp2_with fail
          go_ret
          exact ⟨by rw [HE.out]; rfl, (Below.refl _ _).alloc (Nat.le_refl _) _⟩
        | true =>
          cases ht : (otick == 0) with
          | false =>
            have HE := Lib.hid (show z = false from HZ.out.trans (by rw [hc, hf, ht]; simp))
            go_enter Tryz.func93, Tryz.ntmps93
            go_wp2_with fail
            go_ret
            exact ⟨by rw [HE.out]; rfl, (Below.refl _ _).alloc (Nat.le_refl _) _⟩
          | true =>
            have HE := Lib.hid (show z = true from HZ.out.trans (by rw [hc, hf, ht]; rfl))
            go_enter Tryz.func93, Tryz.ntmps93
            go_wp2_with fail
            go_ret
            exact ⟨by rw [HE.out]; rfl, (Below.refl _ _).alloc (Nat.le_refl _) _⟩
set_option maxRecDepth 100000 in
set_option maxHeartbeats 4000000 in
theorem spare_6 (o : OrderR) (A : Option Addr) (c : Nat) (hk : o.kind = 6) (W : World) : Calls Tryz.prog 93 #[o.agg (.slice A o.offers.length c)] W fun e W' => e = .returned (.bool (decide (o.name.size = 0) && (o.coins == 0) && (o.bidder == 0) && (o.lot == 0) && decide (o.put = zeroLot) && ((o.offers.length : Int) == 0))) ∧ Below W.heap.size W W' := by
  obtain ⟨z, hz⟩ : ∃ z, z = (decide (o.name.size = 0) && (o.coins == 0) && (o.bidder == 0) && (o.lot == 0) && decide (o.put = zeroLot) && ((o.offers.length : Int) == 0)) := ⟨_, rfl⟩
  rw [← hz]
  obtain ⟨okind, oname, ocoins, obidder, olot, put, ooff, otick⟩ := o
  simp only at hk hz
  obtain ⟨no, hno⟩ : ∃ n, n = ooff.length := ⟨_, rfl⟩
  obtain ⟨bp, hbp⟩ : ∃ b, b = decide (put = zeroLot) := ⟨_, rfl⟩
  have heq := fun W => eql_lot W put zeroLot
  rw [← hbp] at heq
  obtain ⟨bn, hbn⟩ : ∃ b, b = decide (oname.size = 0) := ⟨_, rfl⟩
  have hst := fun W => strz oname W
  have hst2 := isE oname
  rw [← hbn] at hst hst2
  obtain ⟨kind, opens, closes, start, step, extend, last, floor, fall, count, rule⟩ := put
  simp only [OrderR.agg, OrderR.cells, LotR.agg, LotR.cells, zeroLot, List.cons_append, List.nil_append] at heq ⊢
  rw [← hno]
  rw [← hbp, ← hbn, ← hno] at hz
  subst hk
  have HZ := Lib.hid hz
  clear hz hbp hbn hno
  cases bn with
  | false =>
    have HE := Lib.hid (show z = false from HZ.out.trans (by simp))
    go_enter Tryz.func93, Tryz.ntmps93
    go_wp2_with fail
    go_ret
    exact ⟨by rw [HE.out]; rfl, (Below.refl _ _).alloc (Nat.le_refl _) _⟩
  | true =>
    cases hc : (ocoins == 0) with
    | false =>
      have HE := Lib.hid (show z = false from HZ.out.trans (by rw [hc]; simp))
      go_enter Tryz.func93, Tryz.ntmps93
      go_wp2_with fail
      go_ret
      exact ⟨by rw [HE.out]; rfl, (Below.refl _ _).alloc (Nat.le_refl _) _⟩
    | true =>
      cases hb : (obidder == 0) with
      | false =>
        have HE := Lib.hid (show z = false from HZ.out.trans (by rw [hc, hb]; simp))
        go_enter Tryz.func93, Tryz.ntmps93
        go_wp2_with fail
        go_ret
        exact ⟨by rw [HE.out]; rfl, (Below.refl _ _).alloc (Nat.le_refl _) _⟩
      | true =>
        cases hl : (olot == 0) with
        | false =>
          have HE := Lib.hid (show z = false from HZ.out.trans (by rw [hc, hb, hl]; simp))
          go_enter Tryz.func93, Tryz.ntmps93
          go_wp2_with fail
          go_ret
          exact ⟨by rw [HE.out]; rfl, (Below.refl _ _).alloc (Nat.le_refl _) _⟩
        | true =>
          cases bp with
          | false =>
            have HE := Lib.hid (show z = false from HZ.out.trans (by simp [hc, hb, hl]))
            go_enter Tryz.func93, Tryz.ntmps93
            go_wp2_with fail
            go_ret
            exact ⟨by rw [HE.out]; rfl, (Below.refl _ _).alloc (Nat.le_refl _) _⟩
          | true =>
            cases hf : ((no : Int) == 0) with
            | false =>
              have HE := Lib.hid (show z = false from HZ.out.trans (by rw [hc, hb, hl, hf]; simp))
              go_enter Tryz.func93, Tryz.ntmps93
              go_wp2_with fail
              go_ret
              exact ⟨by rw [HE.out]; rfl, (Below.refl _ _).alloc (Nat.le_refl _) _⟩
            | true =>
              have HE := Lib.hid (show z = true from HZ.out.trans (by rw [hc, hb, hl, hf]; rfl))
              go_enter Tryz.func93, Tryz.ntmps93
              go_wp2_with fail
              go_ret
              exact ⟨by rw [HE.out]; rfl, (Below.refl _ _).alloc (Nat.le_refl _) _⟩
set_option maxRecDepth 100000 in
set_option maxHeartbeats 4000000 in
theorem spare_0 (o : OrderR) (A : Option Addr) (c : Nat) (h1 : (o.kind == 1) = false) (h2 : (o.kind == 2) = false) (h3 : (o.kind == 3) = false) (h4 : (o.kind == 4) = false) (h5 : (o.kind == 5) = false) (h6 : (o.kind == 6) = false) (W : World) : Calls Tryz.prog 93 #[o.agg (.slice A o.offers.length c)] W fun e W' => e = .returned (.bool false) ∧ Below W.heap.size W W' := by
  obtain ⟨okind, oname, ocoins, obidder, olot, put, ooff, otick⟩ := o
  simp only at h1 h2 h3 h4 h5 h6
  obtain ⟨no, hno⟩ : ∃ n, n = ooff.length := ⟨_, rfl⟩
  obtain ⟨bp, hbp⟩ : ∃ b, b = decide (put = zeroLot) := ⟨_, rfl⟩
  have heq := fun W => eql_lot W put zeroLot
  rw [← hbp] at heq
  obtain ⟨bn, hbn⟩ : ∃ b, b = decide (oname.size = 0) := ⟨_, rfl⟩
  have hst := fun W => strz oname W
  have hst2 := isE oname
  rw [← hbn] at hst hst2
  obtain ⟨kind, opens, closes, start, step, extend, last, floor, fall, count, rule⟩ := put
  simp only [OrderR.agg, OrderR.cells, LotR.agg, LotR.cells, zeroLot, List.cons_append, List.nil_append] at heq ⊢
  rw [← hno]
  clear hst hst2 heq hbp hbn hno
  go_enter Tryz.func93, Tryz.ntmps93
  go_wp2_with fail
  go_ret
  exact ⟨rfl, (Below.refl _ _).alloc (Nat.le_refl _) _⟩
theorem spare_any (o : OrderR) (A : Option Addr) (c : Nat) (W : World) : Calls Tryz.prog 93 #[o.agg (.slice A o.offers.length c)] W fun e W' => e = .returned (.bool (spareB o)) ∧ Below W.heap.size W W' := by
  unfold spareB
  dsimp only
  by_cases h1 : o.kind = 1
  · rw [if_pos h1]; exact spare_1 o A c h1 W
  · rw [if_neg h1]
    by_cases h2 : o.kind = 2
    · rw [if_pos h2]; exact spare_2 o A c h2 W
    · rw [if_neg h2]
      by_cases h3 : o.kind = 3
      · rw [if_pos h3]; exact spare_3 o A c h3 W
      · rw [if_neg h3]
        by_cases h4 : o.kind = 4
        · rw [if_pos h4]; exact spare_4 o A c h4 W
        · rw [if_neg h4]
          by_cases h5 : o.kind = 5
          · rw [if_pos h5]; exact spare_5 o A c h5 W
          · rw [if_neg h5]
            by_cases h6 : o.kind = 6
            · rw [if_pos h6]; exact spare_6 o A c h6 W
            · rw [if_neg h6]; exact spare_0 o A c (by simpa using h1) (by simpa using h2) (by simpa using h3) (by simpa using h4) (by simpa using h5) (by simpa using h6) W
end Go.Proofs.YtckdpejdnejhfaaGreat.Ho

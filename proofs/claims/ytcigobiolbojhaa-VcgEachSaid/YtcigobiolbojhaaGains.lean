/- vcg.Gains, vcg.Pivotal. -/
import Derived.Test.YtcigobiolbojhaaCosts
namespace Go.Proofs.Ytcigobiolbojhaa.Vb
open Go.RowKit

set_option maxHeartbeats 800000 in
theorem costs_err (n : Int) (bs : List (List Off)) (v : Value) (R : Nat → Prop) (w : World) (hl : Buys w R v bs) (hi : instE n bs ≠ 0) :
    Calls Try.prog 21 #[.agg #[.int .i64 n, v]] w fun e w' => e = .returned (.tuple #[.agg #[.slice none 0 0, .int .i64 0, .slice none 0 0], .int .i64 (instE n bs)]) ∧ Below w.heap.size w w' := by
  obtain ⟨vs, ⟨_, A, cap, rfl, _⟩, _⟩ := id hl
  have HB := Lib.hid hl
  have hcb : (instE n bs != 0) = true := by simpa using hi
  have HI := Lib.hid hi
  clear hl hi
  go_enter Try.func21, Try.ntmps21
  go_wp2_with (go_at_call 84; refine (lost_err n bs _ R _ ((HB.out.alloc _).alloc _) HI.out).mono ?_; rintro e w1 ⟨rfl, hb1⟩; have hb1a := hb1.mono (B' := w.heap.size + 2) (by simp); have hR := (two_blk hb1a).2; have r0 := fun o => (hR.alloc o).cell 0; have r1 := fun o => (hR.alloc o).cell 1; have r2 := fun o => (hR.alloc o).cell 2; have rf := fun o => (hR.alloc o).frozen; simp at r0 r1 r2; have hs1 := hb1a.size; simp at hs1; have HR := Lib.hid hR; have HB1 := Lib.hid hb1a; clear hb1 hb1a hR)
  have hq := (((HR.out.alloc (.cells #[.slice none 0 0, .int .i64 0] 66)).set_ 0 (.slice none 0 0)).set_ 1 (.int .i64 0)).set_ 2 (.slice none 0 0)
  have q0 := hq.cell 0
  have q1 := hq.cell 1
  have q2 := hq.cell 2
  simp at q0 q1 q2
  refine bodyPost_ret (v := .tuple #[.agg #[.slice none 0 0, .int .i64 0, .slice none 0 0], .int .i64 (instE n bs)]) (by simp [results, Try.results21, go_sem, q0, q1, q2]) rfl ⟨rfl, ?_⟩
  have h1 : Below w.heap.size w w1 := (((Below.refl _ _).alloc (Nat.le_refl _) _).alloc (by simp) _).trans (HB1.out.mono (by omega))
  exact (((h1.alloc (by omega) _).setCell (p := ⟨w.heap.size + 1, 0, none⟩) (by simp) _).setCell (p := ⟨w.heap.size + 1, 1, none⟩) (by simp) _).setCell (p := ⟨w.heap.size + 1, 2, none⟩) (by simp) _

/-- what each buyer gains -/
def gainAt (n : Int) (bs : List (List Off)) (i : Nat) : Int := W bs (allOf n) - woW n bs i
def gainsC (n : Int) (bs : List (List Off)) : List Int := (List.range bs.length).map (gainAt n bs)
def pivotTo (n : Int) (bs : List (List Off)) (k : Nat) : List Int := ((List.range k).filter fun i => decide (0 < gainAt n bs i)).map fun (i : Nat) => (i : Int)
def pivotC (n : Int) (bs : List (List Off)) : List Int := pivotTo n bs bs.length

theorem take_gains {n : Int} {bs : List (List Off)} {k : Nat} (h : k < bs.length) : (gainsC n bs).take (k + 1) = (gainsC n bs).take k ++ [gainAt n bs k] := by
  rw [List.take_add_one]
  simp [gainsC, h]

theorem one_blk' {w w1 : World} {cs : Array Value} {t : TypeId} (hb : Below (w.alloc (.cells cs t)).heap.size (w.alloc (.cells cs t)) w1) : Blk w1 w.heap.size t cs ∧ w.heap.size + 1 ≤ w1.heap.size ∧ Below w.heap.size w w1 := by
  have hb' := hb.mono (B' := w.heap.size + 1) (by simp)
  have hs := hb.size
  simp at hs
  exact ⟨one_blk hb', hs, ((Below.refl _ _).alloc (Nat.le_refl _) _).trans (hb'.mono (by omega))⟩

set_option maxRecDepth 100000 in
set_option maxHeartbeats 3200000 in
theorem gains_ok (n : Int) (bs : List (List Off)) (v : Value) (R : Nat → Prop) (w : World) (hl : Buys w R v bs) (hi : instE n bs = 0) :
    Calls Try.prog 26 #[.agg #[.int .i64 n, v]] w fun e w' => ∃ A' cap', e = .returned (.tuple #[.slice A' bs.length cap', .int .i64 0]) ∧
      w'.ownsRow w.heap.size 2 1 (.slice A' bs.length cap') bs.length (ints (gainsC n bs)) ∧ Below w.heap.size w w' := by
  obtain ⟨vs, ⟨_, A, cap, rfl, _⟩, _⟩ := id hl
  have HB := Lib.hid hl
  have HI := Lib.hid hi
  have hl32 := (instE_zero hi).2.2.1
  clear hl hi
  go_enter Try.func26, Try.ntmps26
  go_wp2_with (go_at_call 84; refine (lost_ok n bs _ R _ (HB.out.alloc _) HI.out).mono ?_; rintro e w1 ⟨AC, cC, b5, b1, b2, mm, rfl, hown1, hlo1, hmm1, hb1⟩; have hX := (one_blk' hb1).1; have x1 := fun o => (hX.alloc o).cell 1; simp at x1; have HX := Lib.hid hX; have HL1 := Lib.hid hlo1; have HB1 := Lib.hid (one_blk' hb1).2.2; have hs1 := (one_blk' hb1).2.1; simp at hmm1; clear hown1 hlo1 hb1 hX)
  have hlt5 := World.block_lt_of_cell? _ _ HL1.out.c5
  have hltb := World.block_lt_of_cell? _ _ HL1.out.x0
  have hltc := World.block_lt_of_cell? _ _ HL1.out.w1
  have hltm := HL1.out.map.lt
  simp only at hlt5 hltb hltc
  clear x1
  go_loopw [7, 21] (fun s i wr => ∃ (k : Nat) (A' : Option Addr) (cap' : Nat), k ≤ bs.length ∧ i = .int .i64 k ∧ s = .slice A' k cap' ∧ LostAt wr (w.heap.size + 1) b5 b1 b2 mm n (.slice A bs.length cap) bs ∧
      wr.ownsRow (w1.heap.size + 1) 2 1 (.slice A' k cap') k (ints ((gainsC n bs).take k)) ∧ Below w.heap.size w wr ∧ w1.heap.size + 1 ≤ wr.heap.size)
    (fun _ i _ => bs.length - (intOf i).toNat)
  case atStart =>
    refine ⟨0, none, 0, Nat.zero_le _, rfl, rfl, ?_, World.ownsRow_nil _ _ _ _, HB1.out.alloc (by omega) _, by simp⟩
    simpa using HL1.out.alloc _
  case round =>
    obtain ⟨k, A', cap', hk, rfl, rfl, hlo, hown, hbw, hsz⟩ := hrel
    have HLO := Lib.hid hlo
    have HO := Lib.hid hown
    have HBW := Lib.hid hbw
    by_cases hlt : k < bs.length
    · clear hlo hown hbw
      go_wp2_with (first
        | (go_at_call 118; refine (each_any _ b5 b1 b2 mm n _ bs k hlt _ HLO.out).mono ?_; rintro e w5 ⟨rfl, hl5, hg5⟩; have hsz5 : w1.heap.size + 1 ≤ w5.heap.size := Nat.le_trans hsz hg5.size; have HL5 := Lib.hid hl5; have HO5 := Lib.hid (own_far HO.out hg5 (fun g e => by injection e with e; subst e; exact own_ne_map HO.out HLO.out.map)); have HB5 := Lib.hid (HBW.out.grown hg5 (by have := HBW.out.size; simpa using this) (fun g e => by injection e with e; omega)); clear hl5 hg5)
        | (at_builtin; refine wpList_app _ rfl (.tmp 24) (.tmp 28) et_i64 rfl (w1.heap.size + 1) (.slice A' k cap') k (ints ((gainsC n bs).take k)) rfl (HO5.out.alloc _) _ _ 1 _ rfl (Sl.new w5 #[.int .i64 (W bs (allOf n) - woW n bs k)] _ 1 1 (by unfold maxLen; omega) rfl) (by simp [Value.oneCell']) (by omega) (by unfold maxLen; omega) (by simp; omega) ?_; intro A3 cap3 w3 hown3 hg3 hloc3; have HG3 := Lib.hid hg3; have HO3 := Lib.hid hown3; clear hg3 hown3 hloc3))
      go_roundw
      case rel =>
        have hro : ∀ g, (Value.slice A' k cap').ownBlock = some g → w1.heap.size + 1 ≤ g := fun g e => (HO5.out.lt g e).1
        have hs3 := HG3.out.size
        simp at hs3
        refine ⟨k + 1, A3, cap3, by omega, by go_num, rfl, (HL5.out.alloc _).far HG3.out (fun g e => by have := hro g e; omega), ?_, (HB5.out.alloc (by omega) _).grown HG3.out (by simp; omega) (fun g e => by have := hro g e; omega), by omega⟩
        have := HO3.out
        rw [take_gains hlt]
        simpa [ints, gainAt] using this
      case measure => simp [intOf]; omega
    · obtain rfl : k = bs.length := by omega
      have htk : (gainsC n bs).take bs.length = gainsC n bs := List.take_of_length_le (by simp [gainsC])
      rw [htk] at hown
      have HO' := Lib.hid hown
      clear hlo hown hbw htk
      go_wp2_with fail
      go_ret2
      exact ⟨A', cap', rfl, own_mono HO'.out (by omega), HBW.out⟩

set_option maxHeartbeats 800000 in
theorem gains_err (n : Int) (bs : List (List Off)) (v : Value) (R : Nat → Prop) (w : World) (hl : Buys w R v bs) (hi : instE n bs ≠ 0) :
    Calls Try.prog 26 #[.agg #[.int .i64 n, v]] w fun e w' => e = .returned (.tuple #[.slice none 0 0, .int .i64 (instE n bs)]) ∧ Below w.heap.size w w' := by
  obtain ⟨vs, ⟨_, A, cap, rfl, _⟩, _⟩ := id hl
  have HB := Lib.hid hl
  have hcb : (instE n bs != 0) = true := by simpa using hi
  have HI := Lib.hid hi
  clear hl hi
  go_enter Try.func26, Try.ntmps26
  go_wp2_with (go_at_call 84; refine (lost_err n bs _ R _ (HB.out.alloc _) HI.out).mono ?_; rintro e w1 ⟨rfl, hb1⟩; have HB1 := Lib.hid (one_blk' hb1).2.2; clear hb1)
  go_ret2
  exact ⟨rfl, HB1.out.alloc HB1.out.size _⟩

theorem pivotTo_yes {n : Int} {bs : List (List Off)} {k : Nat} (h : 0 < gainAt n bs k) : pivotTo n bs (k + 1) = pivotTo n bs k ++ [(k : Int)] := by
  simp [pivotTo, List.range_succ, List.filter_append, h]
theorem pivotTo_no {n : Int} {bs : List (List Off)} {k : Nat} (h : ¬ 0 < gainAt n bs k) : pivotTo n bs (k + 1) = pivotTo n bs k := by
  have : ¬ (0 < gainAt n bs k) := h
  simp [pivotTo, List.range_succ, List.filter_append, this]
theorem pivotTo_len (n : Int) (bs : List (List Off)) (k : Nat) : (pivotTo n bs k).length ≤ k := by
  have := List.length_filter_le (fun i => decide (0 < gainAt n bs i)) (List.range k)
  simpa [pivotTo] using this

set_option maxRecDepth 100000 in
set_option maxHeartbeats 3200000 in
theorem pivotal_ok (n : Int) (bs : List (List Off)) (v : Value) (R : Nat → Prop) (w : World) (hl : Buys w R v bs) (hi : instE n bs = 0) :
    Calls Try.prog 28 #[.agg #[.int .i64 n, v]] w fun e w' => ∃ A' cap', e = .returned (.tuple #[.slice A' (pivotC n bs).length cap', .int .i64 0]) ∧
      w'.ownsRow w.heap.size 3 1 (.slice A' (pivotC n bs).length cap') (pivotC n bs).length (ints (pivotC n bs)) ∧ Below w.heap.size w w' := by
  obtain ⟨vs, ⟨_, A, cap, rfl, _⟩, _⟩ := id hl
  have HB := Lib.hid hl
  have HI := Lib.hid hi
  have hl32 := (instE_zero hi).2.2.1
  clear hl hi
  go_enter Try.func28, Try.ntmps28
  go_wp2_with (go_at_call 84; refine (lost_ok n bs _ R _ (HB.out.alloc _) HI.out).mono ?_; rintro e w1 ⟨AC, cC, b5, b1, b2, mm, rfl, hown1, hlo1, hmm1, hb1⟩; have hX := (one_blk' hb1).1; have x1 := fun o => (hX.alloc o).cell 1; simp at x1; have HX := Lib.hid hX; have HL1 := Lib.hid hlo1; have HB1 := Lib.hid (one_blk' hb1).2.2; have hs1 := (one_blk' hb1).2.1; simp at hmm1; clear hown1 hlo1 hb1 hX)
  have hlt5 := World.block_lt_of_cell? _ _ HL1.out.c5
  have hltb := World.block_lt_of_cell? _ _ HL1.out.x0
  have hltc := World.block_lt_of_cell? _ _ HL1.out.w1
  have hltm := HL1.out.map.lt
  simp only at hlt5 hltb hltc
  clear x1
  go_loopw [7, 21] (fun s i wr => ∃ (k m : Nat) (A' : Option Addr) (cap' : Nat), k ≤ bs.length ∧ i = .int .i64 k ∧ m = (pivotTo n bs k).length ∧ s = .slice A' m cap' ∧ LostAt wr (w.heap.size + 1) b5 b1 b2 mm n (.slice A bs.length cap) bs ∧
      wr.ownsRow (w1.heap.size + 1) 3 1 (.slice A' m cap') m (ints (pivotTo n bs k)) ∧ Below w.heap.size w wr ∧ w1.heap.size + 1 ≤ wr.heap.size)
    (fun _ i _ => bs.length - (intOf i).toNat)
  case atStart =>
    refine ⟨0, 0, none, 0, Nat.zero_le _, rfl, rfl, rfl, ?_, World.ownsRow_nil _ _ _ _, HB1.out.alloc (by omega) _, by simp⟩
    simpa using HL1.out.alloc _
  case round =>
    obtain ⟨k, m, A', cap', hk, rfl, hm, rfl, hlo, hown, hbw, hsz⟩ := hrel
    have hml : m ≤ k := by rw [hm]; exact pivotTo_len n bs k
    have HM := Lib.hid hm
    have HLO := Lib.hid hlo
    have HO := Lib.hid hown
    have HBW := Lib.hid hbw
    by_cases hlt : k < bs.length
    · clear hlo hown hbw hm
      by_cases hg : 0 < W bs (allOf n) - woW n bs k
      · have HG := Lib.hid hg
        go_wp2_with (first
          | (go_at_call 118; refine (each_any _ b5 b1 b2 mm n _ bs k hlt _ HLO.out).mono ?_; rintro e w5 ⟨rfl, hl5, hg5⟩; have hsz5 : w1.heap.size + 1 ≤ w5.heap.size := Nat.le_trans hsz hg5.size; have HL5 := Lib.hid hl5; have HO5 := Lib.hid (own_far HO.out hg5 (fun g e => by injection e with e; subst e; exact own_ne_map HO.out HLO.out.map)); have HB5 := Lib.hid (HBW.out.grown hg5 (by have := HBW.out.size; simpa using this) (fun g e => by injection e with e; omega)); clear hl5 hg5)
          | (at_builtin; refine wpList_app _ rfl (.tmp 28) (.tmp 30) et_int rfl (w1.heap.size + 1) (.slice A' m cap') m (ints (pivotTo n bs k)) rfl (HO5.out.alloc _) _ _ 1 _ rfl (Sl.new w5 #[.int .i64 (k : Nat)] _ 1 1 (by unfold maxLen; omega) rfl) (by simp [Value.oneCell']) (by omega) (by unfold maxLen; omega) (by simp; omega) ?_; intro A3 cap3 w3 hown3 hg3 hloc3; have HG3 := Lib.hid hg3; have HO3 := Lib.hid hown3; clear hg3 hown3 hloc3))
        go_roundw
        case rel =>
          have hro : ∀ g, (Value.slice A' m cap').ownBlock = some g → w1.heap.size + 1 ≤ g := fun g e => (HO5.out.lt g e).1
          have hs3 := HG3.out.size
          simp at hs3
          refine ⟨k + 1, m + 1, A3, cap3, by omega, by go_num, by rw [pivotTo_yes HG.out, HM.out]; simp, rfl, (HL5.out.alloc _).far HG3.out (fun g e => by have := hro g e; omega), ?_, (HB5.out.alloc (by omega) _).grown HG3.out (by simp; omega) (fun g e => by have := hro g e; omega), by omega⟩
          have := HO3.out
          rw [pivotTo_yes HG.out]
          simpa [ints] using this
        case measure => simp [intOf]; omega
      · have HG := Lib.hid hg
        have hg' : W bs (allOf n) - woW n bs k ≤ 0 := by omega
        clear hg
        go_wp2_with (go_at_call 118; refine (each_any _ b5 b1 b2 mm n _ bs k hlt _ HLO.out).mono ?_; rintro e w5 ⟨rfl, hl5, hg5⟩; have hsz5 : w1.heap.size + 1 ≤ w5.heap.size := Nat.le_trans hsz hg5.size; have HL5 := Lib.hid hl5; have HO5 := Lib.hid (own_far HO.out hg5 (fun g e => by injection e with e; subst e; exact own_ne_map HO.out HLO.out.map)); have HB5 := Lib.hid (HBW.out.grown hg5 (by have := HBW.out.size; simpa using this) (fun g e => by injection e with e; omega)); clear hl5 hg5)
        go_roundw
        case rel =>
          have hno : ¬ 0 < gainAt n bs k := by have := HG.out; unfold gainAt; omega
          refine ⟨k + 1, m, A', cap', by omega, by go_num, by rw [pivotTo_no hno]; exact HM.out, rfl, HL5.out, ?_, HB5.out, by omega⟩
          rw [pivotTo_no hno]
          exact HO5.out
        case measure => simp [intOf]; omega
    · obtain rfl : k = bs.length := by omega
      have hm' : m = (pivotC n bs).length := hm
      have HM' := Lib.hid hm'
      clear hlo hown hbw hm hm'
      go_wp2_with fail
      go_ret2
      have h := HO.out
      rw [HM'.out] at h
      exact ⟨A', cap', by rw [← HM'.out]; rfl, own_mono h (by omega), HBW.out⟩

set_option maxHeartbeats 800000 in
theorem pivotal_err (n : Int) (bs : List (List Off)) (v : Value) (R : Nat → Prop) (w : World) (hl : Buys w R v bs) (hi : instE n bs ≠ 0) :
    Calls Try.prog 28 #[.agg #[.int .i64 n, v]] w fun e w' => e = .returned (.tuple #[.slice none 0 0, .int .i64 (instE n bs)]) ∧ Below w.heap.size w w' := by
  obtain ⟨vs, ⟨_, A, cap, rfl, _⟩, _⟩ := id hl
  have HB := Lib.hid hl
  have hcb : (instE n bs != 0) = true := by simpa using hi
  have HI := Lib.hid hi
  clear hl hi
  go_enter Try.func28, Try.ntmps28
  go_wp2_with (go_at_call 84; refine (lost_err n bs _ R _ (HB.out.alloc _) HI.out).mono ?_; rintro e w1 ⟨rfl, hb1⟩; have HB1 := Lib.hid (one_blk' hb1).2.2; clear hb1)
  go_ret2
  exact ⟨rfl, HB1.out.alloc HB1.out.size _⟩
end Go.Proofs.Ytcigobiolbojhaa.Vb

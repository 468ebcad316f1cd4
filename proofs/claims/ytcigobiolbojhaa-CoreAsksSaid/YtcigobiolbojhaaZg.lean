/- Joined by program: Core2 Core3 Core4 Core5 RefBids. -/
import Derived.Test.YtcigobiolbojhaaZf
/- What is won, as it lies in memory; core.of. -/
namespace Go.Proofs.Ytcigobiolbojhaa.Vb
open Go.RowKit

/-- What winners bid. -/
def bidsC (n : Int) (bs : List (List Off)) : List Int := (bestC n bs).mapIdx fun i c => coinAt bs i c
/-- Who wins, of a choice. -/
def winB (cs : List Int) (i : Nat) : Bool := match cs[i]? with | some c => decide (0 ≤ c) | none => false
def winsL (cs : List Int) : List Bool := (List.range 32).map (winB cs)
def wonL (n : Int) (v : Value) (ws : List Bool) (sl : Value) : List Value := .int .i64 n :: v :: (ws.map Value.bool ++ [sl])
theorem wonL_0 (n : Int) (v : Value) (ws : List Bool) (sl : Value) : (wonL n v ws sl).toArray[0]? = some (.int .i64 n) := rfl
theorem wonL_1 (n : Int) (v : Value) (ws : List Bool) (sl : Value) : (wonL n v ws sl).toArray[1]? = some v := rfl
theorem wonL_bid (n : Int) (v : Value) (ws : List Bool) (sl : Value) (h : ws.length = 32) : (wonL n v ws sl).toArray[34]? = some sl := by
  simp [wonL, List.getElem?_append, h]
theorem wonL_win (n : Int) (v : Value) (ws : List Bool) (sl : Value) (i : Nat) (b : Bool) (h : ws[i]? = some b) : (wonL n v ws sl).toArray[2 + i]? = some (.bool b) := by
  have hi := (List.getElem?_eq_some_iff.mp h).1
  rw [show 2 + i = i + 1 + 1 from by omega]
  simp [wonL, List.getElem?_append, hi]
  exact (List.getElem?_eq_some_iff.mp h).2
theorem wonL_set (n : Int) (v : Value) (ws : List Bool) (sl : Value) (i : Nat) (b : Bool) (h : i < ws.length) : (wonL n v ws sl).toArray.setIfInBounds (2 + i) (.bool b) = (wonL n v (ws.set i b) sl).toArray := by
  rw [show 2 + i = i + 1 + 1 from by omega]
  simp [wonL, List.set_append, h]
theorem winsL_len (cs : List Int) : (winsL cs).length = 32 := by simp [winsL]
theorem winsL_get (cs : List Int) {i : Nat} (h : i < 32) : (winsL cs)[i]? = some (winB cs i) := by simp [winsL, h]
theorem winsL_nil : winsL [] = List.replicate 32 false := by rfl
theorem winsL_take_neg {cs : List Int} {k : Nat} {c : Int} (h : cs[k]? = some c) (hc : c < 0) : winsL (cs.take (k + 1)) = winsL (cs.take k) := by
  unfold winsL
  apply List.map_congr_left
  intro i _
  unfold winB
  by_cases hk : i = k
  · subst hk
    rw [List.getElem?_take_of_lt (by omega), h, List.getElem?_eq_none (by simp; omega)]
    simp; omega
  · by_cases hi : i < k
    · rw [List.getElem?_take_of_lt (by omega), List.getElem?_take_of_lt hi]
    · rw [List.getElem?_eq_none (by simp; omega), List.getElem?_eq_none (by simp; omega)]
theorem winsL_take_pos {cs : List Int} {k : Nat} {c : Int} (h : cs[k]? = some c) (hc : 0 ≤ c) : winsL (cs.take (k + 1)) = (winsL (cs.take k)).set k true := by
  apply List.ext_getElem?
  intro i
  by_cases hi : i < 32
  · rw [winsL_get _ hi]
    by_cases hk : k = i
    · subst hk
      rw [List.getElem?_set_self (by rw [winsL_len]; omega)]
      unfold winB
      rw [List.getElem?_take_of_lt (by omega), h]
      simp [hc]
    · rw [List.getElem?_set_ne hk, winsL_get _ hi]
      unfold winB
      by_cases hik : i < k
      · rw [List.getElem?_take_of_lt (by omega), List.getElem?_take_of_lt hik]
      · rw [List.getElem?_eq_none (by simp; omega), List.getElem?_eq_none (by simp; omega)]
  · rw [List.getElem?_eq_none (by rw [winsL_len]; omega), List.getElem?_eq_none (by simp [winsL_len]; omega)]
theorem bidsC_length (n : Int) (bs : List (List Off)) : (bidsC n bs).length = bs.length := by simp [bidsC, bestC, choose_length]
theorem bidsC_get {n : Int} {bs : List (List Off)} {i : Nat} {c : Int} (h : (bestC n bs)[i]? = some c) : (bidsC n bs)[i]? = some (coinAt bs i c) := by simp [bidsC, h]

/-- The bids of the first k; behind them noughts. -/
def bidA (n : Int) (bs : List (List Off)) (k : Nat) : List Int := (bidsC n bs).take k ++ List.replicate (bs.length - k) 0
theorem bidA_len {n : Int} {bs : List (List Off)} {k : Nat} (h : k ≤ bs.length) : (bidA n bs k).length = bs.length := by
  unfold bidA
  rw [List.length_append, List.length_take, bidsC_length, List.length_replicate]
  omega
theorem bidA_all (n : Int) (bs : List (List Off)) : bidA n bs bs.length = bidsC n bs := by
  unfold bidA
  rw [Nat.sub_self, List.replicate_zero, List.append_nil, List.take_of_length_le (by rw [bidsC_length]; omega)]
theorem bidA_set {n : Int} {bs : List (List Off)} {k : Nat} {c : Int} (hk : k < bs.length) (h : (bidsC n bs)[k]? = some c) : (bidA n bs k).set k c = bidA n bs (k + 1) := by
  have hl : ((bidsC n bs).take k).length = k := by rw [List.length_take, bidsC_length]; omega
  unfold bidA
  rw [List.set_append_right _ _ (by omega), hl, Nat.sub_self, show bs.length - k = (bs.length - (k + 1)) + 1 from by omega, List.replicate_succ, List.set_cons_zero, List.take_add_one, h]
  simp
theorem bidA_same {n : Int} {bs : List (List Off)} {k : Nat} (hk : k < bs.length) (h : (bidsC n bs)[k]? = some 0) : bidA n bs (k + 1) = bidA n bs k := by
  rw [← bidA_set hk h]
  have hl : ((bidsC n bs).take k).length = k := by rw [List.length_take, bidsC_length]; omega
  unfold bidA
  rw [List.set_append_right _ _ (by omega), hl, Nat.sub_self, show bs.length - k = (bs.length - (k + 1)) + 1 from by omega, List.replicate_succ, List.set_cons_zero]
theorem own_of_blk {w : World} {base g n : Nat} {e : TypeId} {l : List Int} (h : Blk w g e (ints l).toArray) (hg : base ≤ g) (hn : l.length = n) (hm : n ≤ maxLen) : w.ownsRow base e 1 (.slice (some ⟨g, 0, none⟩) n n) n (ints l) :=
  ⟨by simp [ints, hn], .inr ⟨g, n, _, rfl, hg, h, Nat.le_refl _, hm, by simp [ints, hn], by rw [Nat.mul_one]; exact List.take_of_length_le (by simp [ints, hn])⟩⟩
theorem ints_set {l : List Int} {k : Nat} {c : Int} : (ints l).toArray.setIfInBounds k (.int .i64 c) = (ints (l.set k c)).toArray := by simp [ints, List.map_set]
theorem ints_made (n : Nat) : madeCells #[.int .i64 0] n = (ints (List.replicate n 0)).toArray := by
  apply Array.ext
  · simp [madeCells, ints]
  · intro i h1 h2
    simp [madeCells, ints, Nat.mod_one]
theorem wonL_start (n : Int) (v sl : Value) : (wonL n v (winsL []) sl).toArray = #[.int .i64 n, v, .bool false, .bool false, .bool false, .bool false, .bool false, .bool false, .bool false, .bool false, .bool false, .bool false, .bool false, .bool false, .bool false, .bool false, .bool false, .bool false, .bool false, .bool false, .bool false, .bool false, .bool false, .bool false, .bool false, .bool false, .bool false, .bool false, .bool false, .bool false, .bool false, .bool false, .bool false, .bool false, sl] := rfl

/-- The pointer g is to what is won of the instance (n, v): its bids lie in blocks from lo on. -/
def WonAt (w : World) (lo g : Nat) (n : Int) (v : Value) (bs : List (List Off)) (A : Option Addr) (cap : Nat) : Prop :=
  lo ≤ g ∧ Blk w g 158 (wonL n v (winsL (bestC n bs)) (.slice A bs.length cap)).toArray ∧ w.ownsRow lo 2 1 (.slice A bs.length cap) bs.length (ints (bidsC n bs))

theorem of_err (n : Int) (bs : List (List Off)) (v : Value) (R : Nat → Prop) (w : World) (hl : Buys w R v bs) (hi : instE n bs ≠ 0) :
    Calls Try.prog 93 #[.agg #[.int .i64 n, v]] w fun e w' => e = .returned (.tuple #[.pointer none, .int .i64 (instE n bs)]) ∧ Below w.heap.size w w' := by
  obtain ⟨vs, ⟨_, A, cap, rfl, _⟩, _⟩ := id hl
  have HB := Lib.hid hl
  have HI := Lib.hid hi
  have hne : (instE n bs != 0) = true := by simp [hi]
  clear hl hi
  go_enter Try.func93, Try.ntmps93
  go_wp2_with (go_at_call 31; refine (best_err n bs _ R _ (HB.out.alloc _) HI.out).mono ?_; rintro e w1 ⟨rfl, hb1⟩; have HB1 := Lib.hid (((Below.refl w.heap.size w).alloc (Nat.le_refl _) _).trans (hb1.mono (by simp))); clear hb1)
  refine bodyPost_ret (v := .tuple #[.pointer none, .int .i64 (instE n bs)]) (by simp [results, Try.results93, go_sem]) rfl ⟨rfl, ?_⟩
  exact HB1.out.alloc (HB1.out.size) _

set_option maxRecDepth 100000 in
set_option maxHeartbeats 1600000 in
theorem of_ok (n : Int) (bs : List (List Off)) (v : Value) (R : Nat → Prop) (w : World) (hl : Buys w R v bs) (hi : instE n bs = 0) :
    Calls Try.prog 93 #[.agg #[.int .i64 n, v]] w fun e w' => ∃ g A cap, e = .returned (.tuple #[.pointer (some ⟨g, 0, none⟩), .int .i64 0]) ∧ WonAt w' w.heap.size g n v bs A cap ∧ Below w.heap.size w w' := by
  obtain ⟨vs, ⟨_, A, cap, rfl, _⟩, _⟩ := id hl
  have HB := Lib.hid hl
  have HI := Lib.hid hi
  have hl32 := (instE_zero hi).2.2.1
  clear hl hi
  go_enter Try.func93, Try.ntmps93
  go_wp2_with (go_at_call 31; refine (best_ok n bs _ R _ (HB.out.alloc _) HI.out).mono ?_; rintro e w1 ⟨AC, cC, rfl, hown, hb1⟩; have HO := Lib.hid hown; have hX := (one_blk' hb1).1; have HX := Lib.hid hX; have HB1 := Lib.hid (one_blk' hb1).2.2; have hs1 := (one_blk' hb1).2.1; clear hb1 hown hX)
  obtain ⟨W1, hW1⟩ : ∃ W1, W1 = w1.alloc (.cells #[.slice AC bs.length cC, .int .i64 (W bs (allOf n))] 66) := ⟨_, rfl⟩
  have HX1 := Lib.hid (show Blk W1 w.heap.size _ _ from by rw [hW1]; exact HX.out.alloc _)
  have HC1 := Lib.hid (show Blk W1 w1.heap.size 66 #[.slice AC bs.length cC, .int .i64 (W bs (allOf n))] from by rw [hW1]; exact Blk.new w1 _ _)
  have HO1 := Lib.hid (show W1.ownsRow _ _ _ _ _ _ from by rw [hW1]; exact own_alloc HO.out _)
  have HBW1 := Lib.hid (show Below w.heap.size w W1 from by rw [hW1]; exact HB1.out.alloc (by omega) _)
  have HBX1 := Lib.hid (show Below w1.heap.size w1 W1 from by rw [hW1]; exact (Below.refl _ _).alloc (Nat.le_refl _) _)
  have hsW : W1.heap.size = w1.heap.size + 1 := by rw [hW1]; simp
  rw [← hW1]
  clear hW1
  have x0 : W1.cell? ⟨w.heap.size, 0, none⟩ = some (.int .i64 n) := HX1.out.cell 0
  have x1 : W1.cell? ⟨w.heap.size, 1, none⟩ = some (.slice A bs.length cap) := HX1.out.cell 1
  have hmk : ∀ V : World, (Instr.makeSlice 34 (.int .i64 (bs.length : Int)) (.int .i64 (bs.length : Int))).run Try.prog V = .ok (.slice (some ⟨V.heap.size, 0, none⟩) bs.length bs.length) (V.alloc (.cells (madeCells #[.int .i64 0] bs.length) 2)) := fun V =>
    run_make_row' (P := Try.prog) 34 2 (.int .i64 0) 8 Try.underlying34 (by kernel_rfl) rfl .i64 .i64 bs.length (by omega) (by omega) V
  refine wp_region_F (Below W1.heap.size W1) [] (by kernel_rfl) ((Below.refl _ _).drew) (fun hS => ?_)
  refine wpAnyF_take (i := 0) (oi := { dst := some 17, op := Go.Op.load 24 (Go.Operand.tmp 1), type := 24, pos := "core.go:24", after := #[], guard := none }) (v := ?_) rfl (by kernel_rfl) (by kernel_rfl) (by kernel_rfl) (by kernel_rfl) (fun _ _ _ h => h) (Or.inl ⟨by rfl, ?_⟩) hS ?_
  rotate_left
  · intro w' hSw; have q1 := (hSw.cell (p := ⟨w.heap.size, 0, none⟩) (by simp <;> omega)).trans x0; have q2 := (hSw.cell (p := ⟨w.heap.size, 1, none⟩) (by simp <;> omega)).trans x1; go_simp; try with_reducible rfl
  try simp only [Act.put, List.setIfInBounds_toArray, List.set_cons_zero, List.set_cons_succ]
  refine wpAnyF_take (i := 1) (oi := { dst := some 18, op := Go.Op.fieldAddr 24 (Go.Operand.tmp 1) 1, type := 0, pos := "core.go:24", after := #[], guard := none }) (v := ?_) rfl (by kernel_rfl) (by kernel_rfl) (by kernel_rfl) (by kernel_rfl) (fun _ _ _ h => h) (Or.inl ⟨by rfl, ?_⟩) hS ?_
  rotate_left
  · intro w' hSw; have q1 := (hSw.cell (p := ⟨w.heap.size, 0, none⟩) (by simp <;> omega)).trans x0; have q2 := (hSw.cell (p := ⟨w.heap.size, 1, none⟩) (by simp <;> omega)).trans x1; go_simp; try with_reducible rfl
  try simp only [Act.put, List.setIfInBounds_toArray, List.set_cons_zero, List.set_cons_succ]
  refine wpAnyF_take (i := 2) (oi := { dst := some 19, op := Go.Op.load 22 (Go.Operand.tmp 18), type := 22, pos := "core.go:24", after := #[{ on := 1, ground := Go.Ground.data }], guard := none }) (v := ?_) rfl (by kernel_rfl) (by kernel_rfl) (by kernel_rfl) (by kernel_rfl) (fun _ _ _ h => h) (Or.inl ⟨by rfl, ?_⟩) hS ?_
  rotate_left
  · intro w' hSw; have q1 := (hSw.cell (p := ⟨w.heap.size, 0, none⟩) (by simp <;> omega)).trans x0; have q2 := (hSw.cell (p := ⟨w.heap.size, 1, none⟩) (by simp <;> omega)).trans x1; go_simp; try with_reducible rfl
  try simp only [Act.put, List.setIfInBounds_toArray, List.set_cons_zero, List.set_cons_succ]
  refine wpAnyF_take (i := 3) (oi := { dst := some 20, op := Go.Op.call { callee := Go.Callee.builtin Go.Builtin.len, args := #[Go.Operand.tmp 19], argTypes := #[22] }, type := 3, pos := "core.go:24", after := #[{ on := 2, ground := Go.Ground.data }], guard := none }) (v := ?_) rfl (by kernel_rfl) (by kernel_rfl) (by kernel_rfl) (by kernel_rfl) (fun _ _ _ h => h) (Or.inl ⟨by rfl, ?_⟩) hS ?_
  rotate_left
  · intro w' hSw; have q1 := (hSw.cell (p := ⟨w.heap.size, 0, none⟩) (by simp <;> omega)).trans x0; have q2 := (hSw.cell (p := ⟨w.heap.size, 1, none⟩) (by simp <;> omega)).trans x1; go_simp; try with_reducible rfl
  try simp only [Act.put, List.setIfInBounds_toArray, List.set_cons_zero, List.set_cons_succ]
  refine wpAnyF_ready (rs := [4]) (by kernel_rfl) (by simp) ?_
  refine AllReadyF.cons (o := { dst := some 21, op := Go.Op.makeSlice 34 (Go.Operand.tmp 20) (Go.Operand.tmp 20), type := 34, pos := "core.go:24", after := #[{ on := 3, ground := Go.Ground.data }, { on := 3, ground := Go.Ground.data }], guard := none }) rfl (by rfl) (fun K hK => ?_) ?_
  · go_simp
    refine hK.out _ _ ?_ (fun hS => ?_)
    · exact hS.alloc hS.size _
    clear hK K
    try simp only [Act.put, List.setIfInBounds_toArray, List.set_cons_zero, List.set_cons_succ]
    refine wpAnyF_take (i := 5) (oi := { dst := some 22, op := Go.Op.build 158 #[(0, Go.Operand.tmp 17), (2, Go.Operand.tmp 21)], type := 158, pos := "core.go:24", after := #[{ on := 0, ground := Go.Ground.data }, { on := 4, ground := Go.Ground.data }], guard := none }) (v := ?_) rfl (by kernel_rfl) (by kernel_rfl) (by kernel_rfl) (by kernel_rfl) (fun _ _ _ h => h) (Or.inl ⟨by rfl, ?_⟩) hS ?_
    rotate_left
    · intro w' hSw; have q1 := (hSw.cell (p := ⟨w.heap.size, 0, none⟩) (by simp <;> omega)).trans x0; have q2 := (hSw.cell (p := ⟨w.heap.size, 1, none⟩) (by simp <;> omega)).trans x1; go_simp; try with_reducible rfl
    try simp only [Act.put, List.setIfInBounds_toArray, List.set_cons_zero, List.set_cons_succ]
    refine wpAnyF_ready (rs := [6]) (by kernel_rfl) (by simp) ?_
    refine AllReadyF.cons (o := { dst := some 23, op := Go.Op.box 158 (Go.Operand.tmp 22), type := 153, pos := "core.go:24", after := #[{ on := 5, ground := Go.Ground.data }], guard := none }) rfl (by rfl) (fun K hK => ?_) ?_
    · go_simp
      refine hK.out _ _ ?_ (fun hS => ?_)
      · exact hS.alloc hS.size _
      clear hK K
      try simp only [Act.put, List.setIfInBounds_toArray, List.set_cons_zero, List.set_cons_succ]
      refine wpAnyF_take (i := 7) (oi := { dst := some 6, op := Go.Op.assign (Go.Operand.tmp 23), type := 153, pos := "core.go:24", after := #[{ on := 6, ground := Go.Ground.data }, { on := 0, ground := Go.Ground.phase }, { on := 1, ground := Go.Ground.phase }, { on := 2, ground := Go.Ground.phase }, { on := 3, ground := Go.Ground.phase }, { on := 4, ground := Go.Ground.phase }, { on := 5, ground := Go.Ground.phase }, { on := 6, ground := Go.Ground.phase }], guard := none }) (v := ?_) rfl (by kernel_rfl) (by kernel_rfl) (by kernel_rfl) (by kernel_rfl) (fun _ _ _ h => h) (Or.inl ⟨by rfl, ?_⟩) hS ?_
      rotate_left
      · intro w' hSw; have q1 := (hSw.cell (p := ⟨w.heap.size, 0, none⟩) (by simp <;> omega)).trans x0; have q2 := (hSw.cell (p := ⟨w.heap.size, 1, none⟩) (by simp <;> omega)).trans x1; go_simp; try with_reducible rfl
      try simp only [Act.put, List.setIfInBounds_toArray, List.set_cons_zero, List.set_cons_succ]
      refine wpAnyF_done (by kernel_rfl) ?_ _
      obtain ⟨W2, hW2⟩ : ∃ W2, W2 = ((W1.alloc (Obj.cells (madeCells #[.int .i64 0] bs.length) 2)).alloc (Obj.cells #[.int .i64 n, .slice A bs.length cap, .bool false, .bool false, .bool false, .bool false, .bool false, .bool false, .bool false, .bool false, .bool false, .bool false, .bool false, .bool false, .bool false, .bool false, .bool false, .bool false, .bool false, .bool false, .bool false, .bool false, .bool false, .bool false, .bool false, .bool false, .bool false, .bool false, .bool false, .bool false, .bool false, .bool false, .bool false, .bool false, .slice (some ⟨w1.heap.size + 1, 0, none⟩) bs.length bs.length] 158)).drew := ⟨_, rfl⟩
      rw [← hW2]
      have hs1b := hsW
      have HG := Lib.hid (show Blk W2 (w1.heap.size + 1) 2 (ints (bidA n bs 0)).toArray from by
        rw [hW2, show bidA n bs 0 = List.replicate bs.length 0 from by simp [bidA], ← ints_made]
        exact (((Blk.new' _ _ hsW).alloc _).drew))
      have HWN := Lib.hid (show Blk W2 (w1.heap.size + 2) 158 (wonL n (.slice A bs.length cap) (winsL ((bestC n bs).take 0)) (.slice (some ⟨w1.heap.size + 1, 0, none⟩) bs.length bs.length)).toArray from by
        rw [hW2, List.take_zero, wonL_start]
        exact (Blk.new' _ _ (by simp [hsW])).drew)
      have HB2 := Lib.hid (show Below W1.heap.size W1 W2 from by rw [hW2]; exact (((Below.refl _ _).alloc (Nat.le_refl _) _).alloc (by simp) _).drew)
      have hs2 : W1.heap.size + 2 ≤ W2.heap.size := by rw [hW2]; simp [World.drew]
      have HC2 := Lib.hid (HC1.out.grow HB2.out)
      have c00 : W2.cell? ⟨w1.heap.size, 0, none⟩ = some (.slice AC bs.length cC) := HC2.out.cell 0
      clear hW2 hmk hS
      go_wp2_with fail
      go_loopw [27] (fun i wr => ∃ k : Nat, k ≤ bs.length ∧ i = .int .i64 k ∧ Blk wr (w1.heap.size + 1) 2 (ints (bidA n bs k)).toArray ∧
          Blk wr (w1.heap.size + 2) 158 (wonL n (.slice A bs.length cap) (winsL ((bestC n bs).take k)) (.slice (some ⟨w1.heap.size + 1, 0, none⟩) bs.length bs.length)).toArray ∧ Below (w1.heap.size + 1) W2 wr)
        (fun i _ => bs.length - (intOf i).toNat)
      case atStart => exact ⟨0, Nat.zero_le _, rfl, HG.out, HWN.out, Below.refl _ _⟩
      case round =>
        obtain ⟨k, hk, rfl, hG, hN, hb⟩ := hrel
        have HG3 := Lib.hid hG
        have HN3 := Lib.hid hN
        have HB3 := Lib.hid hb
        clear hG hN hb
        by_cases hlt : k < bs.length
        · obtain ⟨c, hc⟩ : ∃ c, (bestC n bs)[k]? = some c := ⟨_, List.getElem?_eq_getElem (by rw [bestC, choose_length]; exact hlt)⟩
          have hbg := bidsC_get hc
          have hbx : Below w1.heap.size w1 wr := HBX1.out.trans ((HB2.out.mono (by omega)).trans (HB3.out.mono (by omega)))
          have hbw := HB1.out.trans (hbx.mono (B' := w.heap.size) (by omega))
          obtain ⟨gC, offC, c', hAC, hgC, hc', cc⟩ := (Sl.of_own HO.out).int_at hlt
          obtain rfl : c = c' := by rw [hc] at hc'; injection hc'
          subst hAC
          have cC := (hbx.cell (p := ⟨gC, offC + k, none⟩) hgC).trans cc
          have HBG := Lib.hid hbg
          have HC := Lib.hid hc
          have HBX := Lib.hid hbx
          have HBW := Lib.hid hbw
          clear hbg hbx hbw cc hc'
          rcases choose_get bs (allOf n) k c hc with rfl | ⟨j, l, o, rfl, hl, ho⟩
          · have hc0 : ((-1 : Int) ≥ 0) = False := by simp
            clear hc
            go_wp2
            go_roundw
            case rel =>
              refine ⟨k + 1, by omega, by go_num, ?_, ?_, HB3.out⟩
              · rw [bidA_same hlt HBG.out]
                exact HG3.out
              · rw [winsL_take_neg HC.out (by omega)]
                exact HN3.out
            case measure => simp [intOf]; omega
          · clear hc
            obtain ⟨vs', ⟨_, A', cap', hv, _, _, hcs⟩, hvs⟩ := HB.out
            injection hv with hv1 _ hv2
            subst hv1 hv2
            obtain ⟨bq, off, rfl, _, hbq, hcell⟩ := hcs (by omega)
            obtain ⟨u, hu, hoff⟩ := hvs k l hl
            have HL := Lib.hid hl
            have HOj := Lib.hid ho
            have hjl := (List.getElem?_eq_some_iff.mp ho).1
            obtain ⟨⟨_, A1, cap1, rfl, _⟩, _⟩ := id hoff
            obtain ⟨b2, off2, rfl, hb2, _, o1⟩ := hoff.at_ ho
            have d0 := (HBW.out.cell (p := ⟨bq, off + k, none⟩) hbq).trans (hcell _ _ hu)
            have d1 := (HBW.out.cell (p := ⟨b2, off2 + j * 2 + 1, none⟩) hb2).trans o1
            have x1' : wr.cell? ⟨w.heap.size, 1, none⟩ = some (.slice (some ⟨bq, off, none⟩) bs.length cap) := (HX.out.below HBX.out (by omega)).cell 1
            have hszr : w1.heap.size + 3 ≤ wr.heap.size := by have := HN3.out.lt; omega
            have e1 : (0 : Int) ≤ (k : Int) := by omega
            have e2 : (k : Int) < (bs.length : Int) := by omega
            have e3 : (k : Int) < 32 := by omega
            have e4 : (0 : Int) ≤ (j : Int) := by omega
            have e5 : (j : Int) < (l.length : Int) := by omega
            clear hl ho hu hoff o1 hcell hvs hcs
            go_wp2_with fail
            refine wp_region_F (fun V => Below (w1.heap.size + 1) wr V ∧ (∃ ws : List Bool, ws.length = 32 ∧ Blk V (w1.heap.size + 2) 158 (wonL n (.slice (some ⟨bq, off, none⟩) bs.length cap) ws (.slice (some ⟨w1.heap.size + 1, 0, none⟩) bs.length bs.length)).toArray) ∧ ∃ ps : List Int, ps.length = bs.length ∧ Blk V (w1.heap.size + 1) 2 (ints ps).toArray) [] (by kernel_rfl) ⟨(Below.refl _ _).drew, ⟨_, winsL_len _, HN3.out.drew⟩, _, bidA_len (by omega), HG3.out.drew⟩ (fun hS => ?_)
            refine wpAnyF_take (i := 0) (oi := { dst := some 34, op := Go.Op.move (Go.Operand.tmp 6), type := 153, pos := "core.go:27", after := #[], guard := none }) (v := ?_) rfl (by kernel_rfl) (by kernel_rfl) (by kernel_rfl) (by kernel_rfl) (fun _ _ _ h => h) (Or.inl ⟨by rfl, ?_⟩) hS ?_
            rotate_left
            · intro w' hSw; obtain ⟨hSb, ⟨ws, hwl, hSn⟩, _⟩ := hSw; have q1 := (hSb.cell (p := ⟨w.heap.size, 1, none⟩) (by simp <;> omega)).trans x1'; have q2 := (hSn.cell 34).trans (wonL_bid _ _ _ _ hwl); have q3 := (hSb.cell (p := ⟨bq, off + k, none⟩) (by simp <;> omega)).trans d0; have q4 := (hSb.cell (p := ⟨b2, off2 + j * 2 + 1, none⟩) (by simp <;> omega)).trans d1; go_simp; try with_reducible rfl
            try simp only [Act.put, List.setIfInBounds_toArray, List.set_cons_zero, List.set_cons_succ]
            refine wpAnyF_take (i := 1) (oi := { dst := some 35, op := Go.Op.move (Go.Operand.tmp 7), type := 3, pos := "core.go:27", after := #[], guard := none }) (v := ?_) rfl (by kernel_rfl) (by kernel_rfl) (by kernel_rfl) (by kernel_rfl) (fun _ _ _ h => h) (Or.inl ⟨by rfl, ?_⟩) hS ?_
            rotate_left
            · intro w' hSw; obtain ⟨hSb, ⟨ws, hwl, hSn⟩, _⟩ := hSw; have q1 := (hSb.cell (p := ⟨w.heap.size, 1, none⟩) (by simp <;> omega)).trans x1'; have q2 := (hSn.cell 34).trans (wonL_bid _ _ _ _ hwl); have q3 := (hSb.cell (p := ⟨bq, off + k, none⟩) (by simp <;> omega)).trans d0; have q4 := (hSb.cell (p := ⟨b2, off2 + j * 2 + 1, none⟩) (by simp <;> omega)).trans d1; go_simp; try with_reducible rfl
            try simp only [Act.put, List.setIfInBounds_toArray, List.set_cons_zero, List.set_cons_succ]
            refine wpAnyF_take (i := 2) (oi := { dst := some 36, op := Go.Op.move (Go.Operand.tmp 6), type := 153, pos := "core.go:27", after := #[], guard := none }) (v := ?_) rfl (by kernel_rfl) (by kernel_rfl) (by kernel_rfl) (by kernel_rfl) (fun _ _ _ h => h) (Or.inl ⟨by rfl, ?_⟩) hS ?_
            rotate_left
            · intro w' hSw; obtain ⟨hSb, ⟨ws, hwl, hSn⟩, _⟩ := hSw; have q1 := (hSb.cell (p := ⟨w.heap.size, 1, none⟩) (by simp <;> omega)).trans x1'; have q2 := (hSn.cell 34).trans (wonL_bid _ _ _ _ hwl); have q3 := (hSb.cell (p := ⟨bq, off + k, none⟩) (by simp <;> omega)).trans d0; have q4 := (hSb.cell (p := ⟨b2, off2 + j * 2 + 1, none⟩) (by simp <;> omega)).trans d1; go_simp; try with_reducible rfl
            try simp only [Act.put, List.setIfInBounds_toArray, List.set_cons_zero, List.set_cons_succ]
            refine wpAnyF_take (i := 3) (oi := { dst := some 37, op := Go.Op.nilCheck (Go.Operand.tmp 36), type := 0, pos := "core.go:27", after := #[{ on := 2, ground := Go.Ground.data }], guard := none }) (v := ?_) rfl (by kernel_rfl) (by kernel_rfl) (by kernel_rfl) (by kernel_rfl) (fun _ _ _ h => h) (Or.inl ⟨by rfl, ?_⟩) hS ?_
            rotate_left
            · intro w' hSw; obtain ⟨hSb, ⟨ws, hwl, hSn⟩, _⟩ := hSw; have q1 := (hSb.cell (p := ⟨w.heap.size, 1, none⟩) (by simp <;> omega)).trans x1'; have q2 := (hSn.cell 34).trans (wonL_bid _ _ _ _ hwl); have q3 := (hSb.cell (p := ⟨bq, off + k, none⟩) (by simp <;> omega)).trans d0; have q4 := (hSb.cell (p := ⟨b2, off2 + j * 2 + 1, none⟩) (by simp <;> omega)).trans d1; go_simp; try with_reducible rfl
            try simp only [Act.put, List.setIfInBounds_toArray, List.set_cons_zero, List.set_cons_succ]
            refine wpAnyF_take (i := 4) (oi := { dst := some 38, op := Go.Op.fieldAddr 158 (Go.Operand.tmp 37) 2, type := 0, pos := "core.go:27", after := #[{ on := 3, ground := Go.Ground.data }], guard := none }) (v := ?_) rfl (by kernel_rfl) (by kernel_rfl) (by kernel_rfl) (by kernel_rfl) (fun _ _ _ h => h) (Or.inl ⟨by rfl, ?_⟩) hS ?_
            rotate_left
            · intro w' hSw; obtain ⟨hSb, ⟨ws, hwl, hSn⟩, _⟩ := hSw; have q1 := (hSb.cell (p := ⟨w.heap.size, 1, none⟩) (by simp <;> omega)).trans x1'; have q2 := (hSn.cell 34).trans (wonL_bid _ _ _ _ hwl); have q3 := (hSb.cell (p := ⟨bq, off + k, none⟩) (by simp <;> omega)).trans d0; have q4 := (hSb.cell (p := ⟨b2, off2 + j * 2 + 1, none⟩) (by simp <;> omega)).trans d1; go_simp; try with_reducible rfl
            try simp only [Act.put, List.setIfInBounds_toArray, List.set_cons_zero, List.set_cons_succ]
            refine wpAnyF_take (i := 5) (oi := { dst := some 39, op := Go.Op.load 34 (Go.Operand.tmp 38), type := 34, pos := "core.go:27", after := #[{ on := 4, ground := Go.Ground.data }], guard := none }) (v := ?_) rfl (by kernel_rfl) (by kernel_rfl) (by kernel_rfl) (by kernel_rfl) (fun _ _ _ h => h) (Or.inl ⟨by rfl, ?_⟩) hS ?_
            rotate_left
            · intro w' hSw; obtain ⟨hSb, ⟨ws, hwl, hSn⟩, _⟩ := hSw; have q1 := (hSb.cell (p := ⟨w.heap.size, 1, none⟩) (by simp <;> omega)).trans x1'; have q2 := (hSn.cell 34).trans (wonL_bid _ _ _ _ hwl); have q3 := (hSb.cell (p := ⟨bq, off + k, none⟩) (by simp <;> omega)).trans d0; have q4 := (hSb.cell (p := ⟨b2, off2 + j * 2 + 1, none⟩) (by simp <;> omega)).trans d1; go_simp; try with_reducible rfl
            try simp only [Act.put, List.setIfInBounds_toArray, List.set_cons_zero, List.set_cons_succ]
            refine wpAnyF_take (i := 6) (oi := { dst := some 40, op := Go.Op.move (Go.Operand.tmp 7), type := 3, pos := "core.go:27", after := #[{ on := 19, ground := Go.Ground.gcOnly Go.Departure.lateStores }], guard := none }) (v := ?_) rfl (by kernel_rfl) (by kernel_rfl) (by kernel_rfl) (by kernel_rfl) (fun _ _ _ h => h) (Or.inl ⟨by rfl, ?_⟩) hS ?_
            rotate_left
            · intro w' hSw; obtain ⟨hSb, ⟨ws, hwl, hSn⟩, _⟩ := hSw; have q1 := (hSb.cell (p := ⟨w.heap.size, 1, none⟩) (by simp <;> omega)).trans x1'; have q2 := (hSn.cell 34).trans (wonL_bid _ _ _ _ hwl); have q3 := (hSb.cell (p := ⟨bq, off + k, none⟩) (by simp <;> omega)).trans d0; have q4 := (hSb.cell (p := ⟨b2, off2 + j * 2 + 1, none⟩) (by simp <;> omega)).trans d1; go_simp; try with_reducible rfl
            try simp only [Act.put, List.setIfInBounds_toArray, List.set_cons_zero, List.set_cons_succ]
            refine wpAnyF_take (i := 7) (oi := { dst := some 41, op := Go.Op.fieldAddr 24 (Go.Operand.tmp 1) 1, type := 0, pos := "core.go:27", after := #[], guard := none }) (v := ?_) rfl (by kernel_rfl) (by kernel_rfl) (by kernel_rfl) (by kernel_rfl) (fun _ _ _ h => h) (Or.inl ⟨by rfl, ?_⟩) hS ?_
            rotate_left
            · intro w' hSw; obtain ⟨hSb, ⟨ws, hwl, hSn⟩, _⟩ := hSw; have q1 := (hSb.cell (p := ⟨w.heap.size, 1, none⟩) (by simp <;> omega)).trans x1'; have q2 := (hSn.cell 34).trans (wonL_bid _ _ _ _ hwl); have q3 := (hSb.cell (p := ⟨bq, off + k, none⟩) (by simp <;> omega)).trans d0; have q4 := (hSb.cell (p := ⟨b2, off2 + j * 2 + 1, none⟩) (by simp <;> omega)).trans d1; go_simp; try with_reducible rfl
            try simp only [Act.put, List.setIfInBounds_toArray, List.set_cons_zero, List.set_cons_succ]
            refine wpAnyF_take (i := 8) (oi := { dst := some 42, op := Go.Op.load 22 (Go.Operand.tmp 41), type := 22, pos := "core.go:27", after := #[{ on := 7, ground := Go.Ground.data }], guard := none }) (v := ?_) rfl (by kernel_rfl) (by kernel_rfl) (by kernel_rfl) (by kernel_rfl) (fun _ _ _ h => h) (Or.inl ⟨by rfl, ?_⟩) hS ?_
            rotate_left
            · intro w' hSw; obtain ⟨hSb, ⟨ws, hwl, hSn⟩, _⟩ := hSw; have q1 := (hSb.cell (p := ⟨w.heap.size, 1, none⟩) (by simp <;> omega)).trans x1'; have q2 := (hSn.cell 34).trans (wonL_bid _ _ _ _ hwl); have q3 := (hSb.cell (p := ⟨bq, off + k, none⟩) (by simp <;> omega)).trans d0; have q4 := (hSb.cell (p := ⟨b2, off2 + j * 2 + 1, none⟩) (by simp <;> omega)).trans d1; go_simp; try with_reducible rfl
            try simp only [Act.put, List.setIfInBounds_toArray, List.set_cons_zero, List.set_cons_succ]
            refine wpAnyF_take (i := 9) (oi := { dst := some 43, op := Go.Op.move (Go.Operand.tmp 7), type := 3, pos := "core.go:27", after := #[], guard := none }) (v := ?_) rfl (by kernel_rfl) (by kernel_rfl) (by kernel_rfl) (by kernel_rfl) (fun _ _ _ h => h) (Or.inl ⟨by rfl, ?_⟩) hS ?_
            rotate_left
            · intro w' hSw; obtain ⟨hSb, ⟨ws, hwl, hSn⟩, _⟩ := hSw; have q1 := (hSb.cell (p := ⟨w.heap.size, 1, none⟩) (by simp <;> omega)).trans x1'; have q2 := (hSn.cell 34).trans (wonL_bid _ _ _ _ hwl); have q3 := (hSb.cell (p := ⟨bq, off + k, none⟩) (by simp <;> omega)).trans d0; have q4 := (hSb.cell (p := ⟨b2, off2 + j * 2 + 1, none⟩) (by simp <;> omega)).trans d1; go_simp; try with_reducible rfl
            try simp only [Act.put, List.setIfInBounds_toArray, List.set_cons_zero, List.set_cons_succ]
            refine wpAnyF_take (i := 10) (oi := { dst := some 44, op := Go.Op.indexAddr 22 (Go.Operand.tmp 42) (Go.Operand.tmp 43), type := 0, pos := "core.go:27", after := #[{ on := 8, ground := Go.Ground.data }, { on := 9, ground := Go.Ground.data }], guard := none }) (v := ?_) rfl (by kernel_rfl) (by kernel_rfl) (by kernel_rfl) (by kernel_rfl) (fun _ _ _ h => h) (Or.inl ⟨by rfl, ?_⟩) hS ?_
            rotate_left
            · intro w' hSw; obtain ⟨hSb, ⟨ws, hwl, hSn⟩, _⟩ := hSw; have q1 := (hSb.cell (p := ⟨w.heap.size, 1, none⟩) (by simp <;> omega)).trans x1'; have q2 := (hSn.cell 34).trans (wonL_bid _ _ _ _ hwl); have q3 := (hSb.cell (p := ⟨bq, off + k, none⟩) (by simp <;> omega)).trans d0; have q4 := (hSb.cell (p := ⟨b2, off2 + j * 2 + 1, none⟩) (by simp <;> omega)).trans d1; go_simp; try with_reducible rfl
            try simp only [Act.put, List.setIfInBounds_toArray, List.set_cons_zero, List.set_cons_succ]
            refine wpAnyF_take (i := 11) (oi := { dst := some 45, op := Go.Op.load 41 (Go.Operand.tmp 44), type := 41, pos := "core.go:27", after := #[{ on := 10, ground := Go.Ground.data }], guard := none }) (v := ?_) rfl (by kernel_rfl) (by kernel_rfl) (by kernel_rfl) (by kernel_rfl) (fun _ _ _ h => h) (Or.inl ⟨by rfl, ?_⟩) hS ?_
            rotate_left
            · intro w' hSw; obtain ⟨hSb, ⟨ws, hwl, hSn⟩, _⟩ := hSw; have q1 := (hSb.cell (p := ⟨w.heap.size, 1, none⟩) (by simp <;> omega)).trans x1'; have q2 := (hSn.cell 34).trans (wonL_bid _ _ _ _ hwl); have q3 := (hSb.cell (p := ⟨bq, off + k, none⟩) (by simp <;> omega)).trans d0; have q4 := (hSb.cell (p := ⟨b2, off2 + j * 2 + 1, none⟩) (by simp <;> omega)).trans d1; go_simp; try with_reducible rfl
            try simp only [Act.put, List.setIfInBounds_toArray, List.set_cons_zero, List.set_cons_succ]
            refine wpAnyF_take (i := 12) (oi := { dst := some 46, op := Go.Op.move (Go.Operand.tmp 8), type := 3, pos := "core.go:27", after := #[], guard := none }) (v := ?_) rfl (by kernel_rfl) (by kernel_rfl) (by kernel_rfl) (by kernel_rfl) (fun _ _ _ h => h) (Or.inl ⟨by rfl, ?_⟩) hS ?_
            rotate_left
            · intro w' hSw; obtain ⟨hSb, ⟨ws, hwl, hSn⟩, _⟩ := hSw; have q1 := (hSb.cell (p := ⟨w.heap.size, 1, none⟩) (by simp <;> omega)).trans x1'; have q2 := (hSn.cell 34).trans (wonL_bid _ _ _ _ hwl); have q3 := (hSb.cell (p := ⟨bq, off + k, none⟩) (by simp <;> omega)).trans d0; have q4 := (hSb.cell (p := ⟨b2, off2 + j * 2 + 1, none⟩) (by simp <;> omega)).trans d1; go_simp; try with_reducible rfl
            try simp only [Act.put, List.setIfInBounds_toArray, List.set_cons_zero, List.set_cons_succ]
            refine wpAnyF_take (i := 13) (oi := { dst := some 47, op := Go.Op.indexAddr 41 (Go.Operand.tmp 45) (Go.Operand.tmp 46), type := 0, pos := "core.go:27", after := #[{ on := 11, ground := Go.Ground.data }, { on := 12, ground := Go.Ground.data }], guard := none }) (v := ?_) rfl (by kernel_rfl) (by kernel_rfl) (by kernel_rfl) (by kernel_rfl) (fun _ _ _ h => h) (Or.inl ⟨by rfl, ?_⟩) hS ?_
            rotate_left
            · intro w' hSw; obtain ⟨hSb, ⟨ws, hwl, hSn⟩, _⟩ := hSw; have q1 := (hSb.cell (p := ⟨w.heap.size, 1, none⟩) (by simp <;> omega)).trans x1'; have q2 := (hSn.cell 34).trans (wonL_bid _ _ _ _ hwl); have q3 := (hSb.cell (p := ⟨bq, off + k, none⟩) (by simp <;> omega)).trans d0; have q4 := (hSb.cell (p := ⟨b2, off2 + j * 2 + 1, none⟩) (by simp <;> omega)).trans d1; go_simp; try with_reducible rfl
            try simp only [Act.put, List.setIfInBounds_toArray, List.set_cons_zero, List.set_cons_succ]
            refine wpAnyF_take (i := 14) (oi := { dst := some 48, op := Go.Op.fieldAddr 45 (Go.Operand.tmp 47) 1, type := 0, pos := "core.go:27", after := #[{ on := 13, ground := Go.Ground.data }], guard := none }) (v := ?_) rfl (by kernel_rfl) (by kernel_rfl) (by kernel_rfl) (by kernel_rfl) (fun _ _ _ h => h) (Or.inl ⟨by rfl, ?_⟩) hS ?_
            rotate_left
            · intro w' hSw; obtain ⟨hSb, ⟨ws, hwl, hSn⟩, _⟩ := hSw; have q1 := (hSb.cell (p := ⟨w.heap.size, 1, none⟩) (by simp <;> omega)).trans x1'; have q2 := (hSn.cell 34).trans (wonL_bid _ _ _ _ hwl); have q3 := (hSb.cell (p := ⟨bq, off + k, none⟩) (by simp <;> omega)).trans d0; have q4 := (hSb.cell (p := ⟨b2, off2 + j * 2 + 1, none⟩) (by simp <;> omega)).trans d1; go_simp; try with_reducible rfl
            try simp only [Act.put, List.setIfInBounds_toArray, List.set_cons_zero, List.set_cons_succ]
            refine wpAnyF_take (i := 15) (oi := { dst := some 49, op := Go.Op.load 2 (Go.Operand.tmp 48), type := 2, pos := "core.go:27", after := #[{ on := 14, ground := Go.Ground.data }], guard := none }) (v := ?_) rfl (by kernel_rfl) (by kernel_rfl) (by kernel_rfl) (by kernel_rfl) (fun _ _ _ h => h) (Or.inl ⟨by rfl, ?_⟩) hS ?_
            rotate_left
            · intro w' hSw; obtain ⟨hSb, ⟨ws, hwl, hSn⟩, _⟩ := hSw; have q1 := (hSb.cell (p := ⟨w.heap.size, 1, none⟩) (by simp <;> omega)).trans x1'; have q2 := (hSn.cell 34).trans (wonL_bid _ _ _ _ hwl); have q3 := (hSb.cell (p := ⟨bq, off + k, none⟩) (by simp <;> omega)).trans d0; have q4 := (hSb.cell (p := ⟨b2, off2 + j * 2 + 1, none⟩) (by simp <;> omega)).trans d1; go_simp; try with_reducible rfl
            try simp only [Act.put, List.setIfInBounds_toArray, List.set_cons_zero, List.set_cons_succ]
            refine wpAnyF_take (i := 16) (oi := { dst := some 50, op := Go.Op.nilCheck (Go.Operand.tmp 34), type := 0, pos := "core.go:27", after := #[{ on := 0, ground := Go.Ground.data }], guard := none }) (v := ?_) rfl (by kernel_rfl) (by kernel_rfl) (by kernel_rfl) (by kernel_rfl) (fun _ _ _ h => h) (Or.inl ⟨by rfl, ?_⟩) hS ?_
            rotate_left
            · intro w' hSw; obtain ⟨hSb, ⟨ws, hwl, hSn⟩, _⟩ := hSw; have q1 := (hSb.cell (p := ⟨w.heap.size, 1, none⟩) (by simp <;> omega)).trans x1'; have q2 := (hSn.cell 34).trans (wonL_bid _ _ _ _ hwl); have q3 := (hSb.cell (p := ⟨bq, off + k, none⟩) (by simp <;> omega)).trans d0; have q4 := (hSb.cell (p := ⟨b2, off2 + j * 2 + 1, none⟩) (by simp <;> omega)).trans d1; go_simp; try with_reducible rfl
            try simp only [Act.put, List.setIfInBounds_toArray, List.set_cons_zero, List.set_cons_succ]
            refine wpAnyF_take (i := 17) (oi := { dst := some 51, op := Go.Op.fieldAddr 158 (Go.Operand.tmp 50) 1, type := 0, pos := "core.go:27", after := #[{ on := 16, ground := Go.Ground.data }], guard := none }) (v := ?_) rfl (by kernel_rfl) (by kernel_rfl) (by kernel_rfl) (by kernel_rfl) (fun _ _ _ h => h) (Or.inl ⟨by rfl, ?_⟩) hS ?_
            rotate_left
            · intro w' hSw; obtain ⟨hSb, ⟨ws, hwl, hSn⟩, _⟩ := hSw; have q1 := (hSb.cell (p := ⟨w.heap.size, 1, none⟩) (by simp <;> omega)).trans x1'; have q2 := (hSn.cell 34).trans (wonL_bid _ _ _ _ hwl); have q3 := (hSb.cell (p := ⟨bq, off + k, none⟩) (by simp <;> omega)).trans d0; have q4 := (hSb.cell (p := ⟨b2, off2 + j * 2 + 1, none⟩) (by simp <;> omega)).trans d1; go_simp; try with_reducible rfl
            try simp only [Act.put, List.setIfInBounds_toArray, List.set_cons_zero, List.set_cons_succ]
            refine wpAnyF_take (i := 18) (oi := { dst := some 52, op := Go.Op.indexAddr 156 (Go.Operand.tmp 51) (Go.Operand.tmp 35), type := 0, pos := "core.go:27", after := #[{ on := 17, ground := Go.Ground.data }, { on := 1, ground := Go.Ground.data }, { on := 0, ground := Go.Ground.phase }, { on := 1, ground := Go.Ground.phase }, { on := 2, ground := Go.Ground.textOnly Go.Departure.lateStores }, { on := 3, ground := Go.Ground.textOnly Go.Departure.lateStoresUnsure }, { on := 4, ground := Go.Ground.textOnly Go.Departure.lateStoresUnsure }, { on := 5, ground := Go.Ground.phase }, { on := 6, ground := Go.Ground.textOnly Go.Departure.lateStores }, { on := 7, ground := Go.Ground.textOnly Go.Departure.lateStores }, { on := 8, ground := Go.Ground.textOnly Go.Departure.lateStores }, { on := 9, ground := Go.Ground.textOnly Go.Departure.lateStores }, { on := 10, ground := Go.Ground.textOnly Go.Departure.lateStoresUnsure }, { on := 11, ground := Go.Ground.phase }, { on := 12, ground := Go.Ground.textOnly Go.Departure.lateStores }, { on := 13, ground := Go.Ground.textOnly Go.Departure.lateStoresUnsure }, { on := 14, ground := Go.Ground.textOnly Go.Departure.lateStoresUnsure }, { on := 15, ground := Go.Ground.phase }], guard := none }) (v := ?_) rfl (by kernel_rfl) (by kernel_rfl) (by kernel_rfl) (by kernel_rfl) (fun _ _ _ h => h) (Or.inl ⟨by rfl, ?_⟩) hS ?_
            rotate_left
            · intro w' hSw; obtain ⟨hSb, ⟨ws, hwl, hSn⟩, _⟩ := hSw; have q1 := (hSb.cell (p := ⟨w.heap.size, 1, none⟩) (by simp <;> omega)).trans x1'; have q2 := (hSn.cell 34).trans (wonL_bid _ _ _ _ hwl); have q3 := (hSb.cell (p := ⟨bq, off + k, none⟩) (by simp <;> omega)).trans d0; have q4 := (hSb.cell (p := ⟨b2, off2 + j * 2 + 1, none⟩) (by simp <;> omega)).trans d1; go_simp; try with_reducible rfl
            try simp only [Act.put, List.setIfInBounds_toArray, List.set_cons_zero, List.set_cons_succ]
            refine wpAnyF_ready (rs := [19]) (by kernel_rfl) (by simp) ?_
            refine AllReadyF.cons (o := { dst := none, op := Go.Op.store 4 (Go.Operand.tmp 52) (Go.Operand.const (Go.Value.bool true)), type := 0, pos := "core.go:27", after := #[{ on := 18, ground := Go.Ground.data }, { on := 0, ground := Go.Ground.phase }, { on := 1, ground := Go.Ground.phase }, { on := 2, ground := Go.Ground.textOnly Go.Departure.lateStores }, { on := 3, ground := Go.Ground.textOnly Go.Departure.lateStoresUnsure }, { on := 4, ground := Go.Ground.textOnly Go.Departure.lateStoresUnsure }, { on := 5, ground := Go.Ground.phase }, { on := 6, ground := Go.Ground.textOnly Go.Departure.lateStores }, { on := 7, ground := Go.Ground.textOnly Go.Departure.lateStores }, { on := 8, ground := Go.Ground.textOnly Go.Departure.lateStores }, { on := 9, ground := Go.Ground.textOnly Go.Departure.lateStores }, { on := 10, ground := Go.Ground.textOnly Go.Departure.lateStoresUnsure }, { on := 11, ground := Go.Ground.phase }, { on := 12, ground := Go.Ground.textOnly Go.Departure.lateStores }, { on := 13, ground := Go.Ground.textOnly Go.Departure.lateStoresUnsure }, { on := 14, ground := Go.Ground.textOnly Go.Departure.lateStoresUnsure }, { on := 15, ground := Go.Ground.phase }], guard := none }) rfl (by rfl) (fun K hK => ?_) ?_
            · have hS19 := hS
              obtain ⟨_, ⟨ws, hwl, hSn⟩, _⟩ := hS19
              have f1 := hSn.frozen (2 + k)
              have f2 := (hSn.cell (2 + k)).trans (wonL_win _ _ _ _ k _ (List.getElem?_eq_getElem (by omega)))
              go_simp
              refine hK.out _ _ ?_ (fun hS => ?_)
              · obtain ⟨hSb, ⟨ws, hwl, hSn⟩, ps, hpl, hSg⟩ := hS
                exact ⟨hSb.setCell (p := ⟨w1.heap.size + 2, 2 + k, none⟩) (by simp) _, ⟨ws.set k true, by simpa using hwl, by have := hSn.set_ (2 + k) (.bool true); rwa [wonL_set _ _ _ _ _ _ (by omega)] at this⟩, ps, hpl, hSg.far (p := ⟨w1.heap.size + 2, 2 + k, none⟩) (by simp) _⟩
              clear hK K
              try simp only [Act.put, List.setIfInBounds_toArray, List.set_cons_zero, List.set_cons_succ]
              refine wpAnyF_take (i := 20) (oi := { dst := some 53, op := Go.Op.indexAddr 34 (Go.Operand.tmp 39) (Go.Operand.tmp 40), type := 0, pos := "core.go:27", after := #[{ on := 5, ground := Go.Ground.data }, { on := 6, ground := Go.Ground.data }, { on := 0, ground := Go.Ground.phase }, { on := 1, ground := Go.Ground.phase }, { on := 2, ground := Go.Ground.phase }, { on := 3, ground := Go.Ground.phase }, { on := 4, ground := Go.Ground.phase }, { on := 5, ground := Go.Ground.phase }, { on := 6, ground := Go.Ground.phase }, { on := 7, ground := Go.Ground.phase }, { on := 8, ground := Go.Ground.phase }, { on := 9, ground := Go.Ground.phase }, { on := 10, ground := Go.Ground.phase }, { on := 11, ground := Go.Ground.phase }, { on := 12, ground := Go.Ground.phase }, { on := 13, ground := Go.Ground.phase }, { on := 14, ground := Go.Ground.phase }, { on := 15, ground := Go.Ground.phase }, { on := 16, ground := Go.Ground.phase }, { on := 17, ground := Go.Ground.phase }, { on := 18, ground := Go.Ground.phase }, { on := 19, ground := Go.Ground.phase }], guard := none }) (v := ?_) rfl (by kernel_rfl) (by kernel_rfl) (by kernel_rfl) (by kernel_rfl) (fun _ _ _ h => h) (Or.inl ⟨by rfl, ?_⟩) hS ?_
              rotate_left
              · intro w' hSw; obtain ⟨hSb, ⟨ws, hwl, hSn⟩, _⟩ := hSw; have q1 := (hSb.cell (p := ⟨w.heap.size, 1, none⟩) (by simp <;> omega)).trans x1'; have q2 := (hSn.cell 34).trans (wonL_bid _ _ _ _ hwl); have q3 := (hSb.cell (p := ⟨bq, off + k, none⟩) (by simp <;> omega)).trans d0; have q4 := (hSb.cell (p := ⟨b2, off2 + j * 2 + 1, none⟩) (by simp <;> omega)).trans d1; go_simp; try with_reducible rfl
              try simp only [Act.put, List.setIfInBounds_toArray, List.set_cons_zero, List.set_cons_succ]
              refine wpAnyF_ready (rs := [21]) (by kernel_rfl) (by simp) ?_
              refine AllReadyF.cons (o := { dst := none, op := Go.Op.store 2 (Go.Operand.tmp 53) (Go.Operand.tmp 49), type := 0, pos := "core.go:27", after := #[{ on := 20, ground := Go.Ground.data }, { on := 15, ground := Go.Ground.data }, { on := 19, ground := Go.Ground.chain }, { on := 0, ground := Go.Ground.phase }, { on := 1, ground := Go.Ground.phase }, { on := 2, ground := Go.Ground.phase }, { on := 3, ground := Go.Ground.phase }, { on := 4, ground := Go.Ground.phase }, { on := 5, ground := Go.Ground.phase }, { on := 6, ground := Go.Ground.phase }, { on := 7, ground := Go.Ground.phase }, { on := 8, ground := Go.Ground.phase }, { on := 9, ground := Go.Ground.phase }, { on := 10, ground := Go.Ground.phase }, { on := 11, ground := Go.Ground.phase }, { on := 12, ground := Go.Ground.phase }, { on := 13, ground := Go.Ground.phase }, { on := 14, ground := Go.Ground.phase }, { on := 15, ground := Go.Ground.phase }, { on := 16, ground := Go.Ground.phase }, { on := 17, ground := Go.Ground.phase }, { on := 18, ground := Go.Ground.phase }, { on := 19, ground := Go.Ground.phase }], guard := none }) rfl (by rfl) (fun K hK => ?_) ?_
              · have hS21 := hS
                obtain ⟨_, _, ps, hpl, hSg⟩ := hS21
                have f1 := hSg.frozen k
                have hkp : k < ps.length := by omega
                have f2 := (hSg.cell k).trans (show (ints ps).toArray[k]? = some (.int .i64 ps[k]) from by simp [ints])
                go_simp
                refine hK.out _ _ ?_ (fun hS => ?_)
                · obtain ⟨hSb, ⟨ws, hwl, hSn⟩, ps, hpl, hSg⟩ := hS
                  exact ⟨hSb.setCell (p := ⟨w1.heap.size + 1, k, none⟩) (by simp) _, ⟨ws, hwl, hSn.far (p := ⟨w1.heap.size + 1, k, none⟩) (by simp) _⟩, ps.set k o.c, by simpa using hpl, by have := hSg.set_ k (.int .i64 o.c); rwa [ints_set] at this⟩
                clear hK K
                try simp only [Act.put, List.setIfInBounds_toArray, List.set_cons_zero, List.set_cons_succ]
                refine wpAnyF_done (by kernel_rfl) ?_ _
                clear hS
                go_wp2_with fail
                go_roundw
                case rel =>
                  refine ⟨k + 1, by omega, by go_num, ?_, ?_, ?_⟩
                  · have h1 := (HG3.out.far (p := ⟨w1.heap.size + 2, 2 + k, none⟩) (by simp) (.bool true)).set_ k (.int .i64 o.c)
                    rw [ints_set, bidA_set hlt (by rw [HBG.out, coinAt_some HL.out HOj.out])] at h1
                    exact h1.drew
                  · have h1 := (HN3.out.set_ (2 + k) (.bool true)).far (p := ⟨w1.heap.size + 1, k, none⟩) (by simp) (.int .i64 o.c)
                    rw [wonL_set _ _ _ _ _ _ (by rw [winsL_len]; omega), ← winsL_take_pos HC.out (by omega)] at h1
                    exact h1.drew
                  · exact ((HB3.out.setCell (p := ⟨w1.heap.size + 2, 2 + k, none⟩) (by simp) _).setCell (p := ⟨w1.heap.size + 1, k, none⟩) (by simp) _).drew
                case measure => simp [intOf]; omega
              exact AllReadyF.nil
            exact AllReadyF.nil
        · obtain rfl : k = bs.length := by omega
          have hbl : (bestC n bs).length = bs.length := choose_length _ _
          have HGE := Lib.hid (show Blk wr (w1.heap.size + 1) 2 (ints (bidsC n bs)).toArray from by have := HG3.out; rwa [bidA_all] at this)
          have HNE := Lib.hid (show Blk wr (w1.heap.size + 2) 158 (wonL n (.slice A bs.length cap) (winsL (bestC n bs)) (.slice (some ⟨w1.heap.size + 1, 0, none⟩) bs.length bs.length)).toArray from by have := HN3.out; rwa [List.take_of_length_le (by omega)] at this)
          go_wp2_with fail
          refine bodyPost_ret (v := .tuple #[.pointer (some ⟨w1.heap.size + 2, 0, none⟩), .int .i64 0]) (by simp [results, Try.results93, go_sem]) rfl ⟨_, _, _, rfl, ⟨by omega, HNE.out, own_of_blk HGE.out (by omega) (bidsC_length _ _) (by unfold maxLen; omega)⟩, ?_⟩
          exact HBW1.out.trans ((HB2.out.mono (by omega)).trans (HB3.out.mono (by omega)))
    exact AllReadyF.nil
  exact AllReadyF.nil
end Go.Proofs.Ytcigobiolbojhaa.Vb

/- core: payment. -/
namespace Go.Proofs.Ytcigobiolbojhaa.Vb
open Go.RowKit

def payL : List Int → List Int → Bool
  | p :: ps, b :: bs => decide (0 ≤ p ∧ p ≤ b) && payL ps bs
  | [], [] => true
  | _, _ => false
theorem payL_iff : ∀ (ps bs : List Int), payL ps bs = true ↔ ps.length = bs.length ∧ ∀ (i : Nat) (p b : Int), ps[i]? = some p → bs[i]? = some b → 0 ≤ p ∧ p ≤ b
  | [], [] => by simp [payL]
  | [], b :: bs => by simp [payL]
  | p :: ps, [] => by simp [payL]
  | p :: ps, b :: bs => by
    simp only [payL, Bool.and_eq_true, decide_eq_true_eq, payL_iff ps bs, List.length_cons]
    constructor
    · rintro ⟨h1, h2, h3⟩
      refine ⟨by omega, fun i q c hq hc => ?_⟩
      cases i with
      | zero => simp at hq hc; subst hq hc; exact h1
      | succ i => exact h3 i q c (by simpa using hq) (by simpa using hc)
    · rintro ⟨h1, h2⟩
      exact ⟨h2 0 p b rfl rfl, by omega, fun i q c hq hc => h2 (i + 1) q c (by simpa using hq) (by simpa using hc)⟩

theorem WonAt.grow {w w' : World} {lo g : Nat} {n : Int} {v : Value} {bs : List (List Off)} {A : Option Addr} {cap : Nat} (h : WonAt w lo g n v bs A cap) (hb : Below w.heap.size w w') : WonAt w' lo g n v bs A cap :=
  ⟨h.1, h.2.1.grow hb, own_grow h.2.2 hb⟩
theorem WonAt.mono {w : World} {lo lo' g : Nat} {n : Int} {v : Value} {bs : List (List Off)} {A : Option Addr} {cap : Nat} (h : WonAt w lo g n v bs A cap) (hl : lo' ≤ lo) : WonAt w lo' g n v bs A cap :=
  ⟨Nat.le_trans hl h.1, h.2.1, own_mono h.2.2 hl⟩
theorem WonAt.lt {w : World} {lo g : Nat} {n : Int} {v : Value} {bs : List (List Off)} {A : Option Addr} {cap : Nat} (h : WonAt w lo g n v bs A cap) : g < w.heap.size := h.2.1.lt
theorem WonAt.sl {w : World} {lo g : Nat} {n : Int} {v : Value} {bs : List (List Off)} {A : Option Addr} {cap : Nat} (h : WonAt w lo g n v bs A cap) : Sl w (lo ≤ ·) (.slice A bs.length cap) bs.length 1 (ints (bidsC n bs)) :=
  (Sl.of_own h.2.2).mono fun b _ hb => (h.2.2.lt b hb).1
theorem WonAt.c0 {w : World} {lo g : Nat} {n : Int} {v : Value} {bs : List (List Off)} {A : Option Addr} {cap : Nat} (h : WonAt w lo g n v bs A cap) : w.cell? ⟨g, 0, none⟩ = some (.int .i64 n) := h.2.1.cell 0
theorem WonAt.c1 {w : World} {lo g : Nat} {n : Int} {v : Value} {bs : List (List Off)} {A : Option Addr} {cap : Nat} (h : WonAt w lo g n v bs A cap) : w.cell? ⟨g, 1, none⟩ = some v := h.2.1.cell 1
theorem WonAt.cb {w : World} {lo g : Nat} {n : Int} {v : Value} {bs : List (List Off)} {A : Option Addr} {cap : Nat} (h : WonAt w lo g n v bs A cap) : w.cell? ⟨g, 34, none⟩ = some (.slice A bs.length cap) := (h.2.1.cell 34).trans (wonL_bid _ _ _ _ (winsL_len _))
theorem WonAt.cw {w : World} {lo g : Nat} {n : Int} {v : Value} {bs : List (List Off)} {A : Option Addr} {cap : Nat} (h : WonAt w lo g n v bs A cap) {i : Nat} (hi : i < 32) : w.cell? ⟨g, 2 + i, none⟩ = some (.bool (winB (bestC n bs) i)) := (h.2.1.cell (2 + i)).trans (wonL_win _ _ _ _ _ _ (winsL_get _ hi))

set_option maxRecDepth 100000 in
set_option maxHeartbeats 1600000 in
theorem payment_any (n : Int) (bs : List (List Off)) (v : Value) (lo g : Nat) (A : Option Addr) (cap : Nat) (pay : List Int) (vp : Value) (R : Nat → Prop) (w : World) (hw : WonAt w lo g n v bs A cap) (hp : Sl w R vp pay.length 1 (ints pay)) (h32 : bs.length ≤ 32) :
    Calls Try.prog 132 #[.pointer (some ⟨g, 0, none⟩), vp] w fun e w' => e = .returned (.bool (payL pay (bidsC n bs))) ∧ w = w' := by
  have hcb := hw.cb
  have HS := Lib.hid hw.sl
  have HP := Lib.hid hp
  obtain ⟨_, Ap, capp, rfl, hncap, hcap, _⟩ := hp
  unfold maxLen at hcap
  clear hw
  by_cases hlen : pay.length = bs.length
  · have hdl : ((pay.length : Int) != (bs.length : Int)) = false := by simp [hlen]
    go_enter Try.func132, Try.ntmps132
    go_wp2
    go_loop [17] (fun i => ∃ k : Nat, k ≤ pay.length ∧ i = .int .i64 k ∧ ∀ (j : Nat) (p b : Int), j < k → pay[j]? = some p → (bidsC n bs)[j]? = some b → 0 ≤ p ∧ p ≤ b) (fun i => pay.length - (intOf i).toNat)
    case atStart => exact ⟨0, Nat.zero_le _, rfl, fun j p b h => by omega⟩
    case round =>
      obtain ⟨k, hk, rfl, hall⟩ := hrel
      have HALL := Lib.hid hall
      clear hall
      by_cases hlt : k < pay.length
      · obtain ⟨bp, op, p, rfl, _, hp, cp⟩ := HP.out.int_at hlt
        obtain ⟨bq, oq, q, rfl, _, hq, cq⟩ := HS.out.int_at (k := k) (by omega)
        have HP1 := Lib.hid hp
        have HQ1 := Lib.hid hq
        have e1 : (0 : Int) ≤ (k : Int) := by omega
        have e2 : (k : Int) < (bs.length : Int) := by omega
        clear hp hq
        by_cases hneg : p < 0
        · have HF := Lib.hid (show payL pay (bidsC n bs) = false from by
            rw [Bool.eq_false_iff]
            intro h
            have := ((payL_iff _ _).mp h).2 k p q HP1.out HQ1.out
            omega)
          go_wp2
          go_ret
          rw [HF.out]
          exact ⟨rfl, rfl⟩
        · by_cases hgt : p > q
          · have HF := Lib.hid (show payL pay (bidsC n bs) = false from by
              rw [Bool.eq_false_iff]
              intro h
              have := ((payL_iff _ _).mp h).2 k p q HP1.out HQ1.out
              omega)
            go_wp2
            go_ret
            rw [HF.out]
            exact ⟨rfl, rfl⟩
          · go_wp2
            go_round
            case rel =>
              refine ⟨k + 1, by omega, by go_num, fun j a b hj ha hb => ?_⟩
              by_cases hjk : j = k
              · subst hjk
                rw [HP1.out] at ha
                rw [HQ1.out] at hb
                injection ha with ha
                injection hb with hb
                omega
              · exact HALL.out j a b (by omega) ha hb
            case measure => simp [intOf]; omega
      · obtain rfl : k = pay.length := by omega
        have HT := Lib.hid (show payL pay (bidsC n bs) = true from (payL_iff _ _).mpr ⟨by rw [bidsC_length]; exact hlen, fun i p b hp hb => HALL.out i p b (List.getElem?_eq_some_iff.mp hp).1 hp hb⟩)
        go_wp2
        go_ret
        rw [HT.out]
        exact ⟨rfl, rfl⟩
  · have hdl : ((pay.length : Int) != (bs.length : Int)) = true := by simp; omega
    have HF := Lib.hid (show payL pay (bidsC n bs) = false from by
      rw [Bool.eq_false_iff]
      intro h
      have := ((payL_iff _ _).mp h).1
      rw [bidsC_length] at this
      omega)
    go_enter Try.func132, Try.ntmps132
    go_wp2
    go_ret
    rw [HF.out]
    exact ⟨rfl, rfl⟩
end Go.Proofs.Ytcigobiolbojhaa.Vb

/- core: lowered. -/
namespace Go.Proofs.Ytcigobiolbojhaa.Vb
open Go.RowKit

/-- The lowered lists. -/
def lowB (n : Int) (bs : List (List Off)) (pay : List Int) : List (List Off) := bs.mapIdx fun i l => lowL ((bidsC n bs)[i]?.getD 0 - pay[i]?.getD 0) l
theorem lowB_length (n : Int) (bs : List (List Off)) (pay : List Int) : (lowB n bs pay).length = bs.length := by simp [lowB]
theorem lowB_get {n : Int} {bs : List (List Off)} {pay : List Int} {k : Nat} {l : List Off} {p q : Int} (hl : bs[k]? = some l) (hp : pay[k]? = some p) (hq : (bidsC n bs)[k]? = some q) : (lowB n bs pay)[k]? = some (lowL (q - p) l) := by
  simp [lowB, hl, hp, hq]
theorem Buys.at_ {w : World} {R : Nat → Prop} {A : Option Addr} {m c k : Nat} {bs : List (List Off)} {l : List Off} (h : Buys w R (.slice A m c) bs) (hk : bs[k]? = some l) :
    ∃ b off u, A = some ⟨b, off, none⟩ ∧ b < w.heap.size ∧ w.cell? ⟨b, off + k, none⟩ = some u ∧ Offs w R u l := by
  obtain ⟨vs, ⟨_, A', c', hv, _, _, hcs⟩, hvs⟩ := h
  injection hv with hA _ _
  subst hA
  have hlt := (List.getElem?_eq_some_iff.mp hk).1
  obtain ⟨b, off, hA, _, hb, hc⟩ := hcs (by omega)
  obtain ⟨u, hu, hl⟩ := hvs k l hk
  exact ⟨b, off, u, hA, hb, hc _ _ hu, hl⟩
theorem coin_bd {n : Int} {bs : List (List Off)} (hi : instE n bs = 0) (hwf : ∀ l ∈ bs, ∀ o ∈ l, o.wf) {i : Nat} {q : Int} (h : (bidsC n bs)[i]? = some q) : 0 ≤ q ∧ q ≤ 1099511627776 := by
  have hib : i < bs.length := by have := (List.getElem?_eq_some_iff.mp h).1; rwa [bidsC_length] at this
  obtain ⟨c, hc⟩ : ∃ c, (bestC n bs)[i]? = some c := ⟨_, List.getElem?_eq_getElem (by rw [bestC, choose_length]; exact hib)⟩
  rw [bidsC_get hc] at h
  injection h with h
  have := coinAt_bd hwf hi i c
  omega

set_option maxRecDepth 100000 in
set_option maxHeartbeats 1600000 in
theorem lowered_any (n : Int) (bs : List (List Off)) (v : Value) (lo g : Nat) (A : Option Addr) (cap : Nat) (pay : List Int) (vp : Value) (R Rx : Nat → Prop) (w : World) (hw : WonAt w lo g n v bs A cap) (hl : Buys w Rx v bs) (hp : Sl w R vp pay.length 1 (ints pay))
    (hi : instE n bs = 0) (hok : payL pay (bidsC n bs) = true) :
    Calls Try.prog 100 #[.pointer (some ⟨g, 0, none⟩), vp] w fun e w' => ∃ A' cap', e = .returned (.agg #[.int .i64 n, .slice A' bs.length cap']) ∧ OwnBuys w' w.heap.size (.slice A' bs.length cap') (lowB n bs pay) ∧ Below w.heap.size w w' := by
  obtain ⟨hlen, hall⟩ := (payL_iff _ _).mp hok
  rw [bidsC_length] at hlen
  have hlen' : pay.length ≤ bs.length ∧ bs.length ≤ pay.length := by omega
  obtain ⟨hlen1, hlen2⟩ := hlen'
  clear hlen
  have hsm := instE_small hi
  have HWF := Lib.hid (Buys.wf hl)
  have HSM := Lib.hid hsm
  have HI := Lib.hid hi
  have hl32 := (instE_zero hi).2.2.1
  have hcb := hw.cb
  have hc0 := hw.c0
  have hc1 := hw.c1
  have hgl := hw.lt
  have HB := Lib.hid hl
  have HS := Lib.hid hw.sl
  have HP := Lib.hid hp
  have HALL := Lib.hid hall
  obtain ⟨_, Ap, capp, rfl, hncap, hcap, _⟩ := hp
  unfold maxLen at hcap
  obtain ⟨vs, ⟨_, Av, capv, rfl, _⟩, _⟩ := id hl
  clear hw hl hi hok hsm hall
  go_enter Try.func100, Try.ntmps100
  go_wp2
  obtain ⟨W0, hW0⟩ : ∃ W0, W0 = (w.alloc (.cells #[.int .i64 0, .slice none 0 0] 24)).alloc (.cells #[.int .i64 n, .slice none 0 0] 24) := ⟨_, rfl⟩
  have HR0 := Lib.hid (show Blk W0 w.heap.size 24 #[.int .i64 0, .slice none 0 0] from by rw [hW0]; exact (Blk.new w _ _).alloc _)
  have HY0 := Lib.hid (show Blk W0 (w.heap.size + 1) 24 #[.int .i64 n, .slice none 0 0] from by rw [hW0]; exact Blk.new' _ _ (by simp))
  have HBW := Lib.hid (show Below w.heap.size w W0 from by rw [hW0]; exact ((Below.refl _ _).alloc (Nat.le_refl _) _).alloc (by simp) _)
  have hs0 : W0.heap.size = w.heap.size + 2 := by rw [hW0]; simp
  rw [← hW0]
  clear hW0
  go_loopw [20] (fun i wr => ∃ (k : Nat) (A' : Option Addr) (cap' : Nat), k ≤ bs.length ∧ i = .int .i64 k ∧ OwnBuys wr (w.heap.size + 2) (.slice A' k cap') ((lowB n bs pay).take k) ∧ Blk wr (w.heap.size + 1) 24 #[.int .i64 n, .slice A' k cap'] ∧ Below (w.heap.size + 1) W0 wr)
    (fun i _ => bs.length - (intOf i).toNat)
  case atStart => exact ⟨0, none, 0, Nat.zero_le _, rfl, ⟨[], World.ownsRow_nil _ _ _ _, fun k l hk => by simp at hk⟩, HY0.out, Below.refl _ _⟩
  case round =>
    obtain ⟨k, A', cap', hk, rfl, hob, hy, hb⟩ := hrel
    have hbw := HBW.out.trans (hb.mono (B' := w.heap.size) (by omega))
    have hszr : w.heap.size + 2 ≤ wr.heap.size := by have := hb.size; omega
    have HOB := Lib.hid hob
    have HY := Lib.hid hy
    have HBR := Lib.hid hb
    have HBX := Lib.hid hbw
    clear hob hy hb hbw
    by_cases hlt : k < bs.length
    · obtain ⟨l, hl⟩ : ∃ l, bs[k]? = some l := ⟨_, List.getElem?_eq_getElem hlt⟩
      obtain ⟨bq, off, u, rfl, hbq, c0, hol⟩ := HB.out.at_ hl
      obtain ⟨bp, op, p, rfl, hbp, hp, cp⟩ := HP.out.int_at (k := k) (by omega)
      obtain ⟨bd, od, q, rfl, hbd, hq, cq⟩ := HS.out.int_at hlt
      have hpq := HALL.out k p q hp hq
      have hqb := coin_bd HI.out HWF.out hq
      have hll := HSM.out.2 l (List.mem_of_getElem? hl)
      have HLG := Lib.hid (lowB_get hl hp hq)
      obtain ⟨⟨_, A1, cap1, rfl, _⟩, _⟩ := id hol
      have HOL := Lib.hid (hol.grow HBX.out)
      have d0 := (HBX.out.cell (p := ⟨bq, off + k, none⟩) hbq).trans c0
      have dp := (HBX.out.cell (p := ⟨bp, op + k, none⟩) hbp).trans cp
      have dq := (HBX.out.cell (p := ⟨bd, od + k, none⟩) hbd).trans cq
      have db := (HBX.out.cell (p := ⟨g, 34, none⟩) hgl).trans hcb
      have dy : wr.cell? ⟨w.heap.size + 1, 1, none⟩ = some (.slice A' k cap') := HY.out.cell 1
      have e1 : (0 : Int) ≤ (k : Int) := by omega
      have e2 : (k : Int) < (bs.length : Int) := by omega
      have e3 : (k : Int) < (pay.length : Int) := by omega
      have hsub : IntKind.i64.wrap (q - p) = q - p := IntWalk.i64_in _ (by omega)
      obtain ⟨vs', hs', ho'⟩ := HOB.out
      have hlk : ((lowB n bs pay).take k).length = k := by rw [List.length_take, lowB_length]; omega
      rw [hlk] at hs'
      have HSR := Lib.hid hs'
      have HO' := Lib.hid ho'
      have HLK := Lib.hid hlk
      clear hl hp hq c0 cp cq hol hs' ho' hlk
      go_wp2_with fail
      refine wp_region_F (Below (w.heap.size + 2) wr) [19] (by kernel_rfl) ((Below.refl _ _).drew) (fun hS => ?_)
      refine wpAnyF_take (i := 0) (oi := { dst := some 25, op := Go.Op.fieldAddr 24 (Go.Operand.tmp 5) 1, type := 0, pos := "core.go:50", after := #[], guard := none }) (v := ?_) rfl (by kernel_rfl) (by kernel_rfl) (by kernel_rfl) (by kernel_rfl) (fun _ _ _ h => h) (Or.inl ⟨by rfl, ?_⟩) hS ?_
      rotate_left
      · intro w' hSw; have q1 := (hSw.cell (p := ⟨bq, off + k, none⟩) (by simp <;> omega)).trans d0; have q2 := (hSw.cell (p := ⟨bp, op + k, none⟩) (by simp <;> omega)).trans dp; have q3 := (hSw.cell (p := ⟨bd, od + k, none⟩) (by simp <;> omega)).trans dq; have q4 := (hSw.cell (p := ⟨g, 34, none⟩) (by simp <;> omega)).trans db; have q5 := (hSw.cell (p := ⟨w.heap.size + 1, 1, none⟩) (by simp <;> omega)).trans dy; go_simp; try with_reducible rfl
      try simp only [Act.put, List.setIfInBounds_toArray, List.set_cons_zero, List.set_cons_succ]
      refine wpAnyF_take (i := 1) (oi := { dst := some 26, op := Go.Op.load 22 (Go.Operand.tmp 25), type := 22, pos := "core.go:50", after := #[{ on := 0, ground := Go.Ground.data }], guard := none }) (v := ?_) rfl (by kernel_rfl) (by kernel_rfl) (by kernel_rfl) (by kernel_rfl) (fun _ _ _ h => h) (Or.inl ⟨by rfl, ?_⟩) hS ?_
      rotate_left
      · intro w' hSw; have q1 := (hSw.cell (p := ⟨bq, off + k, none⟩) (by simp <;> omega)).trans d0; have q2 := (hSw.cell (p := ⟨bp, op + k, none⟩) (by simp <;> omega)).trans dp; have q3 := (hSw.cell (p := ⟨bd, od + k, none⟩) (by simp <;> omega)).trans dq; have q4 := (hSw.cell (p := ⟨g, 34, none⟩) (by simp <;> omega)).trans db; have q5 := (hSw.cell (p := ⟨w.heap.size + 1, 1, none⟩) (by simp <;> omega)).trans dy; go_simp; try with_reducible rfl
      try simp only [Act.put, List.setIfInBounds_toArray, List.set_cons_zero, List.set_cons_succ]
      refine wpAnyF_take (i := 2) (oi := { dst := some 27, op := Go.Op.move (Go.Operand.tmp 0), type := 153, pos := "core.go:50", after := #[], guard := none }) (v := ?_) rfl (by kernel_rfl) (by kernel_rfl) (by kernel_rfl) (by kernel_rfl) (fun _ _ _ h => h) (Or.inl ⟨by rfl, ?_⟩) hS ?_
      rotate_left
      · intro w' hSw; have q1 := (hSw.cell (p := ⟨bq, off + k, none⟩) (by simp <;> omega)).trans d0; have q2 := (hSw.cell (p := ⟨bp, op + k, none⟩) (by simp <;> omega)).trans dp; have q3 := (hSw.cell (p := ⟨bd, od + k, none⟩) (by simp <;> omega)).trans dq; have q4 := (hSw.cell (p := ⟨g, 34, none⟩) (by simp <;> omega)).trans db; have q5 := (hSw.cell (p := ⟨w.heap.size + 1, 1, none⟩) (by simp <;> omega)).trans dy; go_simp; try with_reducible rfl
      try simp only [Act.put, List.setIfInBounds_toArray, List.set_cons_zero, List.set_cons_succ]
      refine wpAnyF_take (i := 3) (oi := { dst := some 28, op := Go.Op.nilCheck (Go.Operand.tmp 27), type := 0, pos := "core.go:50", after := #[{ on := 2, ground := Go.Ground.data }], guard := none }) (v := ?_) rfl (by kernel_rfl) (by kernel_rfl) (by kernel_rfl) (by kernel_rfl) (fun _ _ _ h => h) (Or.inl ⟨by rfl, ?_⟩) hS ?_
      rotate_left
      · intro w' hSw; have q1 := (hSw.cell (p := ⟨bq, off + k, none⟩) (by simp <;> omega)).trans d0; have q2 := (hSw.cell (p := ⟨bp, op + k, none⟩) (by simp <;> omega)).trans dp; have q3 := (hSw.cell (p := ⟨bd, od + k, none⟩) (by simp <;> omega)).trans dq; have q4 := (hSw.cell (p := ⟨g, 34, none⟩) (by simp <;> omega)).trans db; have q5 := (hSw.cell (p := ⟨w.heap.size + 1, 1, none⟩) (by simp <;> omega)).trans dy; go_simp; try with_reducible rfl
      try simp only [Act.put, List.setIfInBounds_toArray, List.set_cons_zero, List.set_cons_succ]
      refine wpAnyF_take (i := 4) (oi := { dst := some 29, op := Go.Op.fieldAddr 158 (Go.Operand.tmp 28) 2, type := 0, pos := "core.go:50", after := #[{ on := 3, ground := Go.Ground.data }], guard := none }) (v := ?_) rfl (by kernel_rfl) (by kernel_rfl) (by kernel_rfl) (by kernel_rfl) (fun _ _ _ h => h) (Or.inl ⟨by rfl, ?_⟩) hS ?_
      rotate_left
      · intro w' hSw; have q1 := (hSw.cell (p := ⟨bq, off + k, none⟩) (by simp <;> omega)).trans d0; have q2 := (hSw.cell (p := ⟨bp, op + k, none⟩) (by simp <;> omega)).trans dp; have q3 := (hSw.cell (p := ⟨bd, od + k, none⟩) (by simp <;> omega)).trans dq; have q4 := (hSw.cell (p := ⟨g, 34, none⟩) (by simp <;> omega)).trans db; have q5 := (hSw.cell (p := ⟨w.heap.size + 1, 1, none⟩) (by simp <;> omega)).trans dy; go_simp; try with_reducible rfl
      try simp only [Act.put, List.setIfInBounds_toArray, List.set_cons_zero, List.set_cons_succ]
      refine wpAnyF_take (i := 5) (oi := { dst := some 30, op := Go.Op.load 34 (Go.Operand.tmp 29), type := 34, pos := "core.go:50", after := #[{ on := 4, ground := Go.Ground.data }], guard := none }) (v := ?_) rfl (by kernel_rfl) (by kernel_rfl) (by kernel_rfl) (by kernel_rfl) (fun _ _ _ h => h) (Or.inl ⟨by rfl, ?_⟩) hS ?_
      rotate_left
      · intro w' hSw; have q1 := (hSw.cell (p := ⟨bq, off + k, none⟩) (by simp <;> omega)).trans d0; have q2 := (hSw.cell (p := ⟨bp, op + k, none⟩) (by simp <;> omega)).trans dp; have q3 := (hSw.cell (p := ⟨bd, od + k, none⟩) (by simp <;> omega)).trans dq; have q4 := (hSw.cell (p := ⟨g, 34, none⟩) (by simp <;> omega)).trans db; have q5 := (hSw.cell (p := ⟨w.heap.size + 1, 1, none⟩) (by simp <;> omega)).trans dy; go_simp; try with_reducible rfl
      try simp only [Act.put, List.setIfInBounds_toArray, List.set_cons_zero, List.set_cons_succ]
      refine wpAnyF_take (i := 6) (oi := { dst := some 31, op := Go.Op.move (Go.Operand.tmp 6), type := 3, pos := "core.go:50", after := #[], guard := none }) (v := ?_) rfl (by kernel_rfl) (by kernel_rfl) (by kernel_rfl) (by kernel_rfl) (fun _ _ _ h => h) (Or.inl ⟨by rfl, ?_⟩) hS ?_
      rotate_left
      · intro w' hSw; have q1 := (hSw.cell (p := ⟨bq, off + k, none⟩) (by simp <;> omega)).trans d0; have q2 := (hSw.cell (p := ⟨bp, op + k, none⟩) (by simp <;> omega)).trans dp; have q3 := (hSw.cell (p := ⟨bd, od + k, none⟩) (by simp <;> omega)).trans dq; have q4 := (hSw.cell (p := ⟨g, 34, none⟩) (by simp <;> omega)).trans db; have q5 := (hSw.cell (p := ⟨w.heap.size + 1, 1, none⟩) (by simp <;> omega)).trans dy; go_simp; try with_reducible rfl
      try simp only [Act.put, List.setIfInBounds_toArray, List.set_cons_zero, List.set_cons_succ]
      refine wpAnyF_take (i := 7) (oi := { dst := some 32, op := Go.Op.indexAddr 34 (Go.Operand.tmp 30) (Go.Operand.tmp 31), type := 0, pos := "core.go:50", after := #[{ on := 5, ground := Go.Ground.data }, { on := 6, ground := Go.Ground.data }], guard := none }) (v := ?_) rfl (by kernel_rfl) (by kernel_rfl) (by kernel_rfl) (by kernel_rfl) (fun _ _ _ h => h) (Or.inl ⟨by rfl, ?_⟩) hS ?_
      rotate_left
      · intro w' hSw; have q1 := (hSw.cell (p := ⟨bq, off + k, none⟩) (by simp <;> omega)).trans d0; have q2 := (hSw.cell (p := ⟨bp, op + k, none⟩) (by simp <;> omega)).trans dp; have q3 := (hSw.cell (p := ⟨bd, od + k, none⟩) (by simp <;> omega)).trans dq; have q4 := (hSw.cell (p := ⟨g, 34, none⟩) (by simp <;> omega)).trans db; have q5 := (hSw.cell (p := ⟨w.heap.size + 1, 1, none⟩) (by simp <;> omega)).trans dy; go_simp; try with_reducible rfl
      try simp only [Act.put, List.setIfInBounds_toArray, List.set_cons_zero, List.set_cons_succ]
      refine wpAnyF_take (i := 8) (oi := { dst := some 33, op := Go.Op.load 2 (Go.Operand.tmp 32), type := 2, pos := "core.go:50", after := #[{ on := 7, ground := Go.Ground.data }], guard := none }) (v := ?_) rfl (by kernel_rfl) (by kernel_rfl) (by kernel_rfl) (by kernel_rfl) (fun _ _ _ h => h) (Or.inl ⟨by rfl, ?_⟩) hS ?_
      rotate_left
      · intro w' hSw; have q1 := (hSw.cell (p := ⟨bq, off + k, none⟩) (by simp <;> omega)).trans d0; have q2 := (hSw.cell (p := ⟨bp, op + k, none⟩) (by simp <;> omega)).trans dp; have q3 := (hSw.cell (p := ⟨bd, od + k, none⟩) (by simp <;> omega)).trans dq; have q4 := (hSw.cell (p := ⟨g, 34, none⟩) (by simp <;> omega)).trans db; have q5 := (hSw.cell (p := ⟨w.heap.size + 1, 1, none⟩) (by simp <;> omega)).trans dy; go_simp; try with_reducible rfl
      try simp only [Act.put, List.setIfInBounds_toArray, List.set_cons_zero, List.set_cons_succ]
      refine wpAnyF_take (i := 9) (oi := { dst := some 34, op := Go.Op.move (Go.Operand.tmp 1), type := 34, pos := "core.go:50", after := #[], guard := none }) (v := ?_) rfl (by kernel_rfl) (by kernel_rfl) (by kernel_rfl) (by kernel_rfl) (fun _ _ _ h => h) (Or.inl ⟨by rfl, ?_⟩) hS ?_
      rotate_left
      · intro w' hSw; have q1 := (hSw.cell (p := ⟨bq, off + k, none⟩) (by simp <;> omega)).trans d0; have q2 := (hSw.cell (p := ⟨bp, op + k, none⟩) (by simp <;> omega)).trans dp; have q3 := (hSw.cell (p := ⟨bd, od + k, none⟩) (by simp <;> omega)).trans dq; have q4 := (hSw.cell (p := ⟨g, 34, none⟩) (by simp <;> omega)).trans db; have q5 := (hSw.cell (p := ⟨w.heap.size + 1, 1, none⟩) (by simp <;> omega)).trans dy; go_simp; try with_reducible rfl
      try simp only [Act.put, List.setIfInBounds_toArray, List.set_cons_zero, List.set_cons_succ]
      refine wpAnyF_take (i := 10) (oi := { dst := some 35, op := Go.Op.move (Go.Operand.tmp 6), type := 3, pos := "core.go:50", after := #[], guard := none }) (v := ?_) rfl (by kernel_rfl) (by kernel_rfl) (by kernel_rfl) (by kernel_rfl) (fun _ _ _ h => h) (Or.inl ⟨by rfl, ?_⟩) hS ?_
      rotate_left
      · intro w' hSw; have q1 := (hSw.cell (p := ⟨bq, off + k, none⟩) (by simp <;> omega)).trans d0; have q2 := (hSw.cell (p := ⟨bp, op + k, none⟩) (by simp <;> omega)).trans dp; have q3 := (hSw.cell (p := ⟨bd, od + k, none⟩) (by simp <;> omega)).trans dq; have q4 := (hSw.cell (p := ⟨g, 34, none⟩) (by simp <;> omega)).trans db; have q5 := (hSw.cell (p := ⟨w.heap.size + 1, 1, none⟩) (by simp <;> omega)).trans dy; go_simp; try with_reducible rfl
      try simp only [Act.put, List.setIfInBounds_toArray, List.set_cons_zero, List.set_cons_succ]
      refine wpAnyF_take (i := 11) (oi := { dst := some 36, op := Go.Op.indexAddr 34 (Go.Operand.tmp 34) (Go.Operand.tmp 35), type := 0, pos := "core.go:50", after := #[{ on := 9, ground := Go.Ground.data }, { on := 10, ground := Go.Ground.data }], guard := none }) (v := ?_) rfl (by kernel_rfl) (by kernel_rfl) (by kernel_rfl) (by kernel_rfl) (fun _ _ _ h => h) (Or.inl ⟨by rfl, ?_⟩) hS ?_
      rotate_left
      · intro w' hSw; have q1 := (hSw.cell (p := ⟨bq, off + k, none⟩) (by simp <;> omega)).trans d0; have q2 := (hSw.cell (p := ⟨bp, op + k, none⟩) (by simp <;> omega)).trans dp; have q3 := (hSw.cell (p := ⟨bd, od + k, none⟩) (by simp <;> omega)).trans dq; have q4 := (hSw.cell (p := ⟨g, 34, none⟩) (by simp <;> omega)).trans db; have q5 := (hSw.cell (p := ⟨w.heap.size + 1, 1, none⟩) (by simp <;> omega)).trans dy; go_simp; try with_reducible rfl
      try simp only [Act.put, List.setIfInBounds_toArray, List.set_cons_zero, List.set_cons_succ]
      refine wpAnyF_take (i := 12) (oi := { dst := some 37, op := Go.Op.load 2 (Go.Operand.tmp 36), type := 2, pos := "core.go:50", after := #[{ on := 11, ground := Go.Ground.data }], guard := none }) (v := ?_) rfl (by kernel_rfl) (by kernel_rfl) (by kernel_rfl) (by kernel_rfl) (fun _ _ _ h => h) (Or.inl ⟨by rfl, ?_⟩) hS ?_
      rotate_left
      · intro w' hSw; have q1 := (hSw.cell (p := ⟨bq, off + k, none⟩) (by simp <;> omega)).trans d0; have q2 := (hSw.cell (p := ⟨bp, op + k, none⟩) (by simp <;> omega)).trans dp; have q3 := (hSw.cell (p := ⟨bd, od + k, none⟩) (by simp <;> omega)).trans dq; have q4 := (hSw.cell (p := ⟨g, 34, none⟩) (by simp <;> omega)).trans db; have q5 := (hSw.cell (p := ⟨w.heap.size + 1, 1, none⟩) (by simp <;> omega)).trans dy; go_simp; try with_reducible rfl
      try simp only [Act.put, List.setIfInBounds_toArray, List.set_cons_zero, List.set_cons_succ]
      refine wpAnyF_take (i := 13) (oi := { dst := some 38, op := Go.Op.binOp Go.BinOp.sub 2 (Go.Operand.tmp 33) (Go.Operand.tmp 37) 2, type := 2, pos := "core.go:50", after := #[{ on := 8, ground := Go.Ground.data }, { on := 12, ground := Go.Ground.data }], guard := none }) (v := ?_) rfl (by kernel_rfl) (by kernel_rfl) (by kernel_rfl) (by kernel_rfl) (fun _ _ _ h => h) (Or.inl ⟨by rfl, ?_⟩) hS ?_
      rotate_left
      · intro w' hSw; have q1 := (hSw.cell (p := ⟨bq, off + k, none⟩) (by simp <;> omega)).trans d0; have q2 := (hSw.cell (p := ⟨bp, op + k, none⟩) (by simp <;> omega)).trans dp; have q3 := (hSw.cell (p := ⟨bd, od + k, none⟩) (by simp <;> omega)).trans dq; have q4 := (hSw.cell (p := ⟨g, 34, none⟩) (by simp <;> omega)).trans db; have q5 := (hSw.cell (p := ⟨w.heap.size + 1, 1, none⟩) (by simp <;> omega)).trans dy; go_simp; try with_reducible rfl
      try simp only [Act.put, List.setIfInBounds_toArray, List.set_cons_zero, List.set_cons_succ]
      refine wpAnyF_take (i := 14) (oi := { dst := some 39, op := Go.Op.move (Go.Operand.tmp 7), type := 41, pos := "core.go:50", after := #[], guard := none }) (v := ?_) rfl (by kernel_rfl) (by kernel_rfl) (by kernel_rfl) (by kernel_rfl) (fun _ _ _ h => h) (Or.inl ⟨by rfl, ?_⟩) hS ?_
      rotate_left
      · intro w' hSw; have q1 := (hSw.cell (p := ⟨bq, off + k, none⟩) (by simp <;> omega)).trans d0; have q2 := (hSw.cell (p := ⟨bp, op + k, none⟩) (by simp <;> omega)).trans dp; have q3 := (hSw.cell (p := ⟨bd, od + k, none⟩) (by simp <;> omega)).trans dq; have q4 := (hSw.cell (p := ⟨g, 34, none⟩) (by simp <;> omega)).trans db; have q5 := (hSw.cell (p := ⟨w.heap.size + 1, 1, none⟩) (by simp <;> omega)).trans dy; go_simp; try with_reducible rfl
      try simp only [Act.put, List.setIfInBounds_toArray, List.set_cons_zero, List.set_cons_succ]
      refine wpAnyF_ready (rs := [15]) (by kernel_rfl) (by simp) ?_
      refine AllReadyF.cons (o := { dst := some 40, op := Go.Op.call { callee := Go.Callee.value (Go.Operand.func 107), args := #[Go.Operand.tmp 38, Go.Operand.tmp 39], argTypes := #[2, 41] }, type := 41, pos := "core.go:50", after := #[{ on := 13, ground := Go.Ground.data }, { on := 14, ground := Go.Ground.data }], guard := none }) rfl (by rfl) (fun K hK => ?_) ?_
      · go_simp
        refine (lower_any (q - p) (by omega) (by omega) l _ Rx _ (HOL.out.grow (Below.refl _ _).drew) (by omega)).mono ?_
        rintro e w1 ⟨A2, c2, rfl, hown2, hb2⟩
        refine hK.out _ _ ?_ (fun hS => ?_)
        · exact ((Below.refl wr.heap.size wr).drew.trans (hb2.mono (by simp))).mono (by omega)
        clear hK K
        try simp only [Act.put, List.setIfInBounds_toArray, List.set_cons_zero, List.set_cons_succ]
        have hb2' : Below wr.heap.size wr w1 := (Below.refl _ _).drew.trans (hb2.mono (by simp))
        have HB2 := Lib.hid hb2'
        have HW2 := Lib.hid hown2
        have hs1 := hb2'.size
        clear hb2 hb2' hown2
        refine wpAnyF_ready (rs := [16]) (by kernel_rfl) (by simp) ?_
        refine AllReadyF.cons (o := { dst := some 41, op := Go.Op.buildSlice 22 1 #[(0, Go.Operand.tmp 40)], type := 22, pos := "core.go:50", after := #[{ on := 15, ground := Go.Ground.data }], guard := none }) rfl (by rfl) (fun K hK => ?_) ?_
        · go_simp
          refine hK.out _ _ ?_ (fun hS => ?_)
          · exact hS.alloc (by omega) _
          clear hK K
          try simp only [Act.put, List.setIfInBounds_toArray, List.set_cons_zero, List.set_cons_succ]
          refine wpAnyF_ready (rs := [17]) (by kernel_rfl) (by simp) ?_
          refine AllReadyF.cons (o := { dst := some 42, op := Go.Op.call { callee := Go.Callee.builtin Go.Builtin.append, args := #[Go.Operand.tmp 26, Go.Operand.tmp 41], argTypes := #[22, 22] }, type := 22, pos := "core.go:50", after := #[{ on := 1, ground := Go.Ground.data }, { on := 16, ground := Go.Ground.data }, { on := 15, ground := Go.Ground.chain }], guard := none }) rfl (by rfl) (fun K hK => ?_) ?_
          · refine step_app (w1.alloc (.cells #[.slice A2 (lowL (q - p) l).length c2] 41)) rfl (.tmp 26) (.tmp 41) et_offs rfl (w.heap.size + 2) (.slice A' k cap') k vs' rfl (own_alloc (own_grow HSR.out HB2.out) _) (fun _ => True) (.slice (some ⟨w1.heap.size, 0, none⟩) 1 1) 1 [.slice A2 (lowL (q - p) l).length c2] rfl (Sl.blk (sz := 1) (Blk.new w1 41 #[.slice A2 (lowL (q - p) l).length c2]) (Nat.le_refl 1) (by unfold maxLen; omega) rfl) (by simp [Value.oneCell']) (by omega) (by unfold maxLen; omega) (by simp; omega) ?_
            intro A3 c3 w3 hown3 hg3 hloc3
            refine hK.out _ _ ?_ (fun hS => ?_)
            · exact hS.grown hg3 (by simp; omega) (fun g e => (HSR.out.lt g e).1)
            clear hK K
            try simp only [Act.put, List.setIfInBounds_toArray, List.set_cons_zero, List.set_cons_succ]
            have HW3 := Lib.hid hown3
            have HG3 := Lib.hid hg3
            have HL3 := Lib.hid hloc3
            have HY3 := Lib.hid (show Blk w3 (w.heap.size + 1) 24 #[.int .i64 n, .slice A' k cap'] from ((HY.out.grow HB2.out).alloc _).grown hg3 (fun e => by have := (HSR.out.lt _ e.symm).1; omega))
            clear hown3 hg3 hloc3
            refine wpAnyF_take (i := 18) (oi := { dst := some 43, op := Go.Op.fieldAddr 24 (Go.Operand.tmp 5) 1, type := 0, pos := "core.go:50", after := #[{ on := 0, ground := Go.Ground.phase }, { on := 1, ground := Go.Ground.phase }, { on := 2, ground := Go.Ground.phase }, { on := 3, ground := Go.Ground.phase }, { on := 4, ground := Go.Ground.phase }, { on := 5, ground := Go.Ground.phase }, { on := 6, ground := Go.Ground.phase }, { on := 7, ground := Go.Ground.phase }, { on := 8, ground := Go.Ground.phase }, { on := 9, ground := Go.Ground.phase }, { on := 10, ground := Go.Ground.phase }, { on := 11, ground := Go.Ground.phase }, { on := 12, ground := Go.Ground.phase }, { on := 13, ground := Go.Ground.phase }, { on := 14, ground := Go.Ground.phase }, { on := 15, ground := Go.Ground.phase }, { on := 16, ground := Go.Ground.phase }, { on := 17, ground := Go.Ground.phase }], guard := none }) (v := ?_) rfl (by kernel_rfl) (by kernel_rfl) (by kernel_rfl) (by kernel_rfl) (fun _ _ _ h => h) (Or.inl ⟨by rfl, ?_⟩) hS ?_
            rotate_left
            · intro w' hSw; have q1 := (hSw.cell (p := ⟨bq, off + k, none⟩) (by simp <;> omega)).trans d0; have q2 := (hSw.cell (p := ⟨bp, op + k, none⟩) (by simp <;> omega)).trans dp; have q3 := (hSw.cell (p := ⟨bd, od + k, none⟩) (by simp <;> omega)).trans dq; have q4 := (hSw.cell (p := ⟨g, 34, none⟩) (by simp <;> omega)).trans db; have q5 := (hSw.cell (p := ⟨w.heap.size + 1, 1, none⟩) (by simp <;> omega)).trans dy; go_simp; try with_reducible rfl
            try simp only [Act.put, List.setIfInBounds_toArray, List.set_cons_zero, List.set_cons_succ]
            refine wpAnyF_ready (rs := [19]) (by kernel_rfl) (by simp) ?_
            refine AllReadyF.fin (o := { dst := none, op := Go.Op.store 22 (Go.Operand.tmp 43) (Go.Operand.tmp 42), type := 0, pos := "core.go:50", after := #[{ on := 18, ground := Go.Ground.data }, { on := 17, ground := Go.Ground.data }, { on := 17, ground := Go.Ground.chain }, { on := 0, ground := Go.Ground.phase }, { on := 1, ground := Go.Ground.phase }, { on := 2, ground := Go.Ground.phase }, { on := 3, ground := Go.Ground.phase }, { on := 4, ground := Go.Ground.phase }, { on := 5, ground := Go.Ground.phase }, { on := 6, ground := Go.Ground.phase }, { on := 7, ground := Go.Ground.phase }, { on := 8, ground := Go.Ground.phase }, { on := 9, ground := Go.Ground.phase }, { on := 10, ground := Go.Ground.phase }, { on := 11, ground := Go.Ground.phase }, { on := 12, ground := Go.Ground.phase }, { on := 13, ground := Go.Ground.phase }, { on := 14, ground := Go.Ground.phase }, { on := 15, ground := Go.Ground.phase }, { on := 16, ground := Go.Ground.phase }, { on := 17, ground := Go.Ground.phase }], guard := none }) rfl (by rfl) (fun K hK => ?_) ?_
            · have f1 := HY3.out.frozen 1
              have f2 := HY3.out.cell 1
              go_simp
              refine hK.out _ _ ?_
              clear hK K
              try simp only [Act.put, List.setIfInBounds_toArray, List.set_cons_zero, List.set_cons_succ]
              refine wpAnyF_done (by kernel_rfl) ?_ _
              clear hS
              go_wp2_with fail
              go_roundw
              case rel =>
                have hclone : Offs (w1.alloc (.cells #[.slice A2 (lowL (q - p) l).length c2] 41)) (fun b => w.heap.size + 2 ≤ b ∧ (Value.slice A' k cap').ownBlock ≠ some b) (.slice A2 (lowL (q - p) l).length c2) (lowL (q - p) l) := by
                  refine ⟨((Sl.of_own HW2.out).alloc _).mono fun b _ hb => ⟨?_, fun e => ?_⟩, lowL_wf _ (by omega) _ HOL.out.2⟩
                  · have := (HW2.out.lt b hb).1; simp at this; omega
                  · have h1 := (HW2.out.lt b hb).1
                    have h2 := (HSR.out.lt b e).2
                    simp at h1
                    omega
                have hold : ∀ (j : Nat) (l2 : List Off), ((lowB n bs pay).take k)[j]? = some l2 → ∃ u, vs'[j]? = some u ∧ Offs (w1.alloc (.cells #[.slice A2 (lowL (q - p) l).length c2] 41)) (fun b => w.heap.size + 2 ≤ b ∧ (Value.slice A' k cap').ownBlock ≠ some b) u l2 :=
                  fun j l2 hj => let ⟨u, hu, hl⟩ := HO'.out j l2 hj; ⟨u, hu, (hl.grow HB2.out).alloc _⟩
                have hob2 := OwnBuys.snoc HLK.out (own_alloc (own_grow HSR.out HB2.out) _) hold hclone HW3.out HG3.out HL3.out
                refine ⟨k + 1, A3, c3, by omega, by go_num, ?_, (HY3.out.set_ 1 _).drew, ?_⟩
                · rw [List.take_add_one, HLG.out]
                  exact (hob2.far (grownBy_setCell _ ⟨w.heap.size + 1, 1, none⟩ _) (fun j e => by simp at e; omega)).drew
                · exact (((HBR.out.trans ((HB2.out.mono (by omega)).alloc (by omega) _)).grown HG3.out (by simp; omega) (fun j e => by have := (HSR.out.lt j e).1; omega)).setCell (p := ⟨w.heap.size + 1, 1, none⟩) (by simp) _)
              case measure => simp [intOf]; omega
            exact AllReadyF.nil
          exact AllReadyF.nil
        exact AllReadyF.nil
      exact AllReadyF.nil
    · obtain rfl : k = bs.length := by omega
      have hR := HR0.out.below HBR.out (by omega)
      have r1 := hR.cell 1
      have r0 := hR.cell 0
      have rf := hR.frozen
      have y1 := HY.out.cell 1
      have y0 := HY.out.cell 0
      have HRR := Lib.hid hR
      clear hR
      go_wp2_with fail
      have hq := ((HRR.out.set_ 0 (.int .i64 n)).set_ 1 (.slice A' bs.length cap'))
      have s0 := hq.cell 0
      have s1 := hq.cell 1
      simp at s0 s1
      refine bodyPost_ret (v := .agg #[.int .i64 n, .slice A' bs.length cap']) (by simp [results, Try.results100, go_sem, s0, s1]) rfl ⟨_, _, rfl, ?_, ?_⟩
      · have h1 := HOB.out
        rw [List.take_of_length_le (by rw [lowB_length]; omega)] at h1
        exact ((h1.far (grownBy_setCell _ ⟨w.heap.size, 0, none⟩ _) (fun j e => by simp at e; omega)).far (grownBy_setCell _ ⟨w.heap.size, 1, none⟩ _) (fun j e => by simp at e; omega)).mono (by omega)
      · exact (HBX.out.setCell (p := ⟨w.heap.size, 0, none⟩) (by simp) _).setCell (p := ⟨w.heap.size, 1, none⟩) (by simp) _
end Go.Proofs.Ytcigobiolbojhaa.Vb

/- core: asked; clear.Without; what is lowered may be. -/
namespace Go.Proofs.Ytcigobiolbojhaa.Vb
open Go.RowKit

theorem badB_low {all : Nat} {o : Off} {c : Int} (h : badB all o = false) (h0 : 0 ≤ c) (h1 : c < o.c) : badB all ⟨o.g, o.c - c⟩ = false := by
  simp only [badB, Bool.or_eq_false_iff, decide_eq_false_iff_not] at h ⊢
  obtain ⟨⟨⟨h2, h3⟩, h4⟩, h5⟩ := h
  exact ⟨⟨⟨h2, h3⟩, by omega⟩, by omega⟩
theorem checkE_low {n : Int} {l : List Off} {c : Int} (h : checkE n l = 0) (h0 : 0 ≤ c) : checkE n (lowL c l) = 0 := by
  unfold checkE at h ⊢
  have hlen := lowL_len c l
  split at h
  · omega
  · split at h
    · omega
    · rename_i h1 h2
      rw [if_neg h1, if_neg (by omega)]
      have hn : badAt (2 ^ n.toNat - 1) l = none := by
        cases hb : badAt (2 ^ n.toNat - 1) l with
        | none => rfl
        | some k => rw [hb] at h; simp at h
      have hn2 : badAt (2 ^ n.toNat - 1) (lowL c l) = none := by
        rw [badAt_none_iff]
        intro o ho
        simp only [lowL, List.mem_map, List.mem_filter, decide_eq_true_eq] at ho
        obtain ⟨p, ⟨hp, hlt⟩, rfl⟩ := ho
        exact badB_low ((badAt_none_iff _ _).mp hn p hp) h0 hlt
      rw [hn2]
theorem lowB_mem {n : Int} {bs : List (List Off)} {pay : List Int} {l : List Off} (hok : payL pay (bidsC n bs) = true) (h : l ∈ lowB n bs pay) : ∃ l0 ∈ bs, ∃ c : Int, 0 ≤ c ∧ l = lowL c l0 := by
  simp only [lowB, List.mem_mapIdx] at h
  obtain ⟨i, hi, rfl⟩ := h
  refine ⟨bs[i], List.getElem_mem hi, _, ?_, rfl⟩
  obtain ⟨hlen, hall⟩ := (payL_iff _ _).mp hok
  have hb : i < (bidsC n bs).length := by rw [bidsC_length]; exact hi
  have h1 := List.getElem?_eq_getElem hb
  have h2 := List.getElem?_eq_getElem (show i < pay.length by omega)
  have := hall i _ _ h2 h1
  rw [h1, h2]
  simp only [Option.getD_some]
  omega
theorem instE_low {n : Int} {bs : List (List Off)} {pay : List Int} (hi : instE n bs = 0) (hok : payL pay (bidsC n bs) = true) : instE n (lowB n bs pay) = 0 := by
  obtain ⟨h1, h2, h3, h4, h5⟩ := instE_zero hi
  refine instE_of h1 h2 (by rw [lowB_length]; exact h3) (fun l hl => ?_) (fun l hl => ?_)
  · obtain ⟨l0, hl0, c, _, rfl⟩ := lowB_mem hok hl
    have := h4 l0 hl0
    have := lowL_len c l0
    omega
  · obtain ⟨l0, hl0, c, hc, rfl⟩ := lowB_mem hok hl
    exact checkE_low (h5 l0 hl0) hc

set_option maxHeartbeats 800000 in
theorem clearWithout_ok (n : Int) (bs : List (List Off)) (buyer : Int) (v : Value) (R : Nat → Prop) (w : World) (hl : Buys w R v bs) (he : withE n bs buyer [] = 0) :
    Calls Try.prog 47 #[.agg #[.int .i64 n, v], .int .i64 buyer] w fun e w' => ∃ A' cap', e = .returned (.tuple #[.agg #[.slice A' bs.length cap', .int .i64 (W (bs.set buyer.toNat []) (allOf n))], .int .i64 0]) ∧
      w'.ownsRow w.heap.size 3 1 (.slice A' bs.length cap') bs.length (ints (bestC n (bs.set buyer.toNat []))) ∧ Below w.heap.size w w' := by
  obtain ⟨vs, ⟨_, A, cap, rfl, _⟩, _⟩ := id hl
  have HB := Lib.hid hl
  have HI := Lib.hid (instE_nil (i := buyer.toNat) (withE_inst he))
  have HE := Lib.hid he
  have hls : (bs.set buyer.toNat []).length = bs.length := by simp
  have HLS := Lib.hid hls
  clear hl he hls
  go_enter Try.func47, Try.ntmps47
  go_wp2_with (first
    | (go_at_call 32; refine (without_ok n bs buyer _ R _ ((HB.out.alloc _).alloc _) HE.out).mono ?_; rintro e w1 ⟨A1, cap1, rfl, hob, hb1⟩; have hb1a := hb1.mono (B' := w.heap.size + 2) (by simp); obtain ⟨cx0, cx1, cy0, cy1, fx, fy, hs1, hb1'⟩ := two_new hb1a; have HOB := Lib.hid hob; have HB1 := Lib.hid hb1'; clear hob hb1 hb1a hb1')
    | (go_at_call 31; go_must (refine (best_ok n (bs.set buyer.toNat []) (.slice A1 bs.length cap1) _ _ ((HOB.out.alloc _).buys) HI.out).mono ?_); go_must (rintro e w2 ⟨A2, cap2, rfl, hown, hb2⟩); go_must (rw [HLS.out] at hown); go_must (rw [HLS.out]); have hb2a := ((Below.refl w1.heap.size w1).alloc (Nat.le_refl _) _).trans (hb2.mono (B' := w1.heap.size) (by simp)); have cz0 := (hb2a.cell (p := ⟨w.heap.size + 1, 0, none⟩) (by simp; omega)).trans cy0; have cz1 := (hb2a.cell (p := ⟨w.heap.size + 1, 1, none⟩) (by simp; omega)).trans cy1; have fz : ∀ i, w2.frozen? ⟨w.heap.size + 1, i, none⟩ = false := fun i => (hb2a.frozen (p := ⟨w.heap.size + 1, i, none⟩) (by simp; omega)).trans (fy i); have HOW := Lib.hid hown; have HB2 := Lib.hid hb2a; clear hown hb2 hb2a))
  refine bodyPost_ret (v := .tuple #[.agg #[.slice A2 bs.length cap2, .int .i64 (W (bs.set buyer.toNat []) (allOf n))], .int .i64 0]) (by simp [results, Try.results47, go_sem, cz0, cz1]) rfl ⟨_, _, rfl, ?_, ?_⟩
  · exact own_mono (ownsRow_setCell_below (ownsRow_setCell_below HOW.out (a := ⟨w.heap.size + 1, 0, none⟩) (by simp; omega) _) (a := ⟨w.heap.size + 1, 1, none⟩) (by simp; omega) _) (by simp; omega)
  · exact ((HB1.out.trans (HB2.out.mono (by omega))).setCell (p := ⟨w.heap.size + 1, 0, none⟩) (by simp) _).setCell (p := ⟨w.heap.size + 1, 1, none⟩) (by simp) _

theorem asked_inst (n : Int) (bs : List (List Off)) (v : Value) (R Rp : Nat → Prop) (pay : List Int) (vp : Value) (w : World) (hl : Buys w R v bs) (hp : Sl w Rp vp pay.length 1 (ints pay)) (hi : instE n bs ≠ 0) :
    Calls Try.prog 99 #[.agg #[.int .i64 n, v], vp] w fun e w' => e = .returned (.tuple #[.pointer none, .int .i64 (instE n bs)]) ∧ Below w.heap.size w w' := by
  obtain ⟨vs, ⟨_, A, cap, rfl, _⟩, _⟩ := id hl
  obtain ⟨_, Ap, capp, rfl, _⟩ := id hp
  have HB := Lib.hid hl
  have HI := Lib.hid hi
  have hne : (instE n bs != 0) = true := by simp [hi]
  clear hl hi hp
  go_enter Try.func99, Try.ntmps99
  go_wp2_with (go_at_call 93; refine (of_err n bs _ R _ (HB.out.alloc _) HI.out).mono ?_; rintro e w1 ⟨rfl, hb1⟩; have HB1 := Lib.hid (((Below.refl w.heap.size w).alloc (Nat.le_refl _) _).trans (hb1.mono (by simp))); clear hb1)
  go_ret2
  exact ⟨rfl, HB1.out⟩

set_option maxHeartbeats 800000 in
theorem asked_no (n : Int) (bs : List (List Off)) (v : Value) (R Rp : Nat → Prop) (pay : List Int) (vp : Value) (w : World) (hl : Buys w R v bs) (hp : Sl w Rp vp pay.length 1 (ints pay)) (hi : instE n bs = 0) (hok : payL pay (bidsC n bs) = false) :
    Calls Try.prog 99 #[.agg #[.int .i64 n, v], vp] w fun e w' => e = .returned (.tuple #[.pointer none, .int .i64 2]) ∧ Below w.heap.size w w' := by
  obtain ⟨vs, ⟨_, A, cap, rfl, _⟩, _⟩ := id hl
  obtain ⟨_, Ap, capp, rfl, _⟩ := id hp
  have HB := Lib.hid hl
  have HP := Lib.hid hp
  have HI := Lib.hid hi
  have HOK := Lib.hid hok
  have hl32 := (instE_zero hi).2.2.1
  clear hl hi hp hok
  go_enter Try.func99, Try.ntmps99
  go_wp2_with (first
    | (go_at_call 93; refine (of_ok n bs _ R _ (HB.out.alloc _) HI.out).mono ?_; rintro e w1 ⟨g, A1, c1, rfl, hw1, hb1⟩; have HW1 := Lib.hid hw1; have HB1 := Lib.hid (((Below.refl w.heap.size w).alloc (Nat.le_refl _) _).trans (hb1.mono (by simp))); clear hb1 hw1)
    | (go_at_call 132; refine (payment_any n bs _ _ _ _ _ pay _ Rp _ HW1.out (HP.out.grow HB1.out) hl32).mono ?_; rintro e w2 ⟨rfl, rfl⟩; rw [HOK.out]))
  go_ret2
  exact ⟨rfl, HB1.out⟩

set_option maxHeartbeats 800000 in
theorem asked_ok (n : Int) (bs : List (List Off)) (v : Value) (R Rp : Nat → Prop) (pay : List Int) (vp : Value) (w : World) (hl : Buys w R v bs) (hp : Sl w Rp vp pay.length 1 (ints pay)) (hi : instE n bs = 0) (hok : payL pay (bidsC n bs) = true) :
    Calls Try.prog 99 #[.agg #[.int .i64 n, v], vp] w fun e w' => ∃ g A cap, e = .returned (.tuple #[.pointer (some ⟨g, 0, none⟩), .int .i64 0]) ∧ WonAt w' w.heap.size g n v bs A cap ∧ Below w.heap.size w w' := by
  obtain ⟨vs, ⟨_, A, cap, rfl, _⟩, _⟩ := id hl
  obtain ⟨_, Ap, capp, rfl, _⟩ := id hp
  have HB := Lib.hid hl
  have HP := Lib.hid hp
  have HI := Lib.hid hi
  have HOK := Lib.hid hok
  have hl32 := (instE_zero hi).2.2.1
  clear hl hi hp hok
  go_enter Try.func99, Try.ntmps99
  go_wp2_with (first
    | (go_at_call 93; refine (of_ok n bs _ R _ (HB.out.alloc _) HI.out).mono ?_; rintro e w1 ⟨g, A1, c1, rfl, hw1, hb1⟩; have HW1 := Lib.hid hw1; have HB1 := Lib.hid (((Below.refl w.heap.size w).alloc (Nat.le_refl _) _).trans (hb1.mono (by simp))); clear hb1 hw1)
    | (go_at_call 132; refine (payment_any n bs _ _ _ _ _ pay _ Rp _ HW1.out (HP.out.grow HB1.out) hl32).mono ?_; rintro e w2 ⟨rfl, rfl⟩; rw [HOK.out]))
  go_ret2
  exact ⟨g, A1, c1, rfl, HW1.out.mono (by simp), HB1.out⟩
end Go.Proofs.Ytcigobiolbojhaa.Vb

/- The reference of layer 18: Bids. -/
namespace Go.Proofs.Ytcigobiolbojhaa.Vb
open Go.RowKit

theorem et_bool : ElemT Try.prog 99 4 1 1 := elemT_of Try.underlying99 (by omega) (z := .bool false) (by kernel_rfl) rfl
def bools (l : List Bool) : List Value := l.map Value.bool
def winL (n : Int) (bs : List (List Off)) : List Bool := (List.range bs.length).map (winB (bestC n bs))
theorem winL_len (n : Int) (bs : List (List Off)) : (winL n bs).length = bs.length := by simp [winL]
theorem winL_get {n : Int} {bs : List (List Off)} {k : Nat} (h : k < bs.length) : (winL n bs)[k]? = some (winB (bestC n bs) k) := by simp [winL, h]

set_option maxHeartbeats 800000 in
theorem refBids_err (n : Int) (bs : List (List Off)) (v : Value) (R : Nat → Prop) (w : World) (hl : Buys w R v bs) (hi : instE n bs ≠ 0) :
    Calls Try.prog 94 #[.agg #[.int .i64 n, v]] w fun e w' => e = .returned (.tuple #[.slice none 0 0, .slice none 0 0, .int .i64 (instE n bs)]) ∧ Below w.heap.size w w' := by
  obtain ⟨_, ⟨_, A, cap, rfl, _⟩, _⟩ := id hl
  have HB := Lib.hid hl
  have HI := Lib.hid hi
  have hne : (instE n bs != 0) = true := by simpa using hi
  clear hl hi
  go_enter Try.func94, Try.ntmps94
  go_wp2_with fail
  refine (refBest15_err n bs _ R _ (HB.out.alloc _) HI.out).mono ?_
  rintro e w1 ⟨rfl, hb1⟩
  have HB1 := Lib.hid (one_blk' hb1).2.2
  clear hb1
  go_wp2_with fail
  exact bodyPost_ret (v := .tuple #[.slice none 0 0, .slice none 0 0, .int .i64 (instE n bs)]) (by simp [results, Try.results94, go_sem]) rfl ⟨rfl, HB1.out.alloc HB1.out.size _⟩

set_option maxRecDepth 100000 in
set_option maxHeartbeats 3200000 in
theorem refBids_ok (n : Int) (bs : List (List Off)) (v : Value) (R : Nat → Prop) (w : World) (hl : Buys w R v bs) (hi : instE n bs = 0) :
    Calls Try.prog 94 #[.agg #[.int .i64 n, v]] w fun e w' => ∃ A1 c1 A2 c2, e = .returned (.tuple #[.slice A1 bs.length c1, .slice A2 bs.length c2, .int .i64 0]) ∧
      w'.ownsRow w.heap.size 2 1 (.slice A1 bs.length c1) bs.length (ints (bidsC n bs)) ∧ w'.ownsRow w.heap.size 4 1 (.slice A2 bs.length c2) bs.length (bools (winL n bs)) ∧ Below w.heap.size w w' := by
  obtain ⟨_, ⟨_, A, cap, rfl, _⟩, _⟩ := id hl
  have HB := Lib.hid hl
  have HI := Lib.hid hi
  have hl32 := (instE_zero hi).2.2.1
  clear hl hi
  go_enter Try.func94, Try.ntmps94
  go_wp2_with fail
  refine (refBest15_ok n bs _ R _ (HB.out.alloc _) HI.out).mono ?_
  rintro e w1 ⟨A1, c1, rfl, hown, hb1⟩
  obtain ⟨hX, hs1, hbw⟩ := one_blk' hb1
  have hown' : w1.ownsRow (w.heap.size + 1) 3 1 (.slice A1 bs.length c1) bs.length (ints (bestC n bs)) := by simpa using hown
  obtain ⟨w2, hw2⟩ : ∃ V, V = w1.alloc (.cells #[.slice A1 bs.length c1, .int .i64 (W bs (allOf n))] 66) := ⟨_, rfl⟩
  have hal := (Below.refl w1.heap.size w1).alloc (Nat.le_refl _) (.cells #[.slice A1 bs.length c1, .int .i64 (W bs (allOf n))] 66)
  have hC := Blk.new w1 66 #[.slice A1 bs.length c1, .int .i64 (W bs (allOf n))]
  have hs2 : w2.heap.size = w1.heap.size + 1 := by rw [hw2]; simp
  rw [← hw2] at hal hC
  have HX := Lib.hid (hX.grow hal)
  have HC := Lib.hid hC
  have HO := Lib.hid (own_grow hown' hal)
  have HBW := Lib.hid (hbw.trans (hal.mono hbw.size))
  clear hX hbw hown hown' hal hC hb1
  go_wp2_with fail
  rw [← hw2]
  clear hw2
  go_loopw [7, 8, 9] (fun s1 s2 i wr => ∃ (k : Nat) (B1 : Option Addr) (d1 : Nat) (B2 : Option Addr) (d2 : Nat), k ≤ bs.length ∧ i = .int .i64 k ∧ s1 = .slice B1 k d1 ∧ s2 = .slice B2 k d2 ∧
      wr.ownsRow w2.heap.size 2 1 (.slice B1 k d1) k (ints ((bidsC n bs).take k)) ∧ wr.ownsRow w2.heap.size 4 1 (.slice B2 k d2) k (bools ((winL n bs).take k)) ∧ Below w2.heap.size w2 wr) (fun _ _ i _ => bs.length - (intOf i).toNat)
  case atStart => exact ⟨0, none, 0, none, 0, Nat.zero_le _, rfl, rfl, rfl, World.ownsRow_nil _ _ _ _, World.ownsRow_nil _ _ _ _, Below.refl _ _⟩
  case round =>
    obtain ⟨k, B1, d1, B2, d2, hk, rfl, rfl, rfl, ho1, ho2, hb⟩ := hrel
    have hbw := HBW.out.trans (hb.mono HBW.out.size)
    have hXr := HX.out.grow hb
    have hCr := HC.out.grow hb
    have x1 : wr.cell? ⟨w.heap.size, 1, none⟩ = some (.slice A bs.length cap) := hXr.cell 1
    have d0 : wr.cell? ⟨w1.heap.size, 0, none⟩ = some (.slice A1 bs.length c1) := hCr.cell 0
    have hne1 : ∀ g, (Value.slice B1 k d1).ownBlock = some g → (Value.slice B2 k d2).ownBlock ≠ some g := fun g hg => own_ne ho1 ho2 (by decide) hg
    have HNE := Lib.hid hne1
    have HO1 := Lib.hid ho1
    have HO2 := Lib.hid ho2
    have HBB := Lib.hid hb
    have HBWR := Lib.hid hbw
    have hsz := hb.size
    clear hXr hCr hne1 ho1 ho2
    by_cases hlt : k < bs.length
    · obtain ⟨cn, hcn⟩ : ∃ c, (bestC n bs)[k]? = some c := ⟨_, List.getElem?_eq_getElem (by rw [bestC, choose_length]; exact hlt)⟩
      obtain ⟨gC, offC, c2, hAC, hgC, hc2, cc⟩ := (Sl.of_own (own_grow HO.out hb)).int_at hlt
      obtain rfl : cn = c2 := by rw [hcn] at hc2; injection hc2
      subst hAC
      have hbg := bidsC_get hcn
      have hwg := winL_get (n := n) hlt
      have hwb : winB (bestC n bs) k = decide (0 ≤ cn) := by unfold winB; rw [hcn]
      have htk1 : (bidsC n bs).take (k + 1) = (bidsC n bs).take k ++ [coinAt bs k cn] := by rw [List.take_add_one, hbg]; rfl
      have htk2 : (winL n bs).take (k + 1) = (winL n bs).take k ++ [decide (0 ≤ cn)] := by rw [List.take_add_one, hwg, hwb]; rfl
      have HT1 := Lib.hid htk1
      have HT2 := Lib.hid htk2
      have e1 : (0 : Int) ≤ (k : Int) := by omega
      have e2 : (k : Int) < (bs.length : Int) := by omega
      have hcase := choose_get bs (allOf n) k cn hcn
      clear hbg hwg hwb htk1 htk2 hc2 hcn hb hbw
      rcases hcase with rfl | ⟨j, l, o, rfl, hl, ho⟩
      · have HT1 := Lib.hid (show (bidsC n bs).take (k + 1) = (bidsC n bs).take k ++ [0] from by rw [HT1.out]; rfl)
        have HT2 := Lib.hid (show (winL n bs).take (k + 1) = (winL n bs).take k ++ [false] from by rw [HT2.out]; rfl)
        go_wp2_with (at_builtin; first
          | (refine wpList_app _ rfl (.tmp 33) (.tmp 34) et_i64 rfl w2.heap.size (.slice B1 k d1) k (ints ((bidsC n bs).take k)) rfl (HO1.out.alloc _) _ _ 1 _ rfl (Sl.new wr #[.int .i64 0] _ 1 1 (by unfold maxLen; omega) rfl) (by simp [Value.oneCell']) (by omega) (by unfold maxLen; omega) (by simp; omega) ?_; intro A5 c5 w5 hown5 hg5 _; have HG5 := Lib.hid hg5; have HO5 := Lib.hid hown5; have hs5 := hg5.size; simp at hs5; have HP5 := Lib.hid (own_far (own_alloc HO2.out (.cells #[.int .i64 0] 2)) hg5 (fun g e => HNE.out g e)); clear hown5 hg5)
          | (refine wpList_app _ rfl (.tmp 48) (.tmp 51) et_bool rfl w2.heap.size (.slice B2 k d2) k (bools ((winL n bs).take k)) rfl (HP5.out.alloc _) _ _ 1 _ rfl (Sl.new w5 #[.bool false] _ 1 1 (by unfold maxLen; omega) rfl) (by simp [Value.oneCell']) (by omega) (by unfold maxLen; omega) (by simp; omega) ?_; intro A6 c6 w6 hown6 hg6 _; have HG6 := Lib.hid hg6; have HO6 := Lib.hid hown6; have HP6 := Lib.hid (own_far (own_alloc HO5.out (.cells #[.bool false] 4)) hg6 (fun g e e2 => own_ne HO5.out HP5.out (by decide) e2 e)); clear hown6 hg6))
        go_roundw
        case rel =>
          refine ⟨k + 1, A5, c5, A6, c6, by omega, by go_num, rfl, rfl, ?_, ?_, ?_⟩
          · rw [HT1.out]; simpa [ints] using HP6.out
          · rw [HT2.out]; simpa [bools] using HO6.out
          · exact (((HBB.out.alloc (by omega) _).grown HG5.out (by simp; omega) (fun g e => (HO1.out.lt g e).1)).alloc (by omega) _).grown HG6.out (by simp; omega) (fun g e => (HP5.out.lt g e).1)
        case measure => simp [intOf]; omega
      · have HT1 := Lib.hid (show (bidsC n bs).take (k + 1) = (bidsC n bs).take k ++ [o.c] from by rw [HT1.out]; unfold coinAt; rw [if_neg (by omega)]; simp [hl, ho])
        have HT2 := Lib.hid (show (winL n bs).take (k + 1) = (winL n bs).take k ++ [true] from by rw [HT2.out, decide_eq_true (by omega)])
        obtain ⟨vs', ⟨_, A', cap', hv, _, _, hcs⟩, hvs⟩ := HB.out
        injection hv with hv1 _ hv2
        subst hv1 hv2
        obtain ⟨bq, off, rfl, _, hbq, hcell⟩ := hcs (by omega)
        obtain ⟨u, hu, hoff⟩ := hvs k l hl
        have hjl := (List.getElem?_eq_some_iff.mp ho).1
        obtain ⟨⟨_, A4, cap4, rfl, _⟩, _⟩ := id hoff
        obtain ⟨b2, off2, rfl, hb2, _, o1⟩ := hoff.at_ ho
        have q0 := (HBWR.out.cell (p := ⟨bq, off + k, none⟩) hbq).trans (hcell _ _ hu)
        have q1 := (HBWR.out.cell (p := ⟨b2, off2 + j * 2 + 1, none⟩) hb2).trans o1
        have e4 : (0 : Int) ≤ (j : Int) := by omega
        have e5 : (j : Int) < (l.length : Int) := by omega
        clear hl ho hu hoff o1 hcell hvs hcs
        go_wp2_with (at_builtin; first
          | (refine wpList_app _ rfl (.tmp 36) (.tmp 46) et_i64 rfl w2.heap.size (.slice B1 k d1) k (ints ((bidsC n bs).take k)) rfl (HO1.out.alloc _) _ _ 1 _ rfl (Sl.new wr #[.int .i64 o.c] _ 1 1 (by unfold maxLen; omega) rfl) (by simp [Value.oneCell']) (by omega) (by unfold maxLen; omega) (by simp; omega) ?_; intro A5 c5 w5 hown5 hg5 _; have HG5 := Lib.hid hg5; have HO5 := Lib.hid hown5; have hs5 := hg5.size; simp at hs5; have HP5 := Lib.hid (own_far (own_alloc HO2.out (.cells #[.int .i64 o.c] 2)) hg5 (fun g e => HNE.out g e)); clear hown5 hg5)
          | (refine wpList_app _ rfl (.tmp 48) (.tmp 51) et_bool rfl w2.heap.size (.slice B2 k d2) k (bools ((winL n bs).take k)) rfl (HP5.out.alloc _) _ _ 1 _ rfl (Sl.new w5 #[.bool true] _ 1 1 (by unfold maxLen; omega) rfl) (by simp [Value.oneCell']) (by omega) (by unfold maxLen; omega) (by simp; omega) ?_; intro A6 c6 w6 hown6 hg6 _; have HG6 := Lib.hid hg6; have HO6 := Lib.hid hown6; have HP6 := Lib.hid (own_far (own_alloc HO5.out (.cells #[.bool true] 4)) hg6 (fun g e e2 => own_ne HO5.out HP5.out (by decide) e2 e)); clear hown6 hg6))
        go_roundw
        case rel =>
          refine ⟨k + 1, A5, c5, A6, c6, by omega, by go_num, rfl, rfl, ?_, ?_, ?_⟩
          · rw [HT1.out]; simpa [ints] using HP6.out
          · rw [HT2.out]; simpa [bools] using HO6.out
          · exact (((HBB.out.alloc (by omega) _).grown HG5.out (by simp; omega) (fun g e => (HO1.out.lt g e).1)).alloc (by omega) _).grown HG6.out (by simp; omega) (fun g e => (HP5.out.lt g e).1)
        case measure => simp [intOf]; omega
    · obtain rfl : k = bs.length := by omega
      have h1 : (bidsC n bs).take bs.length = bidsC n bs := List.take_of_length_le (by rw [bidsC_length]; omega)
      have h2 : (winL n bs).take bs.length = winL n bs := List.take_of_length_le (by rw [winL_len]; omega)
      have HH1 := Lib.hid h1
      have HH2 := Lib.hid h2
      clear h1 h2 hb hbw
      go_wp2_with fail
      refine bodyPost_ret (v := .tuple #[.slice B1 bs.length d1, .slice B2 bs.length d2, .int .i64 0]) (by simp [results, Try.results94, go_sem]) rfl ⟨B1, d1, B2, d2, rfl, ?_, ?_, HBWR.out⟩
      · have := HO1.out; rw [HH1.out] at this; exact own_mono this (by omega)
      · have := HO2.out; rw [HH2.out] at this; exact own_mono this (by omega)
end Go.Proofs.Ytcigobiolbojhaa.Vb

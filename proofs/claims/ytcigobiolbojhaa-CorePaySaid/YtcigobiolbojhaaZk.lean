/- Joined by program: LentW Kept Over K18a K18b K18c StepsW. -/
import Derived.Test.YtcigobiolbojhaaZj
import Derived.Test.YtcigobiolbojhaaZd
/- Law 18's own: lent. -/
namespace Go.Proofs.Ytcigobiolbojhaa.Vb
open Go.RowKit

set_option maxRecDepth 100000 in
set_option maxHeartbeats 3200000 in
theorem lent_any (n : Int) (bs : List (List Off)) (v : Value) (R : Nat → Prop) (w : World) (hl : Buys w R v bs) (hsm : Small bs) :
    Calls Try.prog 38 #[.agg #[.int .i64 n, v]] w fun e w' => ∃ v', e = .returned (.agg #[.int .i64 n, v']) ∧ Lent w' w.heap.size v' bs ∧ Below w.heap.size w w' := by
  obtain ⟨vs, ⟨hlen, A, cap, rfl, hncap, hcap, hcells⟩, hvs⟩ := id hl
  have hsm1 := hsm.1
  have HSM := Lib.hid hsm.2
  have HC := Lib.hid hcells
  have HV := Lib.hid hvs
  clear hl hcells hvs hlen hcap hsm
  go_enter Try.func38, Try.ntmps38
  go_wp2
  have hw0 : ∃ W0, W0 = ((w.alloc (.cells #[.int .i64 n, .slice A bs.length cap] 24)).alloc (.cells #[.int .i64 0, .slice none 0 0] 24)).alloc (.cells #[.int .i64 n, .slice none 0 0] 24) := ⟨_, rfl⟩
  obtain ⟨W0, hW0⟩ := hw0
  have HX := Lib.hid (show Blk W0 w.heap.size 24 #[.int .i64 n, .slice A bs.length cap] from by rw [hW0]; exact ((Blk.new w _ _).alloc _).alloc _)
  have HR := Lib.hid (show Blk W0 (w.heap.size + 1) 24 #[.int .i64 0, .slice none 0 0] from by rw [hW0]; exact (Blk.new' _ _ (by simp)).alloc _)
  have HY := Lib.hid (show Blk W0 (w.heap.size + 2) 24 #[.int .i64 n, .slice none 0 0] from by rw [hW0]; exact Blk.new' _ _ (by simp))
  have HBW := Lib.hid (show Below w.heap.size w W0 from by rw [hW0]; exact (((Below.refl _ _).alloc (Nat.le_refl _) _).alloc (by simp) _).alloc (by simp; omega) _)
  have hs0 : W0.heap.size = w.heap.size + 3 := by rw [hW0]; simp
  rw [← hW0]
  clear hW0
  go_loopw [4] (fun i wr => ∃ (k : Nat) (A' : Option Addr) (cap' : Nat), k ≤ bs.length ∧ i = .int .i64 k ∧ GivM wr (w.heap.size + 3) (.slice A' k cap') (bs.take k) ∧ Blk wr (w.heap.size + 2) 24 #[.int .i64 n, .slice A' k cap'] ∧ Below (w.heap.size + 2) W0 wr)
    (fun i _ => bs.length - (intOf i).toNat)
  case atStart => exact ⟨0, none, 0, Nat.zero_le _, rfl, ⟨[], World.ownsRow_nil _ _ _ _, fun k l hk => by simp at hk⟩, HY.out, Below.refl _ _⟩
  case round =>
    obtain ⟨k, A', cap', hk, rfl, hgv, hy, hb⟩ := hrel
    have hx := HX.out.below hb (by omega)
    have hbw := HBW.out.trans (hb.mono (by omega))
    have x1 : wr.cell? ⟨w.heap.size, 1, none⟩ = some (.slice A bs.length cap) := hx.cell 1
    have y1 : wr.cell? ⟨w.heap.size + 2, 1, none⟩ = some (.slice A' k cap') := hy.cell 1
    have y0 : wr.cell? ⟨w.heap.size + 2, 0, none⟩ = some (.int .i64 n) := hy.cell 0
    have hsz : w.heap.size + 3 ≤ wr.heap.size := by have := hy.lt; omega
    have HGV := Lib.hid hgv
    have HY2 := Lib.hid hy
    have HB2 := Lib.hid hb
    have HBW2 := Lib.hid hbw
    by_cases hlt : k < bs.length
    · obtain ⟨bq, off, rfl, _, hbq, hcs⟩ := HC.out (by omega)
      obtain ⟨l, ho⟩ : ∃ l, bs[k]? = some l := ⟨_, List.getElem?_eq_getElem hlt⟩
      obtain ⟨u, hu, hol⟩ := HV.out k l ho
      have c0 : wr.cell? ⟨bq, off + k, none⟩ = some u := by have h := (hbw.cell hbq).trans (hcs _ _ hu); simpa using h
      have hbqr : bq < w.heap.size := hbq
      have HOL := Lib.hid (hol.grow hbw)
      have hll : l.length ≤ 64 := HSM.out l (List.mem_of_getElem? ho)
      obtain ⟨⟨_, A1, cap1, rfl, _⟩, _⟩ := hol
      have HO := Lib.hid ho
      obtain ⟨vs', hs', ho'⟩ := hgv
      have hlk : (bs.take k).length = k := by simp; omega
      rw [hlk] at hs'
      have HS := Lib.hid hs'
      have HO' := Lib.hid ho'
      have HLK := Lib.hid hlk
      clear hcs hu ho hx hy hb hbw hs' ho' hlk
      have e1 : (0 : Int) ≤ (k : Int) := by omega
      have e2 : (k : Int) < (bs.length : Int) := by omega
      have HP0 : Below wr.heap.size wr wr.drew := (Below.refl _ _).drew
      go_wp2_with fail
      refine wp_region_F (Below (w.heap.size + 3) wr) [21] (by kernel_rfl) ((Below.refl _ _).drew) (fun hS => ?_)
      obtain ⟨V0, hV⟩ : ∃ V, V = wr.drew := ⟨_, rfl⟩
      rw [← hV] at hS HP0 ⊢
      replace HP0 := Lib.hid HP0
      clear hV
      refine wpAnyF_take (i := 0) (oi := { dst := some 15, op := Go.Op.fieldAddr 24 (Go.Operand.tmp 3) 1, type := 0, pos := "law.go:39", after := #[], guard := none }) (v := ?_) rfl (by kernel_rfl) (by kernel_rfl) (by kernel_rfl) (by kernel_rfl) (fun _ _ _ h => h) (Or.inl ⟨by rfl, ?_⟩) hS ?_
      rotate_left
      · intro w' hSw; have q1 := (hSw.cell (p := ⟨w.heap.size, 1, none⟩) (by simp <;> omega)).trans x1; have q2 := (hSw.cell (p := ⟨bq, off + k, none⟩) (by simp <;> omega)).trans c0; have q3 : w'.cell? ⟨w.heap.size + 1 + 1, 1, none⟩ = _ := (hSw.cell (p := ⟨w.heap.size + 2, 1, none⟩) (by simp <;> omega)).trans y1; go_simp; try with_reducible rfl
      try simp only [Act.put, List.setIfInBounds_toArray, List.set_cons_zero, List.set_cons_succ]
      refine wpAnyF_take (i := 1) (oi := { dst := some 16, op := Go.Op.load 22 (Go.Operand.tmp 15), type := 22, pos := "law.go:39", after := #[{ on := 0, ground := Go.Ground.data }], guard := none }) (v := ?_) rfl (by kernel_rfl) (by kernel_rfl) (by kernel_rfl) (by kernel_rfl) (fun _ _ _ h => h) (Or.inl ⟨by rfl, ?_⟩) hS ?_
      rotate_left
      · intro w' hSw; have q1 := (hSw.cell (p := ⟨w.heap.size, 1, none⟩) (by simp <;> omega)).trans x1; have q2 := (hSw.cell (p := ⟨bq, off + k, none⟩) (by simp <;> omega)).trans c0; have q3 : w'.cell? ⟨w.heap.size + 1 + 1, 1, none⟩ = _ := (hSw.cell (p := ⟨w.heap.size + 2, 1, none⟩) (by simp <;> omega)).trans y1; go_simp; try with_reducible rfl
      try simp only [Act.put, List.setIfInBounds_toArray, List.set_cons_zero, List.set_cons_succ]
      refine wpAnyF_take (i := 2) (oi := { dst := some 17, op := Go.Op.fieldAddr 24 (Go.Operand.tmp 1) 1, type := 0, pos := "law.go:39", after := #[], guard := none }) (v := ?_) rfl (by kernel_rfl) (by kernel_rfl) (by kernel_rfl) (by kernel_rfl) (fun _ _ _ h => h) (Or.inl ⟨by rfl, ?_⟩) hS ?_
      rotate_left
      · intro w' hSw; have q1 := (hSw.cell (p := ⟨w.heap.size, 1, none⟩) (by simp <;> omega)).trans x1; have q2 := (hSw.cell (p := ⟨bq, off + k, none⟩) (by simp <;> omega)).trans c0; have q3 : w'.cell? ⟨w.heap.size + 1 + 1, 1, none⟩ = _ := (hSw.cell (p := ⟨w.heap.size + 2, 1, none⟩) (by simp <;> omega)).trans y1; go_simp; try with_reducible rfl
      try simp only [Act.put, List.setIfInBounds_toArray, List.set_cons_zero, List.set_cons_succ]
      refine wpAnyF_take (i := 3) (oi := { dst := some 18, op := Go.Op.load 22 (Go.Operand.tmp 17), type := 22, pos := "law.go:39", after := #[{ on := 2, ground := Go.Ground.data }], guard := none }) (v := ?_) rfl (by kernel_rfl) (by kernel_rfl) (by kernel_rfl) (by kernel_rfl) (fun _ _ _ h => h) (Or.inl ⟨by rfl, ?_⟩) hS ?_
      rotate_left
      · intro w' hSw; have q1 := (hSw.cell (p := ⟨w.heap.size, 1, none⟩) (by simp <;> omega)).trans x1; have q2 := (hSw.cell (p := ⟨bq, off + k, none⟩) (by simp <;> omega)).trans c0; have q3 : w'.cell? ⟨w.heap.size + 1 + 1, 1, none⟩ = _ := (hSw.cell (p := ⟨w.heap.size + 2, 1, none⟩) (by simp <;> omega)).trans y1; go_simp; try with_reducible rfl
      try simp only [Act.put, List.setIfInBounds_toArray, List.set_cons_zero, List.set_cons_succ]
      refine wpAnyF_take (i := 4) (oi := { dst := some 19, op := Go.Op.move (Go.Operand.tmp 4), type := 3, pos := "law.go:39", after := #[], guard := none }) (v := ?_) rfl (by kernel_rfl) (by kernel_rfl) (by kernel_rfl) (by kernel_rfl) (fun _ _ _ h => h) (Or.inl ⟨by rfl, ?_⟩) hS ?_
      rotate_left
      · intro w' hSw; have q1 := (hSw.cell (p := ⟨w.heap.size, 1, none⟩) (by simp <;> omega)).trans x1; have q2 := (hSw.cell (p := ⟨bq, off + k, none⟩) (by simp <;> omega)).trans c0; have q3 : w'.cell? ⟨w.heap.size + 1 + 1, 1, none⟩ = _ := (hSw.cell (p := ⟨w.heap.size + 2, 1, none⟩) (by simp <;> omega)).trans y1; go_simp; try with_reducible rfl
      try simp only [Act.put, List.setIfInBounds_toArray, List.set_cons_zero, List.set_cons_succ]
      refine wpAnyF_take (i := 5) (oi := { dst := some 20, op := Go.Op.indexAddr 22 (Go.Operand.tmp 18) (Go.Operand.tmp 19), type := 0, pos := "law.go:39", after := #[{ on := 3, ground := Go.Ground.data }, { on := 4, ground := Go.Ground.data }], guard := none }) (v := ?_) rfl (by kernel_rfl) (by kernel_rfl) (by kernel_rfl) (by kernel_rfl) (fun _ _ _ h => h) (Or.inl ⟨by rfl, ?_⟩) hS ?_
      rotate_left
      · intro w' hSw; have q1 := (hSw.cell (p := ⟨w.heap.size, 1, none⟩) (by simp <;> omega)).trans x1; have q2 := (hSw.cell (p := ⟨bq, off + k, none⟩) (by simp <;> omega)).trans c0; have q3 : w'.cell? ⟨w.heap.size + 1 + 1, 1, none⟩ = _ := (hSw.cell (p := ⟨w.heap.size + 2, 1, none⟩) (by simp <;> omega)).trans y1; go_simp; try with_reducible rfl
      try simp only [Act.put, List.setIfInBounds_toArray, List.set_cons_zero, List.set_cons_succ]
      refine wpAnyF_take (i := 6) (oi := { dst := some 21, op := Go.Op.load 41 (Go.Operand.tmp 20), type := 41, pos := "law.go:39", after := #[{ on := 5, ground := Go.Ground.data }], guard := none }) (v := ?_) rfl (by kernel_rfl) (by kernel_rfl) (by kernel_rfl) (by kernel_rfl) (fun _ _ _ h => h) (Or.inl ⟨by rfl, ?_⟩) hS ?_
      rotate_left
      · intro w' hSw; have q1 := (hSw.cell (p := ⟨w.heap.size, 1, none⟩) (by simp <;> omega)).trans x1; have q2 := (hSw.cell (p := ⟨bq, off + k, none⟩) (by simp <;> omega)).trans c0; have q3 : w'.cell? ⟨w.heap.size + 1 + 1, 1, none⟩ = _ := (hSw.cell (p := ⟨w.heap.size + 2, 1, none⟩) (by simp <;> omega)).trans y1; go_simp; try with_reducible rfl
      try simp only [Act.put, List.setIfInBounds_toArray, List.set_cons_zero, List.set_cons_succ]
      refine wpAnyF_take (i := 8) (oi := { dst := some 23, op := Go.Op.build 45 #[(1, Go.Operand.const (Go.Value.int Go.IntKind.i64 4242))], type := 45, pos := "law.go:39", after := #[], guard := none }) (v := ?_) rfl (by kernel_rfl) (by kernel_rfl) (by kernel_rfl) (by kernel_rfl) (fun _ _ _ h => h) (Or.inl ⟨by rfl, ?_⟩) hS ?_
      rotate_left
      · intro w' hSw; have q1 := (hSw.cell (p := ⟨w.heap.size, 1, none⟩) (by simp <;> omega)).trans x1; have q2 := (hSw.cell (p := ⟨bq, off + k, none⟩) (by simp <;> omega)).trans c0; have q3 : w'.cell? ⟨w.heap.size + 1 + 1, 1, none⟩ = _ := (hSw.cell (p := ⟨w.heap.size + 2, 1, none⟩) (by simp <;> omega)).trans y1; go_simp; try with_reducible rfl
      try simp only [Act.put, List.setIfInBounds_toArray, List.set_cons_zero, List.set_cons_succ]
      refine wpAnyF_take (i := 11) (oi := { dst := some 26, op := Go.Op.fieldAddr 24 (Go.Operand.tmp 1) 1, type := 0, pos := "law.go:39", after := #[], guard := none }) (v := ?_) rfl (by kernel_rfl) (by kernel_rfl) (by kernel_rfl) (by kernel_rfl) (fun _ _ _ h => h) (Or.inl ⟨by rfl, ?_⟩) hS ?_
      rotate_left
      · intro w' hSw; have q1 := (hSw.cell (p := ⟨w.heap.size, 1, none⟩) (by simp <;> omega)).trans x1; have q2 := (hSw.cell (p := ⟨bq, off + k, none⟩) (by simp <;> omega)).trans c0; have q3 : w'.cell? ⟨w.heap.size + 1 + 1, 1, none⟩ = _ := (hSw.cell (p := ⟨w.heap.size + 2, 1, none⟩) (by simp <;> omega)).trans y1; go_simp; try with_reducible rfl
      try simp only [Act.put, List.setIfInBounds_toArray, List.set_cons_zero, List.set_cons_succ]
      refine wpAnyF_take (i := 12) (oi := { dst := some 27, op := Go.Op.load 22 (Go.Operand.tmp 26), type := 22, pos := "law.go:39", after := #[{ on := 11, ground := Go.Ground.data }], guard := none }) (v := ?_) rfl (by kernel_rfl) (by kernel_rfl) (by kernel_rfl) (by kernel_rfl) (fun _ _ _ h => h) (Or.inl ⟨by rfl, ?_⟩) hS ?_
      rotate_left
      · intro w' hSw; have q1 := (hSw.cell (p := ⟨w.heap.size, 1, none⟩) (by simp <;> omega)).trans x1; have q2 := (hSw.cell (p := ⟨bq, off + k, none⟩) (by simp <;> omega)).trans c0; have q3 : w'.cell? ⟨w.heap.size + 1 + 1, 1, none⟩ = _ := (hSw.cell (p := ⟨w.heap.size + 2, 1, none⟩) (by simp <;> omega)).trans y1; go_simp; try with_reducible rfl
      try simp only [Act.put, List.setIfInBounds_toArray, List.set_cons_zero, List.set_cons_succ]
      refine wpAnyF_take (i := 13) (oi := { dst := some 28, op := Go.Op.move (Go.Operand.tmp 4), type := 3, pos := "law.go:39", after := #[], guard := none }) (v := ?_) rfl (by kernel_rfl) (by kernel_rfl) (by kernel_rfl) (by kernel_rfl) (fun _ _ _ h => h) (Or.inl ⟨by rfl, ?_⟩) hS ?_
      rotate_left
      · intro w' hSw; have q1 := (hSw.cell (p := ⟨w.heap.size, 1, none⟩) (by simp <;> omega)).trans x1; have q2 := (hSw.cell (p := ⟨bq, off + k, none⟩) (by simp <;> omega)).trans c0; have q3 : w'.cell? ⟨w.heap.size + 1 + 1, 1, none⟩ = _ := (hSw.cell (p := ⟨w.heap.size + 2, 1, none⟩) (by simp <;> omega)).trans y1; go_simp; try with_reducible rfl
      try simp only [Act.put, List.setIfInBounds_toArray, List.set_cons_zero, List.set_cons_succ]
      refine wpAnyF_take (i := 14) (oi := { dst := some 29, op := Go.Op.indexAddr 22 (Go.Operand.tmp 27) (Go.Operand.tmp 28), type := 0, pos := "law.go:39", after := #[{ on := 12, ground := Go.Ground.data }, { on := 13, ground := Go.Ground.data }], guard := none }) (v := ?_) rfl (by kernel_rfl) (by kernel_rfl) (by kernel_rfl) (by kernel_rfl) (fun _ _ _ h => h) (Or.inl ⟨by rfl, ?_⟩) hS ?_
      rotate_left
      · intro w' hSw; have q1 := (hSw.cell (p := ⟨w.heap.size, 1, none⟩) (by simp <;> omega)).trans x1; have q2 := (hSw.cell (p := ⟨bq, off + k, none⟩) (by simp <;> omega)).trans c0; have q3 : w'.cell? ⟨w.heap.size + 1 + 1, 1, none⟩ = _ := (hSw.cell (p := ⟨w.heap.size + 2, 1, none⟩) (by simp <;> omega)).trans y1; go_simp; try with_reducible rfl
      try simp only [Act.put, List.setIfInBounds_toArray, List.set_cons_zero, List.set_cons_succ]
      refine wpAnyF_take (i := 15) (oi := { dst := some 30, op := Go.Op.load 41 (Go.Operand.tmp 29), type := 41, pos := "law.go:39", after := #[{ on := 14, ground := Go.Ground.data }], guard := none }) (v := ?_) rfl (by kernel_rfl) (by kernel_rfl) (by kernel_rfl) (by kernel_rfl) (fun _ _ _ h => h) (Or.inl ⟨by rfl, ?_⟩) hS ?_
      rotate_left
      · intro w' hSw; have q1 := (hSw.cell (p := ⟨w.heap.size, 1, none⟩) (by simp <;> omega)).trans x1; have q2 := (hSw.cell (p := ⟨bq, off + k, none⟩) (by simp <;> omega)).trans c0; have q3 : w'.cell? ⟨w.heap.size + 1 + 1, 1, none⟩ = _ := (hSw.cell (p := ⟨w.heap.size + 2, 1, none⟩) (by simp <;> omega)).trans y1; go_simp; try with_reducible rfl
      try simp only [Act.put, List.setIfInBounds_toArray, List.set_cons_zero, List.set_cons_succ]
      refine wpAnyF_take (i := 16) (oi := { dst := some 31, op := Go.Op.call { callee := Go.Callee.builtin Go.Builtin.len, args := #[Go.Operand.tmp 30], argTypes := #[41] }, type := 3, pos := "law.go:39", after := #[{ on := 15, ground := Go.Ground.data }], guard := none }) (v := ?_) rfl (by kernel_rfl) (by kernel_rfl) (by kernel_rfl) (by kernel_rfl) (fun _ _ _ h => h) (Or.inl ⟨by rfl, ?_⟩) hS ?_
      rotate_left
      · intro w' hSw; have q1 := (hSw.cell (p := ⟨w.heap.size, 1, none⟩) (by simp <;> omega)).trans x1; have q2 := (hSw.cell (p := ⟨bq, off + k, none⟩) (by simp <;> omega)).trans c0; have q3 : w'.cell? ⟨w.heap.size + 1 + 1, 1, none⟩ = _ := (hSw.cell (p := ⟨w.heap.size + 2, 1, none⟩) (by simp <;> omega)).trans y1; go_simp; try with_reducible rfl
      try simp only [Act.put, List.setIfInBounds_toArray, List.set_cons_zero, List.set_cons_succ]
      refine wpAnyF_ready (rs := [7, 9]) (by kernel_rfl) (by simp) ?_
      refine AllReadyF.cons (o := { dst := some 22, op := Go.Op.call { callee := Go.Callee.builtin Go.Builtin.append, args := #[Go.Operand.const (Go.Value.slice none 0 0), Go.Operand.tmp 21], argTypes := #[41, 41] }, type := 41, pos := "law.go:39", after := #[{ on := 6, ground := Go.Ground.data }], guard := none }) rfl (by rfl) (fun K hK => ?_) ?_
      · refine step_app V0 rfl (.const (.slice none 0 0)) (.tmp 21) et_off rfl wr.heap.size (.slice none 0 0) 0 [] rfl (World.ownsRow_nil _ _ _ _) R _ l.length (Off.all l) rfl (show Sl V0 R _ _ _ _ from (HOL.out.grow HP0.out).1) (Off.all_one l) (by omega) (by unfold maxLen; omega) (by have := HP0.out.size; omega) ?_
        intro A2 c2 V1 hown hg hloc
        rw [Nat.zero_add]
        refine hK.out _ _ ?_ (fun hS => ?_)
        · exact hS.grown hg (by have := HP0.out.size; omega) (fun g e => by simp [Value.ownBlock] at e)
        clear hK K
        try simp only [Act.put, List.setIfInBounds_toArray, List.set_cons_zero, List.set_cons_succ]
        rw [Nat.zero_add, List.nil_append] at hown
        have hB := HP0.out.grown hg (by have := HP0.out.size; omega) (fun g e => by simp [Value.ownBlock] at e)
        have HP1 := Lib.hid hB
        have HO1 := Lib.hid hown
        clear hown hg hloc hB
        refine wpAnyF_ready (rs := [9]) (by kernel_rfl) (by simp) ?_
        refine AllReadyF.cons (o := { dst := some 24, op := Go.Op.buildSlice 41 1 #[(0, Go.Operand.tmp 23)], type := 41, pos := "law.go:39", after := #[{ on := 8, ground := Go.Ground.data }], guard := none }) rfl (by rfl) (fun K hK => ?_) ?_
        · go_simp
          refine hK.out _ _ ?_ (fun hS => ?_)
          · exact hS.alloc (by have := HP1.out.size; omega) _
          clear hK K
          try simp only [Act.put, List.setIfInBounds_toArray, List.set_cons_zero, List.set_cons_succ]
          have hL := Blk.new V1 45 #[.int .u32 0, .int .i64 4242]
          have hB := HP1.out.alloc (by have := HP1.out.size; omega) (.cells #[.int .u32 0, .int .i64 4242] 45)
          have hO := own_alloc HO1.out (.cells #[.int .u32 0, .int .i64 4242] 45)
          obtain ⟨V2, hV⟩ : ∃ V, V = V1.alloc (.cells #[.int .u32 0, .int .i64 4242] 45) := ⟨_, rfl⟩
          rw [← hV] at hL hB hS ⊢
          rw [← hV] at hO
          have HO1 := Lib.hid hO
          clear hO
          have HL := Lib.hid hL
          have HP2 := Lib.hid hB
          clear hV hL hB
          refine wpAnyF_ready (rs := [10]) (by kernel_rfl) (by simp) ?_
          refine AllReadyF.cons (o := { dst := some 25, op := Go.Op.call { callee := Go.Callee.builtin Go.Builtin.append, args := #[Go.Operand.tmp 22, Go.Operand.tmp 24], argTypes := #[41, 41] }, type := 41, pos := "law.go:39", after := #[{ on := 7, ground := Go.Ground.data }, { on := 9, ground := Go.Ground.data }, { on := 7, ground := Go.Ground.chain }], guard := none }) rfl (by rfl) (fun K hK => ?_) ?_
          · refine step_app V2 rfl (.tmp 22) (.tmp 24) et_off rfl wr.heap.size (.slice A2 l.length c2) l.length (Off.all l) rfl HO1.out (fun _ => True) (.slice (some ⟨V1.heap.size, 0, none⟩) 1 1) 1 [.int .u32 0, .int .i64 4242] rfl (Sl.blk (sz := 2) HL.out (Nat.le_refl 1) (by unfold maxLen; omega) rfl) (by simp [Value.oneCell']) (by omega) (by unfold maxLen; omega) (by have := HP2.out.size; omega) ?_
            intro A3 c3 V3 hown hg hloc
            refine hK.out _ _ ?_ (fun hS => ?_)
            · exact hS.grown hg (by have := HP2.out.size; omega) (fun g e => by have := (HO1.out.lt g e).1; omega)
            clear hK K
            try simp only [Act.put, List.setIfInBounds_toArray, List.set_cons_zero, List.set_cons_succ]
            have hB := HP2.out.grown hg (by have := HP2.out.size; omega) (fun g e => (HO1.out.lt g e).1)
            have hall : Off.all l ++ [.int .u32 0, .int .i64 4242] = Off.all (l ++ [⟨0, 4242⟩]) := (by simp [Off.all, Off.cells])
            rw [hall] at hown
            obtain ⟨gb, cb, hform, hgb, hgb2⟩ := World.ownsRow.form hown (by omega)
            injection hform with hA3 _ hc3
            subst hA3 hc3
            obtain ⟨_, A9, _, hv3, hnc3, hcm3, _⟩ := Sl.of_own hown
            injection hv3 with hA9 _ hc3'
            subst hc3' hA9
            have hc31 : ((l.length : Nat) : Int) ≤ (c3 : Int) := by omega
            have hc30 : (0 : Int) ≤ ((l.length : Nat) : Int) := by omega
            have HP3 := Lib.hid hB
            have HO2 := Lib.hid hown
            clear hown hg hloc hB hall
            refine wpAnyF_take (i := 17) (oi := { dst := some 32, op := Go.Op.slice 41 (Go.Operand.tmp 25) none (some (Go.Operand.tmp 31)) none, type := 41, pos := "law.go:39", after := #[{ on := 10, ground := Go.Ground.data }, { on := 16, ground := Go.Ground.data }], guard := none }) (v := ?_) rfl (by kernel_rfl) (by kernel_rfl) (by kernel_rfl) (by kernel_rfl) (fun _ _ _ h => h) (Or.inl ⟨by rfl, ?_⟩) hS ?_
            rotate_left
            · intro w' hSw; have q1 := (hSw.cell (p := ⟨w.heap.size, 1, none⟩) (by simp <;> omega)).trans x1; have q2 := (hSw.cell (p := ⟨bq, off + k, none⟩) (by simp <;> omega)).trans c0; have q3 : w'.cell? ⟨w.heap.size + 1 + 1, 1, none⟩ = _ := (hSw.cell (p := ⟨w.heap.size + 2, 1, none⟩) (by simp <;> omega)).trans y1; go_simp; try with_reducible rfl
            try simp only [Act.put, List.setIfInBounds_toArray, List.set_cons_zero, List.set_cons_succ]
            refine wpAnyF_ready (rs := [18]) (by kernel_rfl) (by simp) ?_
            refine AllReadyF.cons (o := { dst := some 33, op := Go.Op.buildSlice 22 1 #[(0, Go.Operand.tmp 32)], type := 22, pos := "law.go:39", after := #[{ on := 17, ground := Go.Ground.data }], guard := none }) rfl (by rfl) (fun K hK => ?_) ?_
            · go_simp
              refine hK.out _ _ ?_ (fun hS => ?_)
              · exact hS.alloc (by have := HP3.out.size; omega) _
              clear hK K
              try simp only [Act.put, List.setIfInBounds_toArray, List.set_cons_zero, List.set_cons_succ]
              have hN := Blk.new V3 41 #[.slice (some ⟨gb, 0, none⟩) l.length c3]
              have hB := HP3.out.alloc (by have := HP3.out.size; omega) (.cells #[.slice (some ⟨gb, 0, none⟩) l.length c3] 41)
              have hO := own_alloc HO2.out (.cells #[.slice (some ⟨gb, 0, none⟩) l.length c3] 41)
              obtain ⟨V4, hV⟩ : ∃ V, V = V3.alloc (.cells #[.slice (some ⟨gb, 0, none⟩) l.length c3] 41) := ⟨_, rfl⟩
              rw [← hV] at hN hB hS hO ⊢
              have HN1 := Lib.hid hN
              have HP4 := Lib.hid hB
              have HO3 := Lib.hid hO
              have HS2 := Lib.hid (own_grow HS.out hB)
              clear hV hN hB hO
              refine wpAnyF_ready (rs := [19]) (by kernel_rfl) (by simp) ?_
              refine AllReadyF.cons (o := { dst := some 34, op := Go.Op.call { callee := Go.Callee.builtin Go.Builtin.append, args := #[Go.Operand.tmp 16, Go.Operand.tmp 33], argTypes := #[22, 22] }, type := 22, pos := "law.go:39", after := #[{ on := 1, ground := Go.Ground.data }, { on := 18, ground := Go.Ground.data }, { on := 10, ground := Go.Ground.chain }], guard := none }) rfl (by rfl) (fun K hK => ?_) ?_
              · refine step_app V4 rfl (.tmp 16) (.tmp 33) et_offs rfl (w.heap.size + 3) (.slice A' k cap') k vs' rfl HS2.out (fun _ => True) (.slice (some ⟨V3.heap.size, 0, none⟩) 1 1) 1 [.slice (some ⟨gb, 0, none⟩) l.length c3] rfl (Sl.blk (sz := 1) HN1.out (Nat.le_refl 1) (by unfold maxLen; omega) rfl) (by simp [Value.oneCell']) (by omega) (by unfold maxLen; omega) (by have := HP4.out.size; omega) ?_
                intro A4 c4 V5 hown hg hloc
                refine hK.out _ _ ?_ (fun hS => ?_)
                · exact hS.grown hg (by have := HP4.out.size; omega) (fun g e => (HS2.out.lt g e).1)
                clear hK K
                try simp only [Act.put, List.setIfInBounds_toArray, List.set_cons_zero, List.set_cons_succ]
                have hfar : ∀ b, b < w.heap.size + 3 → some b ≠ (Value.slice A' k cap').ownBlock := (fun b hb e => by have := (HS2.out.lt b e.symm).1; omega)
                have hyV := (HY2.out.grow HP4.out).grown hg (hfar _ (by omega))
                have yc : V5.cell? ⟨w.heap.size + 1 + 1, 1, none⟩ = some (.slice A' k cap') := hyV.cell 1
                have yf : V5.frozen? ⟨w.heap.size + 1 + 1, 1, none⟩ = false := hyV.frozen 1
                have HYV := Lib.hid hyV
                have HGV := Lib.hid hg
                have HOV := Lib.hid hown
                have HBV := HP4
                have HWV := Lib.hid hS
                clear hyV hg hown hloc hfar
                refine wpAnyF_take (i := 20) (oi := { dst := some 35, op := Go.Op.fieldAddr 24 (Go.Operand.tmp 3) 1, type := 0, pos := "law.go:39", after := #[{ on := 0, ground := Go.Ground.phase }, { on := 1, ground := Go.Ground.phase }, { on := 2, ground := Go.Ground.phase }, { on := 3, ground := Go.Ground.phase }, { on := 4, ground := Go.Ground.phase }, { on := 5, ground := Go.Ground.phase }, { on := 6, ground := Go.Ground.phase }, { on := 7, ground := Go.Ground.phase }, { on := 8, ground := Go.Ground.phase }, { on := 9, ground := Go.Ground.phase }, { on := 10, ground := Go.Ground.phase }, { on := 11, ground := Go.Ground.phase }, { on := 12, ground := Go.Ground.phase }, { on := 13, ground := Go.Ground.phase }, { on := 14, ground := Go.Ground.phase }, { on := 15, ground := Go.Ground.phase }, { on := 16, ground := Go.Ground.phase }, { on := 17, ground := Go.Ground.phase }, { on := 18, ground := Go.Ground.phase }, { on := 19, ground := Go.Ground.phase }], guard := none }) (v := ?_) rfl (by kernel_rfl) (by kernel_rfl) (by kernel_rfl) (by kernel_rfl) (fun _ _ _ h => h) (Or.inl ⟨by rfl, ?_⟩) hS ?_
                rotate_left
                · intro w' hSw; have q1 := (hSw.cell (p := ⟨w.heap.size, 1, none⟩) (by simp <;> omega)).trans x1; have q2 := (hSw.cell (p := ⟨bq, off + k, none⟩) (by simp <;> omega)).trans c0; have q3 : w'.cell? ⟨w.heap.size + 1 + 1, 1, none⟩ = _ := (hSw.cell (p := ⟨w.heap.size + 2, 1, none⟩) (by simp <;> omega)).trans y1; go_simp; try with_reducible rfl
                try simp only [Act.put, List.setIfInBounds_toArray, List.set_cons_zero, List.set_cons_succ]
                refine wpAnyF_ready (rs := [21]) (by kernel_rfl) (by simp) ?_
                refine AllReadyF.fin (o := { dst := none, op := Go.Op.store 22 (Go.Operand.tmp 35) (Go.Operand.tmp 34), type := 0, pos := "law.go:39", after := #[{ on := 20, ground := Go.Ground.data }, { on := 19, ground := Go.Ground.data }, { on := 19, ground := Go.Ground.chain }, { on := 0, ground := Go.Ground.phase }, { on := 1, ground := Go.Ground.phase }, { on := 2, ground := Go.Ground.phase }, { on := 3, ground := Go.Ground.phase }, { on := 4, ground := Go.Ground.phase }, { on := 5, ground := Go.Ground.phase }, { on := 6, ground := Go.Ground.phase }, { on := 7, ground := Go.Ground.phase }, { on := 8, ground := Go.Ground.phase }, { on := 9, ground := Go.Ground.phase }, { on := 10, ground := Go.Ground.phase }, { on := 11, ground := Go.Ground.phase }, { on := 12, ground := Go.Ground.phase }, { on := 13, ground := Go.Ground.phase }, { on := 14, ground := Go.Ground.phase }, { on := 15, ground := Go.Ground.phase }, { on := 16, ground := Go.Ground.phase }, { on := 17, ground := Go.Ground.phase }, { on := 18, ground := Go.Ground.phase }, { on := 19, ground := Go.Ground.phase }], guard := none }) rfl (by rfl) (fun K hK => ?_) ?_
                · go_simp
                  refine hK.out _ _ ?_
                  clear hK K
                  try simp only [Act.put, List.setIfInBounds_toArray, List.set_cons_zero, List.set_cons_succ]
                  refine wpAnyF_done (by kernel_rfl) ?_ _
                  go_wp2_with fail
                  go_roundw
                  case rel =>
                    have hsn := GivM.snoc (bs := bs.take k) (l := l) HLK.out HS2.out (fun j l' hj => let ⟨b, c, h1, h2, h3⟩ := HO'.out j l' hj; ⟨b, c, h1, own_grow h2 HP4.out, h3⟩) (own_mono HO3.out (by omega)) HOL.out.2 HOV.out HGV.out
                    have htk : bs.take (k + 1) = bs.take k ++ [l] := by rw [List.take_add_one, HO.out]; rfl
                    refine ⟨k + 1, A4, c4, by omega, by go_num, ?_, ?_, ?_⟩
                    · rw [htk]
                      exact hsn.far (grownBy_setCell _ ⟨w.heap.size + 1 + 1, 1, none⟩ _) (fun b e => by simp at e; omega)
                    · exact HYV.out.set_ 1 (.slice A4 (k + 1) c4)
                    · exact (HB2.out.trans (HWV.out.mono (B' := w.heap.size + 2) (by omega))).setCell (p := ⟨w.heap.size + 1 + 1, 1, none⟩) (by simp) _
                  case measure => simp [intOf]; omega
                exact AllReadyF.nil
              exact AllReadyF.nil
            exact AllReadyF.nil
          exact AllReadyF.nil
        exact AllReadyF.nil
      refine AllReadyF.cons (o := { dst := some 24, op := Go.Op.buildSlice 41 1 #[(0, Go.Operand.tmp 23)], type := 41, pos := "law.go:39", after := #[{ on := 8, ground := Go.Ground.data }], guard := none }) rfl (by rfl) (fun K hK => ?_) ?_
      · go_simp
        refine hK.out _ _ ?_ (fun hS => ?_)
        · exact hS.alloc (by have := HP0.out.size; omega) _
        clear hK K
        try simp only [Act.put, List.setIfInBounds_toArray, List.set_cons_zero, List.set_cons_succ]
        have hL := Blk.new V0 45 #[.int .u32 0, .int .i64 4242]
        have hB := HP0.out.alloc (by have := HP0.out.size; omega) (.cells #[.int .u32 0, .int .i64 4242] 45)
        obtain ⟨V1, hV⟩ : ∃ V, V = V0.alloc (.cells #[.int .u32 0, .int .i64 4242] 45) := ⟨_, rfl⟩
        rw [← hV] at hL hB hS ⊢
        have HL := Lib.hid hL
        have HP1 := Lib.hid hB
        clear hV hL hB
        refine wpAnyF_ready (rs := [7]) (by kernel_rfl) (by simp) ?_
        refine AllReadyF.cons (o := { dst := some 22, op := Go.Op.call { callee := Go.Callee.builtin Go.Builtin.append, args := #[Go.Operand.const (Go.Value.slice none 0 0), Go.Operand.tmp 21], argTypes := #[41, 41] }, type := 41, pos := "law.go:39", after := #[{ on := 6, ground := Go.Ground.data }], guard := none }) rfl (by rfl) (fun K hK => ?_) ?_
        · refine step_app V1 rfl (.const (.slice none 0 0)) (.tmp 21) et_off rfl wr.heap.size (.slice none 0 0) 0 [] rfl (World.ownsRow_nil _ _ _ _) R _ l.length (Off.all l) rfl (show Sl V1 R _ _ _ _ from (HOL.out.grow HP1.out).1) (Off.all_one l) (by omega) (by unfold maxLen; omega) (by have := HP1.out.size; omega) ?_
          intro A2 c2 V2 hown hg hloc
          rw [Nat.zero_add]
          refine hK.out _ _ ?_ (fun hS => ?_)
          · exact hS.grown hg (by have := HP1.out.size; omega) (fun g e => by simp [Value.ownBlock] at e)
          clear hK K
          try simp only [Act.put, List.setIfInBounds_toArray, List.set_cons_zero, List.set_cons_succ]
          rw [Nat.zero_add, List.nil_append] at hown
          have hB := HP1.out.grown hg (by have := HP1.out.size; omega) (fun g e => by simp [Value.ownBlock] at e)
          have HL := Lib.hid (HL.out.grown hg (by simp [Value.ownBlock]))
          have HP2 := Lib.hid hB
          have HO1 := Lib.hid hown
          clear hown hg hloc hB
          refine wpAnyF_ready (rs := [10]) (by kernel_rfl) (by simp) ?_
          refine AllReadyF.cons (o := { dst := some 25, op := Go.Op.call { callee := Go.Callee.builtin Go.Builtin.append, args := #[Go.Operand.tmp 22, Go.Operand.tmp 24], argTypes := #[41, 41] }, type := 41, pos := "law.go:39", after := #[{ on := 7, ground := Go.Ground.data }, { on := 9, ground := Go.Ground.data }, { on := 7, ground := Go.Ground.chain }], guard := none }) rfl (by rfl) (fun K hK => ?_) ?_
          · refine step_app V2 rfl (.tmp 22) (.tmp 24) et_off rfl wr.heap.size (.slice A2 l.length c2) l.length (Off.all l) rfl HO1.out (fun _ => True) (.slice (some ⟨V0.heap.size, 0, none⟩) 1 1) 1 [.int .u32 0, .int .i64 4242] rfl (Sl.blk (sz := 2) HL.out (Nat.le_refl 1) (by unfold maxLen; omega) rfl) (by simp [Value.oneCell']) (by omega) (by unfold maxLen; omega) (by have := HP2.out.size; omega) ?_
            intro A3 c3 V3 hown hg hloc
            refine hK.out _ _ ?_ (fun hS => ?_)
            · exact hS.grown hg (by have := HP2.out.size; omega) (fun g e => by have := (HO1.out.lt g e).1; omega)
            clear hK K
            try simp only [Act.put, List.setIfInBounds_toArray, List.set_cons_zero, List.set_cons_succ]
            have hB := HP2.out.grown hg (by have := HP2.out.size; omega) (fun g e => (HO1.out.lt g e).1)
            have hall : Off.all l ++ [.int .u32 0, .int .i64 4242] = Off.all (l ++ [⟨0, 4242⟩]) := (by simp [Off.all, Off.cells])
            rw [hall] at hown
            obtain ⟨gb, cb, hform, hgb, hgb2⟩ := World.ownsRow.form hown (by omega)
            injection hform with hA3 _ hc3
            subst hA3 hc3
            obtain ⟨_, A9, _, hv3, hnc3, hcm3, _⟩ := Sl.of_own hown
            injection hv3 with hA9 _ hc3'
            subst hc3' hA9
            have hc31 : ((l.length : Nat) : Int) ≤ (c3 : Int) := by omega
            have hc30 : (0 : Int) ≤ ((l.length : Nat) : Int) := by omega
            have HP3 := Lib.hid hB
            have HO2 := Lib.hid hown
            clear hown hg hloc hB hall
            refine wpAnyF_take (i := 17) (oi := { dst := some 32, op := Go.Op.slice 41 (Go.Operand.tmp 25) none (some (Go.Operand.tmp 31)) none, type := 41, pos := "law.go:39", after := #[{ on := 10, ground := Go.Ground.data }, { on := 16, ground := Go.Ground.data }], guard := none }) (v := ?_) rfl (by kernel_rfl) (by kernel_rfl) (by kernel_rfl) (by kernel_rfl) (fun _ _ _ h => h) (Or.inl ⟨by rfl, ?_⟩) hS ?_
            rotate_left
            · intro w' hSw; have q1 := (hSw.cell (p := ⟨w.heap.size, 1, none⟩) (by simp <;> omega)).trans x1; have q2 := (hSw.cell (p := ⟨bq, off + k, none⟩) (by simp <;> omega)).trans c0; have q3 : w'.cell? ⟨w.heap.size + 1 + 1, 1, none⟩ = _ := (hSw.cell (p := ⟨w.heap.size + 2, 1, none⟩) (by simp <;> omega)).trans y1; go_simp; try with_reducible rfl
            try simp only [Act.put, List.setIfInBounds_toArray, List.set_cons_zero, List.set_cons_succ]
            refine wpAnyF_ready (rs := [18]) (by kernel_rfl) (by simp) ?_
            refine AllReadyF.cons (o := { dst := some 33, op := Go.Op.buildSlice 22 1 #[(0, Go.Operand.tmp 32)], type := 22, pos := "law.go:39", after := #[{ on := 17, ground := Go.Ground.data }], guard := none }) rfl (by rfl) (fun K hK => ?_) ?_
            · go_simp
              refine hK.out _ _ ?_ (fun hS => ?_)
              · exact hS.alloc (by have := HP3.out.size; omega) _
              clear hK K
              try simp only [Act.put, List.setIfInBounds_toArray, List.set_cons_zero, List.set_cons_succ]
              have hN := Blk.new V3 41 #[.slice (some ⟨gb, 0, none⟩) l.length c3]
              have hB := HP3.out.alloc (by have := HP3.out.size; omega) (.cells #[.slice (some ⟨gb, 0, none⟩) l.length c3] 41)
              have hO := own_alloc HO2.out (.cells #[.slice (some ⟨gb, 0, none⟩) l.length c3] 41)
              obtain ⟨V4, hV⟩ : ∃ V, V = V3.alloc (.cells #[.slice (some ⟨gb, 0, none⟩) l.length c3] 41) := ⟨_, rfl⟩
              rw [← hV] at hN hB hS hO ⊢
              have HN1 := Lib.hid hN
              have HP4 := Lib.hid hB
              have HO3 := Lib.hid hO
              have HS2 := Lib.hid (own_grow HS.out hB)
              clear hV hN hB hO
              refine wpAnyF_ready (rs := [19]) (by kernel_rfl) (by simp) ?_
              refine AllReadyF.cons (o := { dst := some 34, op := Go.Op.call { callee := Go.Callee.builtin Go.Builtin.append, args := #[Go.Operand.tmp 16, Go.Operand.tmp 33], argTypes := #[22, 22] }, type := 22, pos := "law.go:39", after := #[{ on := 1, ground := Go.Ground.data }, { on := 18, ground := Go.Ground.data }, { on := 10, ground := Go.Ground.chain }], guard := none }) rfl (by rfl) (fun K hK => ?_) ?_
              · refine step_app V4 rfl (.tmp 16) (.tmp 33) et_offs rfl (w.heap.size + 3) (.slice A' k cap') k vs' rfl HS2.out (fun _ => True) (.slice (some ⟨V3.heap.size, 0, none⟩) 1 1) 1 [.slice (some ⟨gb, 0, none⟩) l.length c3] rfl (Sl.blk (sz := 1) HN1.out (Nat.le_refl 1) (by unfold maxLen; omega) rfl) (by simp [Value.oneCell']) (by omega) (by unfold maxLen; omega) (by have := HP4.out.size; omega) ?_
                intro A4 c4 V5 hown hg hloc
                refine hK.out _ _ ?_ (fun hS => ?_)
                · exact hS.grown hg (by have := HP4.out.size; omega) (fun g e => (HS2.out.lt g e).1)
                clear hK K
                try simp only [Act.put, List.setIfInBounds_toArray, List.set_cons_zero, List.set_cons_succ]
                have hfar : ∀ b, b < w.heap.size + 3 → some b ≠ (Value.slice A' k cap').ownBlock := (fun b hb e => by have := (HS2.out.lt b e.symm).1; omega)
                have hyV := (HY2.out.grow HP4.out).grown hg (hfar _ (by omega))
                have yc : V5.cell? ⟨w.heap.size + 1 + 1, 1, none⟩ = some (.slice A' k cap') := hyV.cell 1
                have yf : V5.frozen? ⟨w.heap.size + 1 + 1, 1, none⟩ = false := hyV.frozen 1
                have HYV := Lib.hid hyV
                have HGV := Lib.hid hg
                have HOV := Lib.hid hown
                have HBV := HP4
                have HWV := Lib.hid hS
                clear hyV hg hown hloc hfar
                refine wpAnyF_take (i := 20) (oi := { dst := some 35, op := Go.Op.fieldAddr 24 (Go.Operand.tmp 3) 1, type := 0, pos := "law.go:39", after := #[{ on := 0, ground := Go.Ground.phase }, { on := 1, ground := Go.Ground.phase }, { on := 2, ground := Go.Ground.phase }, { on := 3, ground := Go.Ground.phase }, { on := 4, ground := Go.Ground.phase }, { on := 5, ground := Go.Ground.phase }, { on := 6, ground := Go.Ground.phase }, { on := 7, ground := Go.Ground.phase }, { on := 8, ground := Go.Ground.phase }, { on := 9, ground := Go.Ground.phase }, { on := 10, ground := Go.Ground.phase }, { on := 11, ground := Go.Ground.phase }, { on := 12, ground := Go.Ground.phase }, { on := 13, ground := Go.Ground.phase }, { on := 14, ground := Go.Ground.phase }, { on := 15, ground := Go.Ground.phase }, { on := 16, ground := Go.Ground.phase }, { on := 17, ground := Go.Ground.phase }, { on := 18, ground := Go.Ground.phase }, { on := 19, ground := Go.Ground.phase }], guard := none }) (v := ?_) rfl (by kernel_rfl) (by kernel_rfl) (by kernel_rfl) (by kernel_rfl) (fun _ _ _ h => h) (Or.inl ⟨by rfl, ?_⟩) hS ?_
                rotate_left
                · intro w' hSw; have q1 := (hSw.cell (p := ⟨w.heap.size, 1, none⟩) (by simp <;> omega)).trans x1; have q2 := (hSw.cell (p := ⟨bq, off + k, none⟩) (by simp <;> omega)).trans c0; have q3 : w'.cell? ⟨w.heap.size + 1 + 1, 1, none⟩ = _ := (hSw.cell (p := ⟨w.heap.size + 2, 1, none⟩) (by simp <;> omega)).trans y1; go_simp; try with_reducible rfl
                try simp only [Act.put, List.setIfInBounds_toArray, List.set_cons_zero, List.set_cons_succ]
                refine wpAnyF_ready (rs := [21]) (by kernel_rfl) (by simp) ?_
                refine AllReadyF.fin (o := { dst := none, op := Go.Op.store 22 (Go.Operand.tmp 35) (Go.Operand.tmp 34), type := 0, pos := "law.go:39", after := #[{ on := 20, ground := Go.Ground.data }, { on := 19, ground := Go.Ground.data }, { on := 19, ground := Go.Ground.chain }, { on := 0, ground := Go.Ground.phase }, { on := 1, ground := Go.Ground.phase }, { on := 2, ground := Go.Ground.phase }, { on := 3, ground := Go.Ground.phase }, { on := 4, ground := Go.Ground.phase }, { on := 5, ground := Go.Ground.phase }, { on := 6, ground := Go.Ground.phase }, { on := 7, ground := Go.Ground.phase }, { on := 8, ground := Go.Ground.phase }, { on := 9, ground := Go.Ground.phase }, { on := 10, ground := Go.Ground.phase }, { on := 11, ground := Go.Ground.phase }, { on := 12, ground := Go.Ground.phase }, { on := 13, ground := Go.Ground.phase }, { on := 14, ground := Go.Ground.phase }, { on := 15, ground := Go.Ground.phase }, { on := 16, ground := Go.Ground.phase }, { on := 17, ground := Go.Ground.phase }, { on := 18, ground := Go.Ground.phase }, { on := 19, ground := Go.Ground.phase }], guard := none }) rfl (by rfl) (fun K hK => ?_) ?_
                · go_simp
                  refine hK.out _ _ ?_
                  clear hK K
                  try simp only [Act.put, List.setIfInBounds_toArray, List.set_cons_zero, List.set_cons_succ]
                  refine wpAnyF_done (by kernel_rfl) ?_ _
                  go_wp2_with fail
                  go_roundw
                  case rel =>
                    have hsn := GivM.snoc (bs := bs.take k) (l := l) HLK.out HS2.out (fun j l' hj => let ⟨b, c, h1, h2, h3⟩ := HO'.out j l' hj; ⟨b, c, h1, own_grow h2 HP4.out, h3⟩) (own_mono HO3.out (by omega)) HOL.out.2 HOV.out HGV.out
                    have htk : bs.take (k + 1) = bs.take k ++ [l] := by rw [List.take_add_one, HO.out]; rfl
                    refine ⟨k + 1, A4, c4, by omega, by go_num, ?_, ?_, ?_⟩
                    · rw [htk]
                      exact hsn.far (grownBy_setCell _ ⟨w.heap.size + 1 + 1, 1, none⟩ _) (fun b e => by simp at e; omega)
                    · exact HYV.out.set_ 1 (.slice A4 (k + 1) c4)
                    · exact (HB2.out.trans (HWV.out.mono (B' := w.heap.size + 2) (by omega))).setCell (p := ⟨w.heap.size + 1 + 1, 1, none⟩) (by simp) _
                  case measure => simp [intOf]; omega
                exact AllReadyF.nil
              exact AllReadyF.nil
            exact AllReadyF.nil
          exact AllReadyF.nil
        exact AllReadyF.nil
      exact AllReadyF.nil
    · obtain rfl : k = bs.length := by omega
      have htl : bs.take bs.length = bs := List.take_length
      rw [htl] at hgv
      obtain ⟨vs', hs', ho'⟩ := hgv
      have hrr := HR.out.below hb (by omega)
      have HRR := Lib.hid hrr
      have HS := Lib.hid hs'
      have HO' := Lib.hid ho'
      clear hrr hs' ho' hx hy hb hbw HGV htl
      have HP0 : Below wr.heap.size wr wr.drew := (Below.refl _ _).drew
      go_wp2_with fail
      refine wp_region_F (Below (w.heap.size + 3) wr) [11] (by kernel_rfl) ((Below.refl _ _).drew) (fun hS => ?_)
      obtain ⟨V0, hV⟩ : ∃ V, V = wr.drew := ⟨_, rfl⟩
      rw [← hV] at hS HP0 ⊢
      replace HP0 := Lib.hid HP0
      clear hV
      refine wpAnyF_take (i := 0) (oi := { dst := some 36, op := Go.Op.fieldAddr 24 (Go.Operand.tmp 3) 1, type := 0, pos := "law.go:41", after := #[], guard := none }) (v := ?_) rfl (by kernel_rfl) (by kernel_rfl) (by kernel_rfl) (by kernel_rfl) (fun _ _ _ h => h) (Or.inl ⟨by rfl, ?_⟩) hS ?_
      rotate_left
      · intro w' hSw; have q1 := (hSw.cell (p := ⟨w.heap.size, 1, none⟩) (by simp <;> omega)).trans x1; have q3 : w'.cell? ⟨w.heap.size + 1 + 1, 1, none⟩ = _ := (hSw.cell (p := ⟨w.heap.size + 2, 1, none⟩) (by simp <;> omega)).trans y1; go_simp; try with_reducible rfl
      try simp only [Act.put, List.setIfInBounds_toArray, List.set_cons_zero, List.set_cons_succ]
      refine wpAnyF_take (i := 1) (oi := { dst := some 37, op := Go.Op.load 22 (Go.Operand.tmp 36), type := 22, pos := "law.go:41", after := #[{ on := 0, ground := Go.Ground.data }], guard := none }) (v := ?_) rfl (by kernel_rfl) (by kernel_rfl) (by kernel_rfl) (by kernel_rfl) (fun _ _ _ h => h) (Or.inl ⟨by rfl, ?_⟩) hS ?_
      rotate_left
      · intro w' hSw; have q1 := (hSw.cell (p := ⟨w.heap.size, 1, none⟩) (by simp <;> omega)).trans x1; have q3 : w'.cell? ⟨w.heap.size + 1 + 1, 1, none⟩ = _ := (hSw.cell (p := ⟨w.heap.size + 2, 1, none⟩) (by simp <;> omega)).trans y1; go_simp; try with_reducible rfl
      try simp only [Act.put, List.setIfInBounds_toArray, List.set_cons_zero, List.set_cons_succ]
      refine wpAnyF_take (i := 2) (oi := { dst := some 38, op := Go.Op.build 45 #[(1, Go.Operand.const (Go.Value.int Go.IntKind.i64 4243))], type := 45, pos := "law.go:41", after := #[], guard := none }) (v := ?_) rfl (by kernel_rfl) (by kernel_rfl) (by kernel_rfl) (by kernel_rfl) (fun _ _ _ h => h) (Or.inl ⟨by rfl, ?_⟩) hS ?_
      rotate_left
      · intro w' hSw; have q1 := (hSw.cell (p := ⟨w.heap.size, 1, none⟩) (by simp <;> omega)).trans x1; have q3 : w'.cell? ⟨w.heap.size + 1 + 1, 1, none⟩ = _ := (hSw.cell (p := ⟨w.heap.size + 2, 1, none⟩) (by simp <;> omega)).trans y1; go_simp; try with_reducible rfl
      try simp only [Act.put, List.setIfInBounds_toArray, List.set_cons_zero, List.set_cons_succ]
      refine wpAnyF_take (i := 6) (oi := { dst := some 42, op := Go.Op.fieldAddr 24 (Go.Operand.tmp 1) 1, type := 0, pos := "law.go:41", after := #[], guard := none }) (v := ?_) rfl (by kernel_rfl) (by kernel_rfl) (by kernel_rfl) (by kernel_rfl) (fun _ _ _ h => h) (Or.inl ⟨by rfl, ?_⟩) hS ?_
      rotate_left
      · intro w' hSw; have q1 := (hSw.cell (p := ⟨w.heap.size, 1, none⟩) (by simp <;> omega)).trans x1; have q3 : w'.cell? ⟨w.heap.size + 1 + 1, 1, none⟩ = _ := (hSw.cell (p := ⟨w.heap.size + 2, 1, none⟩) (by simp <;> omega)).trans y1; go_simp; try with_reducible rfl
      try simp only [Act.put, List.setIfInBounds_toArray, List.set_cons_zero, List.set_cons_succ]
      refine wpAnyF_take (i := 7) (oi := { dst := some 43, op := Go.Op.load 22 (Go.Operand.tmp 42), type := 22, pos := "law.go:41", after := #[{ on := 6, ground := Go.Ground.data }], guard := none }) (v := ?_) rfl (by kernel_rfl) (by kernel_rfl) (by kernel_rfl) (by kernel_rfl) (fun _ _ _ h => h) (Or.inl ⟨by rfl, ?_⟩) hS ?_
      rotate_left
      · intro w' hSw; have q1 := (hSw.cell (p := ⟨w.heap.size, 1, none⟩) (by simp <;> omega)).trans x1; have q3 : w'.cell? ⟨w.heap.size + 1 + 1, 1, none⟩ = _ := (hSw.cell (p := ⟨w.heap.size + 2, 1, none⟩) (by simp <;> omega)).trans y1; go_simp; try with_reducible rfl
      try simp only [Act.put, List.setIfInBounds_toArray, List.set_cons_zero, List.set_cons_succ]
      refine wpAnyF_take (i := 8) (oi := { dst := some 44, op := Go.Op.call { callee := Go.Callee.builtin Go.Builtin.len, args := #[Go.Operand.tmp 43], argTypes := #[22] }, type := 3, pos := "law.go:41", after := #[{ on := 7, ground := Go.Ground.data }], guard := none }) (v := ?_) rfl (by kernel_rfl) (by kernel_rfl) (by kernel_rfl) (by kernel_rfl) (fun _ _ _ h => h) (Or.inl ⟨by rfl, ?_⟩) hS ?_
      rotate_left
      · intro w' hSw; have q1 := (hSw.cell (p := ⟨w.heap.size, 1, none⟩) (by simp <;> omega)).trans x1; have q3 : w'.cell? ⟨w.heap.size + 1 + 1, 1, none⟩ = _ := (hSw.cell (p := ⟨w.heap.size + 2, 1, none⟩) (by simp <;> omega)).trans y1; go_simp; try with_reducible rfl
      try simp only [Act.put, List.setIfInBounds_toArray, List.set_cons_zero, List.set_cons_succ]
      refine wpAnyF_ready (rs := [3]) (by kernel_rfl) (by simp) ?_
      refine AllReadyF.cons (o := { dst := some 39, op := Go.Op.buildSlice 41 1 #[(0, Go.Operand.tmp 38)], type := 41, pos := "law.go:41", after := #[{ on := 2, ground := Go.Ground.data }], guard := none }) rfl (by rfl) (fun K hK => ?_) ?_
      · go_simp
        refine hK.out _ _ ?_ (fun hS => ?_)
        · exact hS.alloc (by have := HP0.out.size; omega) _
        clear hK K
        try simp only [Act.put, List.setIfInBounds_toArray, List.set_cons_zero, List.set_cons_succ]
        have hL := Blk.new V0 45 #[.int .u32 0, .int .i64 4243]
        have hB := HP0.out.alloc (by have := HP0.out.size; omega) (.cells #[.int .u32 0, .int .i64 4243] 45)
        obtain ⟨V1, hV⟩ : ∃ V, V = V0.alloc (.cells #[.int .u32 0, .int .i64 4243] 45) := ⟨_, rfl⟩
        rw [← hV] at hL hB hS ⊢
        have HL1 := Lib.hid hL
        have HP1 := Lib.hid hB
        clear hV hL hB
        refine wpAnyF_ready (rs := [4]) (by kernel_rfl) (by simp) ?_
        refine AllReadyF.cons (o := { dst := some 40, op := Go.Op.buildSlice 22 1 #[(0, Go.Operand.tmp 39)], type := 22, pos := "law.go:41", after := #[{ on := 3, ground := Go.Ground.data }], guard := none }) rfl (by rfl) (fun K hK => ?_) ?_
        · go_simp
          refine hK.out _ _ ?_ (fun hS => ?_)
          · exact hS.alloc (by have := HP1.out.size; omega) _
          clear hK K
          try simp only [Act.put, List.setIfInBounds_toArray, List.set_cons_zero, List.set_cons_succ]
          have hN := Blk.new V1 41 #[.slice (some ⟨V0.heap.size, 0, none⟩) 1 1]
          have hL := HL1.out.alloc (.cells #[.slice (some ⟨V0.heap.size, 0, none⟩) 1 1] 41)
          have hB := HP1.out.alloc (by have := HP1.out.size; omega) (.cells #[.slice (some ⟨V0.heap.size, 0, none⟩) 1 1] 41)
          obtain ⟨V2, hV⟩ : ∃ V, V = V1.alloc (.cells #[.slice (some ⟨V0.heap.size, 0, none⟩) 1 1] 41) := ⟨_, rfl⟩
          rw [← hV] at hN hL hB hS ⊢
          have HN1 := Lib.hid hN
          have HL2 := Lib.hid hL
          have HP2 := Lib.hid hB
          have HS2 := Lib.hid (own_grow HS.out hB)
          clear hV hN hL hB
          refine wpAnyF_ready (rs := [5]) (by kernel_rfl) (by simp) ?_
          refine AllReadyF.cons (o := { dst := some 41, op := Go.Op.call { callee := Go.Callee.builtin Go.Builtin.append, args := #[Go.Operand.tmp 37, Go.Operand.tmp 40], argTypes := #[22, 22] }, type := 22, pos := "law.go:41", after := #[{ on := 1, ground := Go.Ground.data }, { on := 4, ground := Go.Ground.data }], guard := none }) rfl (by rfl) (fun K hK => ?_) ?_
          · refine step_app V2 rfl (.tmp 37) (.tmp 40) et_offs rfl (w.heap.size + 3) (.slice A' bs.length cap') bs.length vs' rfl HS2.out (fun _ => True) (.slice (some ⟨V1.heap.size, 0, none⟩) 1 1) 1 [.slice (some ⟨V0.heap.size, 0, none⟩) 1 1] rfl (Sl.blk (sz := 1) HN1.out (Nat.le_refl 1) (by unfold maxLen; omega) rfl) (by simp [Value.oneCell']) (by omega) (by unfold maxLen; omega) (by have := HP2.out.size; omega) ?_
            intro A4 c4 V3 hown hg hloc
            refine hK.out _ _ ?_ (fun hS => ?_)
            · exact hS.grown hg (by have := HP2.out.size; omega) (fun g e => (HS2.out.lt g e).1)
            clear hK K
            try simp only [Act.put, List.setIfInBounds_toArray, List.set_cons_zero, List.set_cons_succ]
            have hfar : ∀ b, b < w.heap.size + 3 → some b ≠ (Value.slice A' bs.length cap').ownBlock := (fun b hb e => by have := (HS2.out.lt b e.symm).1; omega)
            have hyV := (HY2.out.grow HP2.out).grown hg (hfar _ (by omega))
            have hrV := (HRR.out.grow HP2.out).grown hg (hfar _ (by omega))
            have hlV := HL2.out.grown hg (fun e => by have := (HS.out.lt _ e.symm).2; have := HP0.out.size; omega)
            have hrows : ∀ (j : Nat) (l : List Off), bs[j]? = some l → ∃ b cap, vs'[j]? = some (.slice (some ⟨b, 0, none⟩) l.length cap) ∧ V3.ownsRow (w.heap.size + 3) 45 2 (.slice (some ⟨b, 0, none⟩) (l.length + 1) cap) (l.length + 1) (Off.all (l ++ [⟨0, 4242⟩])) ∧ ∀ o ∈ l, o.wf := (fun j l hj => (HO'.out j l hj).elim fun b h => h.elim fun c h => ⟨b, c, h.1, own_far (own_grow h.2.1 HP2.out) hg (fun g e => own_ne HS2.out (own_grow h.2.1 HP2.out) (by decide) e), h.2.2⟩)
            obtain ⟨gb, cb, hform, hgb, hgb2⟩ := World.ownsRow.form hown (by omega)
            injection hform with hA3 _ hc3
            subst hA3 hc3
            obtain ⟨_, A9, _, hv3, hnc3, hcm3, _⟩ := Sl.of_own hown
            injection hv3 with hA9 _ hc3'
            subst hc3' hA9
            have hc31 : ((bs.length : Nat) : Int) ≤ (c4 : Int) := by omega
            have hc30 : (0 : Int) ≤ ((bs.length : Nat) : Int) := by omega
            have yc : V3.cell? ⟨w.heap.size + 1 + 1, 1, none⟩ = some (.slice A' bs.length cap') := hyV.cell 1
            have yf : V3.frozen? ⟨w.heap.size + 1 + 1, 1, none⟩ = false := hyV.frozen 1
            have HYV := Lib.hid hyV
            have HRV := Lib.hid hrV
            have HLV := Lib.hid hlV
            have HROWS := Lib.hid hrows
            have HOV := Lib.hid hown
            have HWV := Lib.hid hS
            clear hyV hrV hlV hrows hg hown hloc hfar
            refine wpAnyF_take (i := 9) (oi := { dst := some 45, op := Go.Op.slice 22 (Go.Operand.tmp 41) none (some (Go.Operand.tmp 44)) none, type := 22, pos := "law.go:41", after := #[{ on := 5, ground := Go.Ground.data }, { on := 8, ground := Go.Ground.data }], guard := none }) (v := ?_) rfl (by kernel_rfl) (by kernel_rfl) (by kernel_rfl) (by kernel_rfl) (fun _ _ _ h => h) (Or.inl ⟨by rfl, ?_⟩) hS ?_
            rotate_left
            · intro w' hSw; have q1 := (hSw.cell (p := ⟨w.heap.size, 1, none⟩) (by simp <;> omega)).trans x1; have q3 : w'.cell? ⟨w.heap.size + 1 + 1, 1, none⟩ = _ := (hSw.cell (p := ⟨w.heap.size + 2, 1, none⟩) (by simp <;> omega)).trans y1; go_simp; try with_reducible rfl
            try simp only [Act.put, List.setIfInBounds_toArray, List.set_cons_zero, List.set_cons_succ]
            refine wpAnyF_take (i := 10) (oi := { dst := some 46, op := Go.Op.fieldAddr 24 (Go.Operand.tmp 3) 1, type := 0, pos := "law.go:41", after := #[{ on := 0, ground := Go.Ground.phase }, { on := 1, ground := Go.Ground.phase }, { on := 2, ground := Go.Ground.phase }, { on := 3, ground := Go.Ground.phase }, { on := 4, ground := Go.Ground.phase }, { on := 5, ground := Go.Ground.phase }, { on := 6, ground := Go.Ground.phase }, { on := 7, ground := Go.Ground.phase }, { on := 8, ground := Go.Ground.phase }, { on := 9, ground := Go.Ground.phase }], guard := none }) (v := ?_) rfl (by kernel_rfl) (by kernel_rfl) (by kernel_rfl) (by kernel_rfl) (fun _ _ _ h => h) (Or.inl ⟨by rfl, ?_⟩) hS ?_
            rotate_left
            · intro w' hSw; have q1 := (hSw.cell (p := ⟨w.heap.size, 1, none⟩) (by simp <;> omega)).trans x1; have q3 : w'.cell? ⟨w.heap.size + 1 + 1, 1, none⟩ = _ := (hSw.cell (p := ⟨w.heap.size + 2, 1, none⟩) (by simp <;> omega)).trans y1; go_simp; try with_reducible rfl
            try simp only [Act.put, List.setIfInBounds_toArray, List.set_cons_zero, List.set_cons_succ]
            refine wpAnyF_ready (rs := [11]) (by kernel_rfl) (by simp) ?_
            refine AllReadyF.fin (o := { dst := none, op := Go.Op.store 22 (Go.Operand.tmp 46) (Go.Operand.tmp 45), type := 0, pos := "law.go:41", after := #[{ on := 10, ground := Go.Ground.data }, { on := 9, ground := Go.Ground.data }, { on := 5, ground := Go.Ground.chain }, { on := 0, ground := Go.Ground.phase }, { on := 1, ground := Go.Ground.phase }, { on := 2, ground := Go.Ground.phase }, { on := 3, ground := Go.Ground.phase }, { on := 4, ground := Go.Ground.phase }, { on := 5, ground := Go.Ground.phase }, { on := 6, ground := Go.Ground.phase }, { on := 7, ground := Go.Ground.phase }, { on := 8, ground := Go.Ground.phase }, { on := 9, ground := Go.Ground.phase }], guard := none }) rfl (by rfl) (fun K hK => ?_) ?_
            · go_simp
              refine hK.out _ _ ?_
              clear hK K
              try simp only [Act.put, List.setIfInBounds_toArray, List.set_cons_zero, List.set_cons_succ]
              refine wpAnyF_done (by kernel_rfl) ?_ _
              clear hS yc yf
              have hy2 : Blk (V3.setCell ⟨w.heap.size + 1 + 1, 1, none⟩ (.slice (some ⟨gb, 0, none⟩) bs.length c4)) (w.heap.size + 1 + 1) 24 #[.int .i64 n, .slice (some ⟨gb, 0, none⟩) bs.length c4] := HYV.out.set_ 1 (.slice (some ⟨gb, 0, none⟩) bs.length c4)
              have hr2 : Blk (V3.setCell ⟨w.heap.size + 1 + 1, 1, none⟩ (.slice (some ⟨gb, 0, none⟩) bs.length c4)) (w.heap.size + 1) 24 #[.int .i64 0, .slice none 0 0] := HRV.out.far (p := ⟨w.heap.size + 1 + 1, 1, none⟩) (by simp) _
              obtain ⟨V4, hV4⟩ : ∃ V, V = V3.setCell ⟨w.heap.size + 1 + 1, 1, none⟩ (.slice (some ⟨gb, 0, none⟩) bs.length c4) := ⟨_, rfl⟩
              have hown4 := own_lo HOV.out (grownBy_setCell V3 ⟨w.heap.size + 1 + 1, 1, none⟩ (.slice (some ⟨gb, 0, none⟩) bs.length c4)) (fun g e => by simp at e; omega)
              have hl4 := HLV.out.far (p := ⟨w.heap.size + 1 + 1, 1, none⟩) (by have := HP0.out.size; simp; omega) (.slice (some ⟨gb, 0, none⟩) bs.length c4)
              have hrows4 : ∀ (j : Nat) (l : List Off), bs[j]? = some l → ∃ b cap, vs'[j]? = some (.slice (some ⟨b, 0, none⟩) l.length cap) ∧ V4.ownsRow (w.heap.size + 3) 45 2 (.slice (some ⟨b, 0, none⟩) (l.length + 1) cap) (l.length + 1) (Off.all (l ++ [⟨0, 4242⟩])) ∧ ∀ o ∈ l, o.wf := fun j l hj => by
                obtain ⟨b, c, h1, h2, h3⟩ := HROWS.out j l hj
                exact ⟨b, c, h1, by rw [hV4]; exact own_lo h2 (grownBy_setCell _ _ _) (fun g e => by simp at e; omega), h3⟩
              have hB4 : Below w.heap.size w V4 := by rw [hV4]; exact (HBW2.out.trans (HWV.out.mono (by omega))).setCell (p := ⟨w.heap.size + 1 + 1, 1, none⟩) (by simp; omega) _
              rw [← hV4] at hy2 hr2 hown4 hl4 ⊢
              have s0 : V4.cell? ⟨w.heap.size + 1 + 1, 0, none⟩ = some (.int .i64 n) := hy2.cell 0
              have s1 : V4.cell? ⟨w.heap.size + 1 + 1, 1, none⟩ = some (.slice (some ⟨gb, 0, none⟩) bs.length c4) := hy2.cell 1
              have r0 : V4.cell? ⟨w.heap.size + 1, 0, none⟩ = some (.int .i64 0) := hr2.cell 0
              have r1 : V4.cell? ⟨w.heap.size + 1, 1, none⟩ = some (.slice none 0 0) := hr2.cell 1
              have rf := hr2.frozen
              have hfin := ((hr2.set_ 0 (.int .i64 n)).set_ 1 (.slice (some ⟨gb, 0, none⟩) bs.length c4))
              have q0 := hfin.cell 0
              have q1 := hfin.cell 1
              simp at q0 q1
              have HOWN4 := Lib.hid hown4
              have HL4 := Lib.hid hl4
              have HROWS4 := Lib.hid hrows4
              have HB4 := Lib.hid hB4
              have hs00 : wr.heap.size ≤ V0.heap.size := HP0.out.size
              have hvl : vs'.length = bs.length := by simpa using HS.out.1
              have HVL := Lib.hid hvl
              clear hy2 hr2 hown4 hl4 hrows4 hB4 hfin hV4 hvl
              go_wp2_with fail
              refine bodyPost_ret (v := .agg #[.int .i64 n, .slice (some ⟨gb, 0, none⟩) bs.length c4]) (by simp [results, Try.results38, go_sem, q0, q1]) rfl ⟨_, rfl, ?_, ?_⟩
              · have far2 : ∀ {e : TypeId} {sz m : Nat} {u : Value} {xs : List Value}, V4.ownsRow (w.heap.size + 3) e sz u m xs → ((V4.setCell ⟨w.heap.size + 1, 0, none⟩ (.int .i64 n)).setCell ⟨w.heap.size + 1, 1, none⟩ (.slice (some ⟨gb, 0, none⟩) bs.length c4)).ownsRow w.heap.size e sz u m xs := fun h => own_mono (own_lo (own_lo h (grownBy_setCell _ ⟨w.heap.size + 1, 0, none⟩ _) (fun g e => by simp at e; omega)) (grownBy_setCell _ ⟨w.heap.size + 1, 1, none⟩ _) (fun g e => by simp at e; omega)) (by omega)
                refine ⟨gb, c4, V0.heap.size, vs', rfl, far2 HOWN4.out, HVL.out, (HL4.out.far (p := ⟨w.heap.size + 1, 0, none⟩) (by simp; omega) _).far (p := ⟨w.heap.size + 1, 1, none⟩) (by simp; omega) _, by omega, fun j l hj => ?_⟩
                obtain ⟨b, c, h1, h2, h3⟩ := HROWS4.out j l hj
                exact ⟨b, c, h1, far2 h2, h3⟩
              · exact (HB4.out.setCell (p := ⟨w.heap.size + 1, 0, none⟩) (by simp) _).setCell (p := ⟨w.heap.size + 1, 1, none⟩) (by simp) _
            exact AllReadyF.nil
          exact AllReadyF.nil
        exact AllReadyF.nil
      exact AllReadyF.nil
end Go.Proofs.Ytcigobiolbojhaa.Vb

/- Law 18's own: kept, over. -/
namespace Go.Proofs.Ytcigobiolbojhaa.Vb
open Go.RowKit

set_option maxRecDepth 100000 in
set_option maxHeartbeats 1600000 in
theorem kept_any (n : Int) (bs : List (List Off)) (vy vx : Value) (lo : Nat) (R : Nat → Prop) (w : World) (hy : Lent w lo vy bs) (hx : Buys w R vx bs) (hsm : Small bs) :
    Calls Try.prog 44 #[.agg #[.int .i64 n, vy], .agg #[.int .i64 n, vx]] w fun e w' => e = .returned (.bool true) ∧ Below w.heap.size w w' := by
  have HGY := Lib.hid hy
  have HGX := Lib.hid hx
  have HSM := Lib.hid hsm.2
  have hlen64 := hsm.1
  obtain ⟨gy, cy, gs, ws, rfl, hsy, hwl, hgs, _, hwy⟩ := hy
  obtain ⟨vs, ⟨hlen, A, cap, rfl, hncap, hcap, hcells⟩, hvs⟩ := hx
  obtain ⟨_, _, _, hv9, hnc9, hcm9, _⟩ := Sl.of_own hsy
  injection hv9 with hA9 _ hc9
  subst hA9 hc9
  unfold maxLen at hcap hcm9
  have hgylt := (hsy.lt gy rfl).2
  have hgslt := hgs.lt
  have hlast := hsy.cellAt bs.length (by omega)
  rw [List.getElem?_append_right (by omega), hwl, Nat.sub_self] at hlast
  have hlast : w.cell? ⟨gy, bs.length, none⟩ = some (.slice (some ⟨gs, 0, none⟩) 1 1) := hlast
  have hg1 : w.cell? ⟨gs, 1, none⟩ = some (.int .i64 4243) := hgs.cell 1
  have HLAST := Lib.hid hlast
  have HG1 := Lib.hid hg1
  have HC := Lib.hid hcells
  have HC' := Lib.hid hsy
  have HV := Lib.hid hvs
  have HV' := Lib.hid hwy
  have HWL := Lib.hid hwl
  clear hcells hvs hwy hlen hsy hsm hlast hg1 hgs hwl
  go_enter Try.func44, Try.ntmps44
  go_wp2
  go_loopw [5] (fun i wr => ∃ k : Nat, k ≤ bs.length ∧ i = .int .i64 k ∧ Below (w.heap.size + 2) ((w.alloc (.cells #[.int .i64 n, .slice (some ⟨gy, 0, none⟩) bs.length cy] 24)).alloc (.cells #[.int .i64 n, .slice A bs.length cap] 24)) wr) (fun i _ => bs.length - (intOf i).toNat)
  case atStart => exact ⟨0, Nat.zero_le _, rfl, Below.refl _ _⟩
  case round =>
    obtain ⟨k, hk, rfl, hb⟩ := hrel
    obtain ⟨cx0, cx1, cy0, cy1, fx, fy, hs, hbw⟩ := two_new hb
    have HB := Lib.hid hb
    have HBW := Lib.hid hbw
    by_cases hlt : k < bs.length
    · obtain ⟨bb, off, rfl, _, hbb, hcs⟩ := HC.out (by omega)
      obtain ⟨l, ho⟩ : ∃ l, bs[k]? = some l := ⟨_, List.getElem?_eq_getElem hlt⟩
      have hll := HSM.out l (List.mem_of_getElem? ho)
      obtain ⟨u, hu, hol⟩ := HV.out k l ho
      obtain ⟨gb, gc, hgu, hgo, hgw⟩ := HV'.out k l ho
      have c0 := (hbw.cell hbb).trans (hcs _ _ hu)
      have d1 := HC'.out.cellAt k (by omega)
      rw [List.getElem?_append_left (by rw [HWL.out]; exact hlt), hgu] at d1
      have d0 := (hbw.cell (p := ⟨gy, k, none⟩) hgylt).trans d1
      obtain ⟨⟨_, A1, cap1, rfl, _⟩, _⟩ := hol
      obtain ⟨_, _, _, hv1, hnc1, hcm1, hcc1⟩ := Sl.of_own hgo
      injection hv1 with hA1 _ hc1
      subst hA1 hc1
      obtain ⟨b1, o1, hb1, _, hlt1, hcc⟩ := hcc1 (by omega)
      injection hb1 with hb1
      injection hb1 with hb1 ho1 _
      subst hb1 ho1
      have h77 : (Off.all (l ++ [⟨0, 4242⟩]))[l.length * 2 + 1]? = some (.int .i64 4242) := Off.all_snd (l ++ [⟨0, 4242⟩]) l.length ⟨0, 4242⟩ (by simp)
      have g77 := (hbw.cell (p := ⟨gb, 0 + (l.length * 2 + 1), none⟩) hlt1).trans (hcc _ _ h77)
      have hwr : IntKind.i64.wrap ((l.length : Int) + 1) = l.length + 1 := IntWalk.i64_in _ (by omega)
      have hn0 : (0 : Int) ≤ (l.length : Int) := by omega
      have hn1 : (l.length : Int) + 1 ≤ (gc : Int) := by omega
      have hn2 : (0 : Int) ≤ (l.length : Int) + 1 := by omega
      have hn3 : ((l.length : Int) + 1).toNat = l.length + 1 := by omega
      have hn4 : (l.length : Int) < ((l.length + 1 : Nat) : Int) := by omega
      rw [Nat.zero_add] at g77
      clear hcs hu hgu hgo ho hcc hcc1 h77 hb hbw hgw d1
      go_wp2_with fail
      go_quiet (fail)
      go_wp2_with fail
      go_roundw
      case rel =>
        exact ⟨k + 1, by omega, by go_num, below_drewN HB.out _⟩
      case measure => simp [intOf]; omega
    · clear hb hbw
      go_wp2_with (go_at_call 83; refine (refSameInst_true n bs _ _ _ _ _ (HGY.out.buys.grow HBW.out) (HGX.out.grow HBW.out)).mono ?_; rintro e w1 ⟨rfl, hb1⟩; obtain ⟨c1, d1, k1, k2⟩ : w1.cell? ⟨w.heap.size, 1, none⟩ = some (.slice (some ⟨gy, 0, none⟩) bs.length cy) ∧ w1.cell? ⟨w.heap.size + 1, 1, none⟩ = some (.slice A bs.length cap) ∧ w1.cell? ⟨gy, bs.length, none⟩ = some (.slice (some ⟨gs, 0, none⟩) 1 1) ∧ w1.cell? ⟨gs, 1, none⟩ = some (.int .i64 4243) := ⟨(hb1.cell (p := ⟨w.heap.size, 1, none⟩) (by simp; omega)).trans cx1, (hb1.cell (p := ⟨w.heap.size + 1, 1, none⟩) (by simp; omega)).trans cy1, (hb1.cell (p := ⟨gy, bs.length, none⟩) (by simp; omega)).trans ((HBW.out.cell (p := ⟨gy, bs.length, none⟩) hgylt).trans HLAST.out), (hb1.cell (p := ⟨gs, 1, none⟩) (by simp; omega)).trans ((HBW.out.cell (p := ⟨gs, 1, none⟩) hgslt).trans HG1.out)⟩; have HB1 := Lib.hid (HBW.out.trans (hb1.mono HBW.out.size)); clear hb1)
      have hwr : IntKind.i64.wrap ((bs.length : Int) + 1) = bs.length + 1 := IntWalk.i64_in _ (by omega)
      have hn0 : (0 : Int) ≤ (bs.length : Int) := by omega
      have hn1 : (bs.length : Int) + 1 ≤ (cy : Int) := by omega
      have hn2 : (0 : Int) ≤ (bs.length : Int) + 1 := by omega
      have hn3 : ((bs.length : Int) + 1).toNat = bs.length + 1 := by omega
      have hn4 : (bs.length : Int) < ((bs.length + 1 : Nat) : Int) := by omega
      go_quiet (fail)
      go_wp2_with fail
      go_ret
      exact ⟨rfl, below_drewN HB1.out _⟩
end Go.Proofs.Ytcigobiolbojhaa.Vb

/- Law 18's own: over. -/
namespace Go.Proofs.Ytcigobiolbojhaa.Vb
open Go.RowKit

theorem grownBy_set {w w' : World} {v : Value} {g : Nat} (h : w.grownBy w' v.ownBlock) (hv : v.ownBlock = some g) (j : Nat) (u : Value) : w.grownBy (w'.setCell ⟨g, j, none⟩ u) v.ownBlock :=
  ⟨h.os, h.tape, h.output, by simpa [World.setCell] using h.size, fun i hi hne => (Below.heap_setCell w' ⟨g, j, none⟩ u i (fun e => hne (by rw [hv]; exact congrArg some e))).trans (h.block i hi hne)⟩

set_option maxHeartbeats 800000 in
theorem over_any (lo n : Nat) (hn : n ≤ 1000) (v : Value) (xs : List Value) (w : World) (h : w.ownsRow lo 2 1 v n xs) (hv : ∃ A c, v = .slice A n c) :
    Calls Try.prog 45 #[v] w fun e w' => (∃ r, e = .returned r) ∧ w.grownBy w' v.ownBlock ∧ w'.heap.size = w.heap.size := by
  obtain ⟨A, c, rfl⟩ := hv
  have H := Lib.hid h
  clear h
  go_enter Try.func45, Try.ntmps45
  go_wp2
  go_loopw [2] (fun i wr => ∃ (k : Nat) (ys : List Value), k ≤ n ∧ i = .int .i64 k ∧ w.grownBy wr (Value.slice A n c).ownBlock ∧ wr.heap.size = w.heap.size ∧ wr.ownsRow lo 2 1 (.slice A n c) n ys) (fun i _ => n - (intOf i).toNat)
  case atStart => exact ⟨0, xs, Nat.zero_le _, rfl, ⟨rfl, rfl, rfl, Nat.le_refl _, fun _ _ _ => rfl⟩, rfl, H.out⟩
  case round =>
    obtain ⟨k, ys, hk, rfl, hg, hs, ho⟩ := hrel
    by_cases hlt : k < n
    · obtain ⟨g, rfl, _, _, _, hf, hc⟩ := own_some ho (by omega)
      obtain ⟨u, _, hcell⟩ := hc k hlt
      have hfr := hf k
      have HG := Lib.hid (grownBy_set hg (g := g) rfl k (.int .i64 (-99)))
      have HO := Lib.hid (ho.stored k (.int .i64 (-99))).1
      have HS := Lib.hid hs
      have e1 : (0 : Int) ≤ (k : Int) := by omega
      have e2 : (k : Int) < (n : Int) := by omega
      clear hg hs ho hf hc
      go_wp2_with fail
      go_roundw
      case rel => exact ⟨k + 1, _, by omega, by go_num, HG.out, by simpa [World.setCell] using HS.out, HO.out⟩
      case measure => simp [intOf]; omega
    · have HG := Lib.hid hg
      have HS := Lib.hid hs
      clear hg hs ho
      go_wp2_with fail
      go_end0
      exact ⟨⟨_, rfl⟩, HG.out, HS.out⟩
end Go.Proofs.Ytcigobiolbojhaa.Vb

/- Law 18's own: large, total. -/
namespace Go.Proofs.Ytcigobiolbojhaa.Vb
open Go.RowKit

def largeB (bs : List (List Off)) : Bool := (bs.take 41).any (fun l => decide (20 < l.length)) || decide (40 < bs.length)
theorem largeB_of {bs : List (List Off)} {k : Nat} {l : List Off} (h : bs[k]? = some l) (hk : k < 41) (hl : 20 < l.length) : largeB bs = true := by
  unfold largeB
  rw [List.any_eq_true.2 ⟨l, List.mem_of_getElem? (i := k) (by rw [List.getElem?_take, if_pos hk]; exact h), by simpa using hl⟩]
  rfl
theorem largeB_none {bs : List (List Off)} (h : ∀ j l, j < min bs.length 41 → bs[j]? = some l → ¬ 20 < l.length) : largeB bs = decide (40 < bs.length) := by
  unfold largeB
  have : (bs.take 41).any (fun l => decide (20 < l.length)) = false := by
    rw [List.any_eq_false]
    intro l hl
    obtain ⟨j, hj, rfl⟩ := List.getElem_of_mem hl
    rw [List.length_take] at hj
    rw [List.getElem_take]
    simpa using h j _ (by omega) (List.getElem?_eq_getElem (by omega))
  rw [this]
  rfl
theorem largeB_small {bs : List (List Off)} (h : largeB bs = false) : bs.length ≤ 40 ∧ ∀ l ∈ bs, l.length ≤ 20 := by
  unfold largeB at h
  rw [Bool.or_eq_false_iff] at h
  obtain ⟨h1, h2⟩ := h
  have h2 : bs.length ≤ 40 := by simpa using h2
  refine ⟨h2, fun l hl => ?_⟩
  rw [List.any_eq_false] at h1
  rw [List.take_of_length_le (by omega)] at h1
  simpa using h1 l hl

set_option maxHeartbeats 800000 in
theorem large_any (n : Int) (bs : List (List Off)) (v : Value) (R : Nat → Prop) (w : World) (hl : Buys w R v bs) :
    Calls Try.prog 36 #[.agg #[.int .i64 n, v]] w fun e w' => e = .returned (.bool (largeB bs)) ∧ Below w.heap.size w w' := by
  obtain ⟨vs, ⟨hlen, A, cap, rfl, hncap, hcap, hcells⟩, hvs⟩ := id hl
  unfold maxLen at hcap
  have hnl : bs.length ≤ 9223372036854775807 := by omega
  have HC := Lib.hid hcells
  have HV := Lib.hid hvs
  clear hl hcells hvs hlen
  go_enter Try.func36, Try.ntmps36
  go_wp2
  go_loop [3] (fun i => ∃ k : Nat, k ≤ min bs.length 41 ∧ i = .int .i64 k ∧ ∀ j l, j < k → bs[j]? = some l → ¬ 20 < l.length) (fun i => bs.length - (intOf i).toNat)
  case atStart => exact ⟨0, Nat.zero_le _, rfl, fun j x hj => by omega⟩
  case round =>
    obtain ⟨k, hk, rfl, hno⟩ := hrel
    have HN := Lib.hid hno
    clear hno
    by_cases hlt : k < bs.length
    · by_cases h41 : k < 41
      · obtain ⟨bb, off, rfl, _, hbb, hcs⟩ := HC.out (by omega)
        obtain ⟨l, ho⟩ : ∃ l, bs[k]? = some l := ⟨_, List.getElem?_eq_getElem hlt⟩
        obtain ⟨u, hu, hol⟩ := HV.out k l ho
        have c0 := cellAlloc (hcs _ _ hu)
        obtain ⟨⟨_, A', cap', rfl, _⟩, _⟩ := hol
        clear hcs hu
        have HO := Lib.hid ho
        clear ho
        by_cases h8 : 20 < l.length
        · have h8' := Lib.hid h8
          go_wp2
          go_ret
          rw [largeB_of HO.out h41 h8'.out]
          exact ⟨rfl, (Below.refl _ _).alloc (Nat.le_refl _) _⟩
        · have h8' := Lib.hid h8
          go_wp2
          go_round
          case rel =>
            refine ⟨k + 1, by omega, by go_num, fun j x hj hx => ?_⟩
            by_cases hjk : j < k
            · exact HN.out j x hjk hx
            · obtain rfl : j = k := by omega
              rw [HO.out] at hx
              cases hx
              exact h8'.out
          case measure => simp [intOf]; omega
      · have hg := largeB_none (bs := bs) (fun j l hj => HN.out j l (by omega))
        have HG := Lib.hid hg
        clear hg
        go_wp2
        go_ret
        refine ⟨ret_bool ?_, (Below.refl _ _).alloc (Nat.le_refl _) _⟩
        rw [HG.out, Bool.eq_iff_iff]
        simp
        omega
    · have hg := largeB_none (bs := bs) (fun j l hj => HN.out j l (by omega))
      have HG := Lib.hid hg
      clear hg
      go_wp2
      go_ret
      refine ⟨ret_bool ?_, (Below.refl _ _).alloc (Nat.le_refl _) _⟩
      rw [HG.out, Bool.eq_iff_iff]
      simp
      omega
end Go.Proofs.Ytcigobiolbojhaa.Vb

/- Law 18's own: small, known. -/
namespace Go.Proofs.Ytcigobiolbojhaa.Vb
open Go.RowKit

theorem same18_true (cs : List Int) (ca cb : Value) (R1 R2 : Nat → Prop) (w : World) (h1 : Sl w R1 ca cs.length 1 (ints cs)) (h2 : Sl w R2 cb cs.length 1 (ints cs)) :
    Calls Try.prog 43 #[ca, cb] w fun e w' => e = .returned (.bool true) ∧ Below w.heap.size w w' := by
  obtain ⟨_, A1, c1, rfl, hn1, hc1, hs1⟩ := h1
  obtain ⟨_, A2, c2, rfl, hn2, hc2, hs2⟩ := h2
  unfold maxLen at hc1 hc2
  have H1 := Lib.hid hs1
  have H2 := Lib.hid hs2
  clear hs1 hs2
  go_enter Try.func43, Try.ntmps43
  go_wp2
  go_loopw [5] (fun i wr => ∃ k : Nat, k ≤ cs.length ∧ i = .int .i64 k ∧ Below w.heap.size w wr) (fun i _ => cs.length - (intOf i).toNat)
  case atStart => exact ⟨0, Nat.zero_le _, rfl, Below.refl _ _⟩
  case round =>
    obtain ⟨k, hk, rfl, hb⟩ := hrel
    by_cases hlt : k < cs.length
    · obtain ⟨c, hc⟩ : ∃ c, cs[k]? = some c := ⟨_, List.getElem?_eq_getElem hlt⟩
      obtain ⟨b1, o1, rfl, _, hb1, hx1⟩ := H1.out (by omega)
      obtain ⟨b2, o2, rfl, _, hb2, hx2⟩ := H2.out (by omega)
      have e1 := (hb.cell hb1).trans (hx1 _ _ (ints_get hc))
      have e2 := (hb.cell hb2).trans (hx2 _ _ (ints_get hc))
      have HB := Lib.hid hb
      clear hx1 hx2 hb hc
      go_wp2_with fail
      go_quiet (fail)
      go_wp2_with fail
      go_roundw
      case rel => exact ⟨k + 1, by omega, by go_num, below_drewN HB.out _⟩
      case measure => simp [intOf]; omega
    · have HB := Lib.hid hb
      clear hb
      go_wp2_with fail
      go_ret
      exact ⟨rfl, HB.out⟩

def bsS : List (List Off) := [[⟨1, 10⟩], [⟨2, 10⟩], [⟨3, 10⟩]]

theorem small_buys {w : World} {g g1 g2 g3 : Nat} {t u : TypeId} (h1 : Blk w g1 t #[.int .u32 1, .int .i64 10]) (h2 : Blk w g2 t #[.int .u32 2, .int .i64 10]) (h3 : Blk w g3 t #[.int .u32 3, .int .i64 10])
    (h : Blk w g u #[.slice (some ⟨g1, 0, none⟩) 1 1, .slice (some ⟨g2, 0, none⟩) 1 1, .slice (some ⟨g3, 0, none⟩) 1 1]) : Buys w (fun _ => True) (.slice (some ⟨g, 0, none⟩) 3 3) bsS := by
  refine ⟨_, Sl.blk (sz := 1) h (by omega) (by unfold maxLen; omega) rfl, fun k l hk => ?_⟩
  rcases k with _ | _ | _ | k
  · obtain rfl : [⟨1, 10⟩] = l := by simpa [bsS] using hk
    exact ⟨_, rfl, Sl.blk (sz := 2) h1 (by omega) (by unfold maxLen; omega) rfl, fun o ho => by simp at ho; subst ho; simp [Off.wf]⟩
  · obtain rfl : [⟨2, 10⟩] = l := by simpa [bsS] using hk
    exact ⟨_, rfl, Sl.blk (sz := 2) h2 (by omega) (by unfold maxLen; omega) rfl, fun o ho => by simp at ho; subst ho; simp [Off.wf]⟩
  · obtain rfl : [⟨3, 10⟩] = l := by simpa [bsS] using hk
    exact ⟨_, rfl, Sl.blk (sz := 2) h3 (by omega) (by unfold maxLen; omega) rfl, fun o ho => by simp at ho; subst ho; simp [Off.wf]⟩
  · simp [bsS] at hk

set_option maxHeartbeats 800000 in
theorem small_any (w : World) :
    Calls Try.prog 92 #[] w fun e w' => ∃ A cap, e = .returned (.agg #[.int .i64 2, .slice A 3 cap]) ∧ Buys w' (fun _ => True) (.slice A 3 cap) bsS ∧ Below w.heap.size w w' := by
  go_enter Try.func92, Try.ntmps92
  go_wp2
  refine bodyPost_ret (v := .agg #[.int .i64 2, .slice (some ⟨w.heap.size + 1 + 1 + 1 + 1, 0, none⟩) 3 3]) (by simp [results, Try.results92, go_sem]) rfl ⟨_, _, rfl, small_buys (((Blk.new' _ _ (by simp)).alloc _).alloc _ |>.alloc _) (((Blk.new' _ _ (by simp)).alloc _).alloc _) ((Blk.new' _ _ (by simp)).alloc _) (Blk.new' _ _ (by simp)), ?_⟩
  exact (((((Below.refl _ _).alloc (Nat.le_refl _) _).alloc (by simp) _).alloc (by simp; omega) _).alloc (by simp; omega) _).alloc (by simp; omega) _

theorem bsS_inst : instE 2 bsS = 0 := by decide
theorem bsS_pay : payTo 2 bsS 3 = [0, 10, 0] := by decide +kernel
theorem bsS_ask0 : askE 2 bsS [0, 0, 0] = 0 := by decide +kernel
theorem bsS_blockB : blockB 2 bsS [0, 0, 0] = true := by decide +kernel
theorem bsS_blockL : blockL 2 bsS [0, 0, 0] = [2] := by decide +kernel
theorem bsS_blockM : blockM 2 bsS [0, 0, 0] = 10 := by decide +kernel
theorem bsS_least : leastV 2 bsS [9, 6, 0] 0 = 4 := by decide +kernel
theorem bsS_leastE : leastE 2 bsS [9, 6, 0] 0 = 0 := by decide +kernel
end Go.Proofs.Ytcigobiolbojhaa.Vb

/- Law 18's own: known. -/
namespace Go.Proofs.Ytcigobiolbojhaa.Vb
open Go.RowKit

set_option maxRecDepth 100000 in
set_option maxHeartbeats 1600000 in
theorem known_any (w : World) : Calls Try.prog 37 #[] w fun e w' => e = .returned (.bool true) ∧ Below w.heap.size w w' := by
  have hz3 : ∀ (W : World) (a b c : Int), Sl (W.alloc (.cells #[.int .i64 a, .int .i64 b, .int .i64 c] 2)) (fun _ => True) (.slice (some ⟨W.heap.size, 0, none⟩) 3 3) [a, b, c].length 1 (ints [a, b, c]) := fun W a b c => Sl.blk (Blk.new W _ _) (by omega) (by unfold maxLen; omega) rfl
  go_enter Try.func37, Try.ntmps37
  go_wp2_with fail
  refine (small_any w).mono ?_
  rintro e w1 ⟨T1, k1, rfl, ht1, hb1⟩
  have HT1 := Lib.hid ht1
  have HB1 := Lib.hid hb1
  clear hb1 ht1
  go_wp2_with fail
  refine (corePay_ok 2 bsS _ _ _ HT1.out bsS_inst).mono ?_
  rintro e w2 ⟨AP, kP, rfl, hown, hb2⟩
  have hown : w2.ownsRow w1.heap.size 2 1 (.slice AP 3 kP) 3 (ints [0, 10, 0]) := by rw [← bsS_pay]; exact hown
  have HP2 := Lib.hid hown
  have HB2 := Lib.hid (HB1.out.trans (hb2.mono HB1.out.size))
  clear hb2 hown
  go_wp2_with fail
  refine (small_any w2).mono ?_
  rintro e w3 ⟨T3, k3, rfl, ht3, hb3⟩
  have HT3 := Lib.hid ht3
  have HP3 := Lib.hid (own_grow HP2.out hb3)
  have HB3 := Lib.hid (HB2.out.trans (hb3.mono HB2.out.size))
  clear hb3 ht3
  go_wp2_with fail
  refine (coreBlocks_ok 2 bsS _ _ _ [0, 0, 0] _ _ (HT3.out.alloc _) (hz3 w3 0 0 0) bsS_ask0).mono ?_
  rintro e w4 ⟨A4, k4, rfl, hown4, hb4⟩
  rw [bsS_blockL] at hown4 ⊢
  rw [bsS_blockM, bsS_blockB, bsS_ask0]
  obtain ⟨g, rfl, _, _, _, _, _⟩ := own_some hown4 (by decide)
  have HO4 := Lib.hid hown4
  have HP4 := Lib.hid (own_grow (own_alloc HP3.out _) hb4)
  have HB4 := Lib.hid ((HB3.out.alloc HB3.out.size _).trans (hb4.mono (by have := HB3.out.size; simp; omega)))
  clear hb4 hown4
  go_wp2_with fail
  obtain ⟨w5, hw5⟩ : ∃ V, V = w4.alloc (.cells #[.slice (some ⟨g, 0, none⟩) 1 k4, .int .i64 10] 85) := ⟨_, rfl⟩
  have HQ5 := Lib.hid (show Blk w5 w4.heap.size 85 #[.slice (some ⟨g, 0, none⟩) 1 k4, .int .i64 10] from by rw [hw5]; exact Blk.new w4 _ _)
  have HO5 := Lib.hid (show w5.ownsRow (w3.alloc (.cells #[.int .i64 0, .int .i64 0, .int .i64 0] 2)).heap.size 3 1 (.slice (some ⟨g, 0, none⟩) 1 k4) 1 (ints [2]) from by rw [hw5]; exact own_alloc HO4.out _)
  have HP5 := Lib.hid (show w5.ownsRow w1.heap.size 2 1 (.slice AP 3 kP) 3 (ints [0, 10, 0]) from by rw [hw5]; exact own_alloc HP4.out _)
  have HB5 := Lib.hid (show Below w.heap.size w w5 from by rw [hw5]; exact HB4.out.alloc HB4.out.size _)
  rw [← hw5]
  clear hw5
  refine (small_any w5).mono ?_
  rintro e w6 ⟨T6, k6, rfl, ht6, hb6⟩
  have HT6 := Lib.hid ht6
  have HQ6 := Lib.hid (HQ5.out.grow hb6)
  have HO6 := Lib.hid (own_grow HO5.out hb6)
  have HP6 := Lib.hid (own_grow HP5.out hb6)
  have HB6 := Lib.hid (HB5.out.trans (hb6.mono HB5.out.size))
  clear hb6 ht6
  go_wp2_with fail
  refine (coreLeast_any 2 bsS _ _ _ [9, 6, 0] _ 0 _ (HT6.out.alloc _) (hz3 w6 9 6 0)).mono ?_
  rintro e w7 ⟨rfl, hb7⟩
  rw [bsS_least, bsS_leastE]
  have hbs := (Below.refl w6.heap.size w6).alloc (Nat.le_refl _) (.cells #[.int .i64 9, .int .i64 6, .int .i64 0] 2)
  have hQ7 := (HQ6.out.grow hbs).grow hb7
  have hO7 := own_grow (own_grow HO6.out hbs) hb7
  have hP7 := own_grow (own_grow HP6.out hbs) hb7
  have hB7 := (HB6.out.trans (hbs.mono HB6.out.size)).trans (hb7.mono (by have := HB6.out.size; simp; omega))
  have hal := (Below.refl w7.heap.size w7).alloc (Nat.le_refl _) (.cells #[.int .i64 0, .int .i64 10, .int .i64 0] 2)
  have HQ7 := Lib.hid (hQ7.grow hal)
  have HO7 := Lib.hid (own_grow hO7 hal)
  have HP7 := Lib.hid (own_grow hP7 hal)
  have HB7 := Lib.hid (hB7.trans (hal.mono hB7.size))
  clear hbs hQ7 hO7 hP7 hB7 hal hb7
  go_wp2_with (go_at_call 43; refine (same18_true [0, 10, 0] _ _ _ _ _ (Sl.of_own HP7.out) (hz3 w7 0 10 0)).mono ?_; rintro e w8 ⟨rfl, hb8⟩; obtain ⟨q0, q1, o0⟩ : w8.cell? ⟨w4.heap.size, 0, none⟩ = some (.slice (some ⟨g, 0, none⟩) 1 k4) ∧ w8.cell? ⟨w4.heap.size, 1, none⟩ = some (.int .i64 10) ∧ w8.cell? ⟨g, 0, none⟩ = some (.int .i64 2) := ⟨(HQ7.out.grow hb8).cell 0, (HQ7.out.grow hb8).cell 1, (own_grow HO7.out hb8).cellAt 0 (by decide)⟩; have HB8 := Lib.hid (HB7.out.trans (hb8.mono HB7.out.size)); clear hb8)
  go_ret
  exact ⟨rfl, HB8.out⟩
end Go.Proofs.Ytcigobiolbojhaa.Vb

/- Law 18's own: steps. -/
namespace Go.Proofs.Ytcigobiolbojhaa.Vb
open Go.RowKit Go.Shelf
attribute [local go_sem] Oper.semAt_some

theorem eql_seq_nil (fn : Fn) (fi ca : Array Value) (W : World) : (binOp .eql 78 (.func fn fi ca) .nilFunc).run Try.prog W = .ok (.bool false) W := by kernel_rfl

theorem quiet_left_in {P : Program} {f : FuncId} {args : Array Value} {w : World} {n r l : Nat} {v : Value}
    (h : Calls P f args (w.drewN n) fun e w' => e = .returned v ∧ w.drewN n = w') : CallsIn (Fence.wide.inRound l) r P f args (w.drewN n) fun e w'' => e = .returned v ∧ ∃ m, w'' = w.drewN m :=
  CallsIn.inRound l (callsIn_wide.2 (quiet_left h))
theorem wp_noPanic {P : Program} {c : Code} {Q : Exit → Act → World → Prop} {a : Act} {w : World} (h : c.wp P (fun e a w => match e with | .panic _ => False | e => Q e a w) a w) : c.wp P Q a w :=
  wp_mono h fun e a w h => by
    cases e with
    | panic c => exact h.elim
    | _ => exact h
theorem keepsO_of_below {A B : World} (h : Below A.heap.size A B) : KeepsOthers A B := ⟨h.size, fun k o hk _ => (h.block k (Array.getElem?_eq_some_iff.1 hk).1).trans hk⟩
/-- between two steps -/
structure StepI (b0 g : Nat) (n : Int) (v : Value) (pre : List (Int × List Int × Value)) (W : World) : Prop where
  x : Blk W b0 24 #[.int .i64 n, v]
  r : Blk W (b0 + 1) 4 #[.bool false]
  l : Blk W g 2 #[.int .i64 (lastOf (tells pre))]
  a : Blk W (g + 1) 3 #[.int .i64 (atOf (tells pre))]
theorem stepI_own (b0 g : Nat) (n : Int) (v : Value) : Own (StepI b0 g n v) := fun _ _ _ _ h hg hr => ⟨h.x.cells hg hr, h.r.cells hg hr, h.l.cells hg hr, h.a.cells hg hr⟩

set_option maxRecDepth 100000 in
set_option maxHeartbeats 4000000 in
theorem steps_walk (n : Int) (bs : List (List Off)) (v vp : Value) (R Rp : Nat → Prop) (w : World) (hl : Buys w R v bs) (hi : instE n bs = 0) (hp : Sl w Rp vp (payTo n bs bs.length).length 1 (ints (payTo n bs bs.length))) :
    Calls Try.prog 49 #[.agg #[.int .i64 n, v], vp] w fun e w' => e = .returned (.bool true) ∧ Below w.heap.size w w' := by
  obtain ⟨_, ⟨_, A, cap, rfl, _⟩, _⟩ := id hl
  obtain ⟨_, AP, capP, rfl, _, _, _⟩ := id hp
  have HB := Lib.hid hl
  have HI := Lib.hid hi
  have HP := Lib.hid hp
  have HWF := Lib.hid (Buys.wf hl)
  have hl32 := (instE_zero hi).2.2.1
  have heq := eql_seq_nil
  clear hl hi hp
  refine (callsIn_wide (n := 3)).1 (callsIn_of_wp_marks Try.func49 rfl trivial ((wpIn_wide (n := 3)).2 (wp_noPanic ?_)))
  simp only [Try.ntmps49, List.size_toArray, List.length_cons, List.length_nil, Nat.reduceAdd, Nat.reduceSub, Array.replicate_succ, Array.replicate_zero, List.push_toArray, List.append_toArray, List.nil_append, List.cons_append]
  go_wp2_with fail
  refine (coreSteps_ok n bs _ R _ ((HB.out.alloc _).alloc _) HI.out).mono ?_
  rintro e w1 ⟨b4, b3, rfl, hsh, hb1⟩
  obtain ⟨hX, hR, hs1, hbw⟩ := two_blk' hb1
  have hsh' : Shared w1 (w.heap.size + 2) b4 b3 (whoL n bs) (rowsL n bs) := by simpa using hsh
  have HX := Lib.hid hX
  have HR := Lib.hid hR
  have HSH := Lib.hid hsh'
  have HB1 := Lib.hid hbw
  clear hb1 hsh hsh' hX hR hbw
  go_wp2_with fail
  refine (wpIn_wide (n := 3)).1 ?_
  obtain ⟨w2, hw2⟩ : ∃ V, V = (w1.alloc (.cells #[.int .i64 (-1)] 2)).alloc (.cells #[.int .i64 (-1)] 3) := ⟨_, rfl⟩
  have hI0 : StepI w.heap.size w1.heap.size n (.slice A bs.length cap) [] w2 := by
    rw [hw2]
    exact ⟨(HX.out.alloc _).alloc _, (HR.out.alloc _).alloc _, (Blk.new w1 _ _).alloc _, Blk.new' _ _ (by simp)⟩
  have hB2 : Below w.heap.size w w2 := by rw [hw2]; exact (HB1.out.alloc HB1.out.size _).alloc (by have := HB1.out.size; simp; omega) _
  have hK2 : KeepR (w.heap.size + 2) w1.heap.size w1 w2 := by rw [hw2]; exact KeepR.of_below (((Below.refl _ _).alloc (Nat.le_refl _) _).alloc (by simp) _)
  have hs2 : w2.heap.size = w1.heap.size + 2 := by rw [hw2]; simp
  rw [← hw2]
  have HI0 := Lib.hid hI0
  have HB2 := Lib.hid hB2
  have HK2 := Lib.hid hK2
  clear hw2 hI0 hB2 hK2
  refine' wpIn_rangeFunc_V (F := Fence.wide) (n := 3) rfl (by omega) (gf := 98) (lb := #[.pointer (some ⟨b4, 0, none⟩), .pointer (some ⟨b3, 0, none⟩)]) rfl trivial (enters_of Try.func98 (by kernel_rfl) rfl)
    (shared_stops Fence.wide 2 trivial rfl (by omega) HSH.out (by have := whoL_len n bs; omega) (rowsL_len n bs) (fun r hr => by rw [rowsTo_rows HI.out HWF.out hr]; omega) HK2.out) keepR_t (keepR_b (by omega)) (Below.refl _ _) (fun _ => rfl) (told_own _ _)
    (fun pre W => StepI w.heap.size w1.heap.size n (.slice A bs.length cap) pre W ∧ Below w.heap.size w W)
    (fun _ _ _ => False)
    (OwnFrom.and (Own.from (stepI_own _ _ _ _) _) (ownFrom_below (Nat.le_refl _) (by omega)))
    (fun c => fun _ _ _ _ h _ _ => h)
    ⟨HI0.out, HB2.out⟩ _ ?assign ?body ?done ?stop
  case assign =>
    intro l x W K hK
    gi_wp2
    exact hK
  case body =>
    rintro l pre x W ⟨hI, hB⟩ hT hsp hlt2
    have hTT : W.ownsRow (w2.heap.size + 2) 2 1 x.2.2 x.2.1.length (ints x.2.1) := hT
    obtain ⟨xa, xl, xv⟩ := x
    obtain ⟨Ax, cx, hxv⟩ := own_form hTT
    dsimp only at hxv hTT
    subst hxv
    have hz := (zip_inv HI.out HWF.out bs.length (Nat.le_refl _)).2 (tells pre) (xa, xl) (by rw [zip_all HI.out] at hsp; simpa [tells] using hsp)
    obtain ⟨hfree, hat, hx0, hx1, hlast⟩ := hz
    dsimp only at hfree hat hx0 hx1 hlast
    have hask : askE n bs xl = 0 := by unfold askE; rw [if_pos HI.out, if_pos hfree.1]
    have hbk : blockB n bs xl = false := free_blocked HI.out hfree
    have hxlen := pay_len hfree.1
    rw [hxlen] at hTT ⊢
    have HXL := Lib.hid hxlen
    have hsum0 := pay_sum_nonneg HI.out HWF.out hfree.1
    have hpb := pay_bd HI.out HWF.out hfree.1
    obtain ⟨lv, hlv⟩ : ∃ z, z = lastOf (tells pre) := ⟨_, rfl⟩
    obtain ⟨av, hav⟩ : ∃ z, z = atOf (tells pre) := ⟨_, rfl⟩
    have hor : lv < 0 ∨ sumI xl ≤ lv := by
      by_cases hne : tells pre = []
      · left; rw [hlv, hne]; decide
      · right; rw [hlv]; exact hlast hne
    have p0 : W.cell? ⟨w.heap.size, 0, none⟩ = some (.int .i64 n) := hI.x.cell 0
    have p1 : W.cell? ⟨w.heap.size, 1, none⟩ = some (.slice A bs.length cap) := hI.x.cell 1
    have HII := Lib.hid hI
    have HT := Lib.hid hTT
    have HBB := Lib.hid hB
    have HASK := Lib.hid hask
    have HBK := Lib.hid hbk
    have HPB := Lib.hid hpb
    have HLV := Lib.hid hlv
    have HAV := Lib.hid hav
    have HSP := Lib.hid hsp
    rw [← hav] at hat
    clear hI hB hT hTT hsp hlt2 hask hbk hpb hlv hav hlast hfree hxlen
    dsimp only
    have hd : 1 ≤ 3 - 1 - 1 := by omega
    have hslx : Sl W (fun _ => True) (.slice Ax bs.length cx) xl.length 1 (ints xl) := by rw [HXL.out]; exact (Sl.of_own HT.out).any
    have HSLX := Lib.hid hslx
    clear hslx
    gi_wp2
    refine ⟨trivial, (CallsIn.inRound l (callsIn_wide.2 (coreBlocks_ok n bs _ R _ xl (.slice Ax bs.length cx) W (HB.out.grow HBB.out) HSLX.out HASK.out))).mono ?_⟩
    rintro e W2 ⟨A4, k4, rfl, _, hb4⟩
    rw [HASK.out, HBK.out]
    obtain ⟨W3, hW3⟩ : ∃ V, V = W2.alloc (.cells #[.slice A4 (blockL n bs xl).length k4, .int .i64 (blockM n bs xl)] 85) := ⟨_, rfl⟩
    have hg : Below W.heap.size W W3 := by rw [hW3]; exact hb4.alloc hb4.size _
    have c0 : W3.cell? ⟨w1.heap.size, 0, none⟩ = some (.int .i64 lv) := by rw [HLV.out]; exact (HII.out.l.grow hg).cell 0
    have c1 : W3.cell? ⟨w1.heap.size + 1, 0, none⟩ = some (.int .i64 av) := by rw [HAV.out]; exact (HII.out.a.grow hg).cell 0
    have HG := Lib.hid hg
    clear hb4 hg p0 p1
    have hle : decide (xa ≤ av) = false := by simp; omega
    have hfn : Fence.wide.fn 102 := trivial
    have hmx : Try.prog.follows .mixedOrders = true := by kernel_rfl
    have htot : ∀ V, Below W3.heap.size W3 V → Calls Try.prog 102 #[.slice Ax bs.length cx] V fun e w' => e = .returned (.int .i64 (sumI xl)) ∧ V = w' := fun V hV => lawTotal_any xl _ (fun _ => True) _ ((HSLX.out.grow HG.out).grow hV) (fun x hx => by have := HPB.out x hx; omega) (by have := HXL.out; omega)
    have HTOT := Lib.hid htot
    clear htot
    have f0 : W3.frozen? ⟨w1.heap.size, 0, none⟩ = false := (HII.out.l.grow HG.out).frozen 0
    have f1 : W3.frozen? ⟨w1.heap.size + 1, 0, none⟩ = false := (HII.out.a.grow HG.out).frozen 0
    have hend : KeepsOthers W ((W3.drew.setCell ⟨w1.heap.size + 1, 0, none⟩ (.int .i64 xa)).setCell ⟨w1.heap.size, 0, none⟩ (.int .i64 (sumI xl))) ∧ KeepR (w.heap.size + 2) w1.heap.size W ((W3.drew.setCell ⟨w1.heap.size + 1, 0, none⟩ (.int .i64 xa)).setCell ⟨w1.heap.size, 0, none⟩ (.int .i64 (sumI xl))) ∧
        StepI w.heap.size w1.heap.size n (.slice A bs.length cap) (pre ++ [(xa, xl, .slice Ax bs.length cx)]) ((W3.drew.setCell ⟨w1.heap.size + 1, 0, none⟩ (.int .i64 xa)).setCell ⟨w1.heap.size, 0, none⟩ (.int .i64 (sumI xl))) ∧
        Below w.heap.size w ((W3.drew.setCell ⟨w1.heap.size + 1, 0, none⟩ (.int .i64 xa)).setCell ⟨w1.heap.size, 0, none⟩ (.int .i64 (sumI xl))) := by
      have hwl := HII.out.l.lt
      have htl : tells (pre ++ [(xa, xl, .slice Ax bs.length cx)]) = tells pre ++ [(xa, xl)] := by simp [tells]
      have hx3 := HII.out.x.grow HG.out
      have hr3 := HII.out.r.grow HG.out
      have hl3 := HII.out.l.grow HG.out
      have ha3 := HII.out.a.grow HG.out
      refine ⟨((keepsO_of_below HG.out).trans (KeepsOthers.drew _)).trans ((KeepsOthers.setCell _ _ _).trans (KeepsOthers.setCell _ _ _)), ?_, ⟨?_, ?_, ?_, ?_⟩, ?_⟩
      · exact ((KeepR.of_below ((HG.out.drew).mono (by omega))).trans (KeepR.set _ (p := ⟨w1.heap.size + 1, 0, none⟩) (.inr (by simp)) _)).trans (KeepR.set _ (p := ⟨w1.heap.size, 0, none⟩) (.inr (by simp)) _)
      · exact (hx3.drew.far (p := ⟨w1.heap.size + 1, 0, none⟩) (by simp; omega) _).far (p := ⟨w1.heap.size, 0, none⟩) (by simp; omega) _
      · exact (hr3.drew.far (p := ⟨w1.heap.size + 1, 0, none⟩) (by simp; omega) _).far (p := ⟨w1.heap.size, 0, none⟩) (by simp; omega) _
      · rw [htl, lastOf_snoc]
        exact (hl3.drew.far (p := ⟨w1.heap.size + 1, 0, none⟩) (by simp) _).set_ 0 (.int .i64 (sumI xl))
      · rw [htl, atOf_snoc]
        exact (ha3.drew.set_ 0 (.int .i64 xa)).far (p := ⟨w1.heap.size, 0, none⟩) (by simp) _
      · exact (((HBB.out.trans (HG.out.mono HBB.out.size)).drew).setCell (p := ⟨w1.heap.size + 1, 0, none⟩) (by simp; omega) _).setCell (p := ⟨w1.heap.size, 0, none⟩) (by simp; omega) _
    have HEND := Lib.hid hend
    clear hend
    gi_wp2
    rw [← hW3]
    clear hW3
    by_cases hlv0 : 0 ≤ lv
    · have hge : decide (0 ≤ lv) = true := by simpa using hlv0
      have hgt : decide (lv < sumI xl) = false := by simp; omega
      gi_region_with_o (gi_at_call 102; refine (CallsIn.inRound l (callsIn_wide.2 (HTOT.out _ (Below.refl _ _).drew))).mono ?_; rintro e w' ⟨rfl, rfl⟩)
      all_goals gi_wp2
      all_goals refine (CallsIn.inRound l (callsIn_wide.2 (HTOT.out _ (Below.refl _ _).drew))).mono ?_
      all_goals rintro e w' ⟨rfl, rfl⟩
      all_goals gi_wp2
      all_goals exact HEND.out
    · have hge : decide (0 ≤ lv) = false := by simpa using hlv0
      gi_region_with_o (fail)
      all_goals gi_wp2
      all_goals refine (CallsIn.inRound l (callsIn_wide.2 (HTOT.out _ (Below.refl _ _).drew))).mono ?_
      all_goals rintro e w' ⟨rfl, rfl⟩
      all_goals gi_wp2
      all_goals exact HEND.out
  case done =>
    rintro D ys W hD hys ⟨hI, hB⟩ hK
    rw [zip_all HI.out] at hys
    have p0 : W.cell? ⟨w1.heap.size, 0, none⟩ = some (.int .i64 (lastOf (tells ys))) := hI.l.cell 0
    have p1 : W.cell? ⟨w.heap.size + 1, 0, none⟩ = some (.bool false) := hI.r.cell 0
    have p2 := hI.r.frozen 0
    have hend := zip_end HI.out HWF.out
    rw [← hys] at hend
    have hok := (free_to HI.out HWF.out bs.length (Nat.le_refl _)).1
    have htot : ∀ V, Below W.heap.size W V → Calls Try.prog 102 #[.slice AP (payTo n bs bs.length).length capP] V fun e w' => e = .returned (.int .i64 (sumI (payTo n bs bs.length))) ∧ V = w' := fun V hV => lawTotal_any (payTo n bs bs.length) _ Rp _ ((HP.out.grow hB).grow hV) (fun x hx => by have := pay_bd HI.out HWF.out hok x hx; omega) (by have := pay_len hok; omega)
    have HTOT := Lib.hid htot
    have HK := Lib.hid hK
    have HBB := Lib.hid hB
    have HII := Lib.hid hI
    have hmx : Try.prog.follows .mixedOrders = true := by kernel_rfl
    have hfn : Fence.wide.fn 102 := trivial
    clear hI hB hK hys hok htot
    have hdd := ((KeepsOthers.setCell W ⟨w.heap.size + 1, 0, none⟩ (.bool true)).trans (KeepsOthers.drew _)).same D _ HK.out rfl
    have hc5 := cell_kept (((HII.out.r.set_ 0 (.bool true)).drew).cell 0) (grownBy_putObj' _ D (.deferred none)) (fun r e => by cases e; exact ⟨_, hdd, rfl⟩)
    have hfin : Ending.returned (.bool true) = .returned (.bool true) ∧ Below w.heap.size w (((W.setCell ⟨w.heap.size + 1, 0, none⟩ (.bool true)).drew).putObj D (.deferred none)) :=
      ⟨rfl, (HBB.out.setCell (p := ⟨w.heap.size + 1, 0, none⟩) (by simp) _).drew.trans (belowK_b (w := w) (Nat.le_refl _) _ D _ _ (by omega) hdd rfl rfl)⟩
    have HDD := Lib.hid hdd
    have HLT := Lib.hid HII.out.l.lt
    have HC5 := Lib.hid hc5
    have HFIN := Lib.hid hfin
    clear hdd hc5 hfin
    have HSUM := Lib.hid hend
    rcases hend with ⟨hnil, hz⟩ | ⟨hne, hl, hz⟩
    · have hlv : lastOf (tells ys) = -1 := by rw [hnil]; rfl
      rw [hlv] at p0
      have heq0 : (sumI (payTo n bs bs.length) == 0) = true := by rw [hz]; rfl
      clear hlv hnil hz
      go_wp2_with fail
      refine wp_region_F (Below W.heap.size W) [13] (by kernel_rfl) ((Below.refl _ _).drew) (fun hS => ?_)
      refine wpAnyF_take (i := 0) (oi := { dst := some 50, op := Go.Op.load 2 (Go.Operand.tmp 6), type := 2, pos := "outright.go:76", after := #[], guard := none }) (v := ?_) rfl (by kernel_rfl) (by kernel_rfl) (by kernel_rfl) (by kernel_rfl) (fun _ _ _ h => h) (Or.inl ⟨by rfl, ?_⟩) hS ?_
      rotate_left
      · intro w' hSw; have q1 := (hSw.cell (p := ⟨w1.heap.size, 0, none⟩) HLT.out).trans p0; go_simp; try with_reducible rfl
      try simp only [Act.put, List.setIfInBounds_toArray, List.set_cons_zero, List.set_cons_succ]
      refine wpAnyF_take (i := 1) (oi := { dst := some 51, op := Go.Op.binOp Go.BinOp.lss 2 (Go.Operand.tmp 50) (Go.Operand.const (Go.Value.int Go.IntKind.i64 0)) 2, type := 4, pos := "outright.go:76", after := #[{ on := 0, ground := Go.Ground.data }], guard := none }) (v := ?_) rfl (by kernel_rfl) (by kernel_rfl) (by kernel_rfl) (by kernel_rfl) (fun _ _ _ h => h) (Or.inl ⟨by rfl, ?_⟩) hS ?_
      rotate_left
      · intro w' hSw; have q1 := (hSw.cell (p := ⟨w1.heap.size, 0, none⟩) HLT.out).trans p0; go_simp; try with_reducible rfl
      try simp only [Act.put, List.setIfInBounds_toArray, List.set_cons_zero, List.set_cons_succ]
      refine wpAnyF_take (i := 2) (oi := { dst := some 52, op := Go.Op.move (Go.Operand.tmp 51), type := 4, pos := "outright.go:76", after := #[{ on := 1, ground := Go.Ground.data }], guard := none }) (v := ?_) rfl (by kernel_rfl) (by kernel_rfl) (by kernel_rfl) (by kernel_rfl) (fun _ _ _ h => h) (Or.inl ⟨by rfl, ?_⟩) hS ?_
      rotate_left
      · intro w' hSw; have q1 := (hSw.cell (p := ⟨w1.heap.size, 0, none⟩) HLT.out).trans p0; go_simp; try with_reducible rfl
      try simp only [Act.put, List.setIfInBounds_toArray, List.set_cons_zero, List.set_cons_succ]
      refine wpAnyF_take (i := 3) (oi := { dst := some 53, op := Go.Op.move (Go.Operand.tmp 1), type := 34, pos := "outright.go:76", after := #[{ on := 2, ground := Go.Ground.guard }], guard := some (2, true) }) (v := ?_) rfl (by kernel_rfl) (by kernel_rfl) (by kernel_rfl) (by kernel_rfl) (fun _ _ _ h => h) (Or.inl ⟨by rfl, ?_⟩) hS ?_
      rotate_left
      · intro w' hSw; have q1 := (hSw.cell (p := ⟨w1.heap.size, 0, none⟩) HLT.out).trans p0; go_simp; try with_reducible rfl
      try simp only [Act.put, List.setIfInBounds_toArray, List.set_cons_zero, List.set_cons_succ]
      refine wpAnyF_ready (rs := [4]) (by kernel_rfl) (by simp) ?_
      refine AllReadyF.cons (o := { dst := some 54, op := Go.Op.call { callee := Go.Callee.value (Go.Operand.func 102), args := #[Go.Operand.tmp 53], argTypes := #[34] }, type := 2, pos := "outright.go:76", after := #[{ on := 3, ground := Go.Ground.data }, { on := 2, ground := Go.Ground.chain }, { on := 2, ground := Go.Ground.guard }], guard := some (2, true) }) rfl (by rfl) (fun K hK => ?_) ?_
      · go_simp
        refine (HTOT.out _ hS).mono ?_
        rintro e w' ⟨rfl, rfl⟩
        refine hK.out _ _ ?_ (fun hS => ?_)
        · exact hS
        clear hK K
        try simp only [Act.put, List.setIfInBounds_toArray, List.set_cons_zero, List.set_cons_succ]
        refine wpAnyF_take (i := 5) (oi := { dst := some 55, op := Go.Op.binOp Go.BinOp.eql 2 (Go.Operand.tmp 54) (Go.Operand.const (Go.Value.int Go.IntKind.i64 0)) 2, type := 4, pos := "outright.go:76", after := #[{ on := 4, ground := Go.Ground.data }, { on := 2, ground := Go.Ground.guard }], guard := some (2, true) }) (v := ?_) rfl (by kernel_rfl) (by kernel_rfl) (by kernel_rfl) (by kernel_rfl) (fun _ _ _ h => h) (Or.inl ⟨by rfl, ?_⟩) hS ?_
        rotate_left
        · intro w' hSw; have q1 := (hSw.cell (p := ⟨w1.heap.size, 0, none⟩) HLT.out).trans p0; go_simp; try with_reducible rfl
        try simp only [Act.put, List.setIfInBounds_toArray, List.set_cons_zero, List.set_cons_succ]
        refine wpAnyF_take (i := 6) (oi := { dst := some 56, op := Go.Op.pick (Go.Operand.tmp 52) (Go.Operand.tmp 55) (Go.Operand.const (Go.Value.bool false)), type := 4, pos := "outright.go:76", after := #[{ on := 2, ground := Go.Ground.data }, { on := 5, ground := Go.Ground.data }], guard := none }) (v := ?_) rfl (by kernel_rfl) (by kernel_rfl) (by kernel_rfl) (by kernel_rfl) (fun _ _ _ h => h) (Or.inl ⟨by rfl, ?_⟩) hS ?_
        rotate_left
        · intro w' hSw; have q1 := (hSw.cell (p := ⟨w1.heap.size, 0, none⟩) HLT.out).trans p0; go_simp; try with_reducible rfl
        try simp only [Act.put, List.setIfInBounds_toArray, List.set_cons_zero, List.set_cons_succ]
        refine wpAnyF_take (i := 7) (oi := { dst := some 57, op := Go.Op.move (Go.Operand.tmp 56), type := 4, pos := "outright.go:76", after := #[{ on := 6, ground := Go.Ground.data }, { on := 4, ground := Go.Ground.chain }], guard := none }) (v := ?_) rfl (by kernel_rfl) (by kernel_rfl) (by kernel_rfl) (by kernel_rfl) (fun _ _ _ h => h) (Or.inl ⟨by rfl, ?_⟩) hS ?_
        rotate_left
        · intro w' hSw; have q1 := (hSw.cell (p := ⟨w1.heap.size, 0, none⟩) HLT.out).trans p0; go_simp; try with_reducible rfl
        try simp only [Act.put, List.setIfInBounds_toArray, List.set_cons_zero, List.set_cons_succ]
        refine wpAnyF_take (i := 8) (oi := { dst := some 58, op := Go.Op.load 2 (Go.Operand.tmp 6), type := 2, pos := "outright.go:76", after := #[{ on := 7, ground := Go.Ground.guard }], guard := some (7, false) }) (v := undef) rfl (by kernel_rfl) (by kernel_rfl) (by kernel_rfl) (by kernel_rfl) (fun _ _ _ h => h) (Or.inr ⟨by rfl, rfl⟩) hS ?_
        try simp only [Act.put, List.setIfInBounds_toArray, List.set_cons_zero, List.set_cons_succ]
        refine wpAnyF_take (i := 9) (oi := { dst := some 59, op := Go.Op.move (Go.Operand.tmp 1), type := 34, pos := "outright.go:76", after := #[{ on := 7, ground := Go.Ground.guard }], guard := some (7, false) }) (v := undef) rfl (by kernel_rfl) (by kernel_rfl) (by kernel_rfl) (by kernel_rfl) (fun _ _ _ h => h) (Or.inr ⟨by rfl, rfl⟩) hS ?_
        try simp only [Act.put, List.setIfInBounds_toArray, List.set_cons_zero, List.set_cons_succ]
        refine wpAnyF_take (i := 10) (oi := { dst := some 60, op := Go.Op.call { callee := Go.Callee.value (Go.Operand.func 102), args := #[Go.Operand.tmp 59], argTypes := #[34] }, type := 2, pos := "outright.go:76", after := #[{ on := 9, ground := Go.Ground.data }, { on := 7, ground := Go.Ground.chain }, { on := 7, ground := Go.Ground.guard }], guard := some (7, false) }) (v := undef) rfl (by kernel_rfl) (by kernel_rfl) (by kernel_rfl) (by kernel_rfl) (fun _ _ _ h => h) (Or.inr ⟨by rfl, rfl⟩) hS ?_
        try simp only [Act.put, List.setIfInBounds_toArray, List.set_cons_zero, List.set_cons_succ]
        refine wpAnyF_take (i := 11) (oi := { dst := some 61, op := Go.Op.binOp Go.BinOp.eql 2 (Go.Operand.tmp 58) (Go.Operand.tmp 60) 2, type := 4, pos := "outright.go:76", after := #[{ on := 8, ground := Go.Ground.data }, { on := 10, ground := Go.Ground.data }, { on := 7, ground := Go.Ground.guard }], guard := some (7, false) }) (v := undef) rfl (by kernel_rfl) (by kernel_rfl) (by kernel_rfl) (by kernel_rfl) (fun _ _ _ h => h) (Or.inr ⟨by rfl, rfl⟩) hS ?_
        try simp only [Act.put, List.setIfInBounds_toArray, List.set_cons_zero, List.set_cons_succ]
        refine wpAnyF_take (i := 12) (oi := { dst := some 62, op := Go.Op.pick (Go.Operand.tmp 57) (Go.Operand.const (Go.Value.bool true)) (Go.Operand.tmp 61), type := 4, pos := "outright.go:76", after := #[{ on := 7, ground := Go.Ground.data }, { on := 11, ground := Go.Ground.data }], guard := none }) (v := ?_) rfl (by kernel_rfl) (by kernel_rfl) (by kernel_rfl) (by kernel_rfl) (fun _ _ _ h => h) (Or.inl ⟨by rfl, ?_⟩) hS ?_
        rotate_left
        · intro w' hSw; have q1 := (hSw.cell (p := ⟨w1.heap.size, 0, none⟩) HLT.out).trans p0; go_simp; try with_reducible rfl
        try simp only [Act.put, List.setIfInBounds_toArray, List.set_cons_zero, List.set_cons_succ]
        refine wpAnyF_ready (rs := [13]) (by kernel_rfl) (by simp) ?_
        refine AllReadyF.fin (o := { dst := none, op := Go.Op.store 4 (Go.Operand.tmp 4) (Go.Operand.tmp 62), type := 0, pos := "outright.go:76", after := #[{ on := 12, ground := Go.Ground.data }, { on := 10, ground := Go.Ground.chain }, { on := 0, ground := Go.Ground.phase }, { on := 1, ground := Go.Ground.phase }, { on := 2, ground := Go.Ground.phase }, { on := 3, ground := Go.Ground.phase }, { on := 4, ground := Go.Ground.phase }, { on := 5, ground := Go.Ground.phase }, { on := 6, ground := Go.Ground.phase }, { on := 7, ground := Go.Ground.phase }, { on := 8, ground := Go.Ground.phase }, { on := 9, ground := Go.Ground.phase }, { on := 10, ground := Go.Ground.phase }, { on := 11, ground := Go.Ground.phase }, { on := 12, ground := Go.Ground.phase }], guard := none }) rfl (by rfl) (fun K hK => ?_) ?_
        · have r1 : W.drew.cell? ⟨w.heap.size + 1, 0, none⟩ = some (.bool false) := p1
          have r2 : W.drew.frozen? ⟨w.heap.size + 1, 0, none⟩ = false := p2
          go_simp
          refine hK.out _ _ ?_
          clear hK K
          try simp only [Act.put, List.setIfInBounds_toArray, List.set_cons_zero, List.set_cons_succ]
          refine wpAnyF_done (by kernel_rfl) ?_ _
          go_wp2_with fail
          refine ⟨by simp, .inl ⟨_, _, rfl, run_takeDeferred HDD.out, ?_⟩⟩
          exact ⟨.bool true, by simp [results, Try.results49, go_sem, HC5.out], rfl, HFIN.out.2⟩
        exact AllReadyF.nil
      exact AllReadyF.nil
    · rw [hl] at p0
      have hlt : decide (sumI (payTo n bs bs.length) < 0) = false := by simp; omega
      clear hne hl hz
      go_wp2_with fail
      refine wp_region_F (Below W.heap.size W) [13] (by kernel_rfl) ((Below.refl _ _).drew) (fun hS => ?_)
      refine wpAnyF_take (i := 0) (oi := { dst := some 50, op := Go.Op.load 2 (Go.Operand.tmp 6), type := 2, pos := "outright.go:76", after := #[], guard := none }) (v := ?_) rfl (by kernel_rfl) (by kernel_rfl) (by kernel_rfl) (by kernel_rfl) (fun _ _ _ h => h) (Or.inl ⟨by rfl, ?_⟩) hS ?_
      rotate_left
      · intro w' hSw; have q1 := (hSw.cell (p := ⟨w1.heap.size, 0, none⟩) HLT.out).trans p0; go_simp; try with_reducible rfl
      try simp only [Act.put, List.setIfInBounds_toArray, List.set_cons_zero, List.set_cons_succ]
      refine wpAnyF_take (i := 1) (oi := { dst := some 51, op := Go.Op.binOp Go.BinOp.lss 2 (Go.Operand.tmp 50) (Go.Operand.const (Go.Value.int Go.IntKind.i64 0)) 2, type := 4, pos := "outright.go:76", after := #[{ on := 0, ground := Go.Ground.data }], guard := none }) (v := ?_) rfl (by kernel_rfl) (by kernel_rfl) (by kernel_rfl) (by kernel_rfl) (fun _ _ _ h => h) (Or.inl ⟨by rfl, ?_⟩) hS ?_
      rotate_left
      · intro w' hSw; have q1 := (hSw.cell (p := ⟨w1.heap.size, 0, none⟩) HLT.out).trans p0; go_simp; try with_reducible rfl
      try simp only [Act.put, List.setIfInBounds_toArray, List.set_cons_zero, List.set_cons_succ]
      refine wpAnyF_take (i := 2) (oi := { dst := some 52, op := Go.Op.move (Go.Operand.tmp 51), type := 4, pos := "outright.go:76", after := #[{ on := 1, ground := Go.Ground.data }], guard := none }) (v := ?_) rfl (by kernel_rfl) (by kernel_rfl) (by kernel_rfl) (by kernel_rfl) (fun _ _ _ h => h) (Or.inl ⟨by rfl, ?_⟩) hS ?_
      rotate_left
      · intro w' hSw; have q1 := (hSw.cell (p := ⟨w1.heap.size, 0, none⟩) HLT.out).trans p0; go_simp; try with_reducible rfl
      try simp only [Act.put, List.setIfInBounds_toArray, List.set_cons_zero, List.set_cons_succ]
      refine wpAnyF_take (i := 3) (oi := { dst := some 53, op := Go.Op.move (Go.Operand.tmp 1), type := 34, pos := "outright.go:76", after := #[{ on := 2, ground := Go.Ground.guard }], guard := some (2, true) }) (v := undef) rfl (by kernel_rfl) (by kernel_rfl) (by kernel_rfl) (by kernel_rfl) (fun _ _ _ h => h) (Or.inr ⟨by rfl, rfl⟩) hS ?_
      try simp only [Act.put, List.setIfInBounds_toArray, List.set_cons_zero, List.set_cons_succ]
      refine wpAnyF_take (i := 4) (oi := { dst := some 54, op := Go.Op.call { callee := Go.Callee.value (Go.Operand.func 102), args := #[Go.Operand.tmp 53], argTypes := #[34] }, type := 2, pos := "outright.go:76", after := #[{ on := 3, ground := Go.Ground.data }, { on := 2, ground := Go.Ground.chain }, { on := 2, ground := Go.Ground.guard }], guard := some (2, true) }) (v := undef) rfl (by kernel_rfl) (by kernel_rfl) (by kernel_rfl) (by kernel_rfl) (fun _ _ _ h => h) (Or.inr ⟨by rfl, rfl⟩) hS ?_
      try simp only [Act.put, List.setIfInBounds_toArray, List.set_cons_zero, List.set_cons_succ]
      refine wpAnyF_take (i := 5) (oi := { dst := some 55, op := Go.Op.binOp Go.BinOp.eql 2 (Go.Operand.tmp 54) (Go.Operand.const (Go.Value.int Go.IntKind.i64 0)) 2, type := 4, pos := "outright.go:76", after := #[{ on := 4, ground := Go.Ground.data }, { on := 2, ground := Go.Ground.guard }], guard := some (2, true) }) (v := undef) rfl (by kernel_rfl) (by kernel_rfl) (by kernel_rfl) (by kernel_rfl) (fun _ _ _ h => h) (Or.inr ⟨by rfl, rfl⟩) hS ?_
      try simp only [Act.put, List.setIfInBounds_toArray, List.set_cons_zero, List.set_cons_succ]
      refine wpAnyF_take (i := 6) (oi := { dst := some 56, op := Go.Op.pick (Go.Operand.tmp 52) (Go.Operand.tmp 55) (Go.Operand.const (Go.Value.bool false)), type := 4, pos := "outright.go:76", after := #[{ on := 2, ground := Go.Ground.data }, { on := 5, ground := Go.Ground.data }], guard := none }) (v := ?_) rfl (by kernel_rfl) (by kernel_rfl) (by kernel_rfl) (by kernel_rfl) (fun _ _ _ h => h) (Or.inl ⟨by rfl, ?_⟩) hS ?_
      rotate_left
      · intro w' hSw; have q1 := (hSw.cell (p := ⟨w1.heap.size, 0, none⟩) HLT.out).trans p0; go_simp; try with_reducible rfl
      try simp only [Act.put, List.setIfInBounds_toArray, List.set_cons_zero, List.set_cons_succ]
      refine wpAnyF_take (i := 7) (oi := { dst := some 57, op := Go.Op.move (Go.Operand.tmp 56), type := 4, pos := "outright.go:76", after := #[{ on := 6, ground := Go.Ground.data }, { on := 4, ground := Go.Ground.chain }], guard := none }) (v := ?_) rfl (by kernel_rfl) (by kernel_rfl) (by kernel_rfl) (by kernel_rfl) (fun _ _ _ h => h) (Or.inl ⟨by rfl, ?_⟩) hS ?_
      rotate_left
      · intro w' hSw; have q1 := (hSw.cell (p := ⟨w1.heap.size, 0, none⟩) HLT.out).trans p0; go_simp; try with_reducible rfl
      try simp only [Act.put, List.setIfInBounds_toArray, List.set_cons_zero, List.set_cons_succ]
      refine wpAnyF_take (i := 8) (oi := { dst := some 58, op := Go.Op.load 2 (Go.Operand.tmp 6), type := 2, pos := "outright.go:76", after := #[{ on := 7, ground := Go.Ground.guard }], guard := some (7, false) }) (v := ?_) rfl (by kernel_rfl) (by kernel_rfl) (by kernel_rfl) (by kernel_rfl) (fun _ _ _ h => h) (Or.inl ⟨by rfl, ?_⟩) hS ?_
      rotate_left
      · intro w' hSw; have q1 := (hSw.cell (p := ⟨w1.heap.size, 0, none⟩) HLT.out).trans p0; go_simp; try with_reducible rfl
      try simp only [Act.put, List.setIfInBounds_toArray, List.set_cons_zero, List.set_cons_succ]
      refine wpAnyF_take (i := 9) (oi := { dst := some 59, op := Go.Op.move (Go.Operand.tmp 1), type := 34, pos := "outright.go:76", after := #[{ on := 7, ground := Go.Ground.guard }], guard := some (7, false) }) (v := ?_) rfl (by kernel_rfl) (by kernel_rfl) (by kernel_rfl) (by kernel_rfl) (fun _ _ _ h => h) (Or.inl ⟨by rfl, ?_⟩) hS ?_
      rotate_left
      · intro w' hSw; have q1 := (hSw.cell (p := ⟨w1.heap.size, 0, none⟩) HLT.out).trans p0; go_simp; try with_reducible rfl
      try simp only [Act.put, List.setIfInBounds_toArray, List.set_cons_zero, List.set_cons_succ]
      refine wpAnyF_ready (rs := [10]) (by kernel_rfl) (by simp) ?_
      refine AllReadyF.cons (o := { dst := some 60, op := Go.Op.call { callee := Go.Callee.value (Go.Operand.func 102), args := #[Go.Operand.tmp 59], argTypes := #[34] }, type := 2, pos := "outright.go:76", after := #[{ on := 9, ground := Go.Ground.data }, { on := 7, ground := Go.Ground.chain }, { on := 7, ground := Go.Ground.guard }], guard := some (7, false) }) rfl (by rfl) (fun K hK => ?_) ?_
      · go_simp
        refine (HTOT.out _ hS).mono ?_
        rintro e w' ⟨rfl, rfl⟩
        refine hK.out _ _ ?_ (fun hS => ?_)
        · exact hS
        clear hK K
        try simp only [Act.put, List.setIfInBounds_toArray, List.set_cons_zero, List.set_cons_succ]
        refine wpAnyF_take (i := 11) (oi := { dst := some 61, op := Go.Op.binOp Go.BinOp.eql 2 (Go.Operand.tmp 58) (Go.Operand.tmp 60) 2, type := 4, pos := "outright.go:76", after := #[{ on := 8, ground := Go.Ground.data }, { on := 10, ground := Go.Ground.data }, { on := 7, ground := Go.Ground.guard }], guard := some (7, false) }) (v := ?_) rfl (by kernel_rfl) (by kernel_rfl) (by kernel_rfl) (by kernel_rfl) (fun _ _ _ h => h) (Or.inl ⟨by rfl, ?_⟩) hS ?_
        rotate_left
        · intro w' hSw; have q1 := (hSw.cell (p := ⟨w1.heap.size, 0, none⟩) HLT.out).trans p0; go_simp; try with_reducible rfl
        try simp only [Act.put, List.setIfInBounds_toArray, List.set_cons_zero, List.set_cons_succ]
        refine wpAnyF_take (i := 12) (oi := { dst := some 62, op := Go.Op.pick (Go.Operand.tmp 57) (Go.Operand.const (Go.Value.bool true)) (Go.Operand.tmp 61), type := 4, pos := "outright.go:76", after := #[{ on := 7, ground := Go.Ground.data }, { on := 11, ground := Go.Ground.data }], guard := none }) (v := ?_) rfl (by kernel_rfl) (by kernel_rfl) (by kernel_rfl) (by kernel_rfl) (fun _ _ _ h => h) (Or.inl ⟨by rfl, ?_⟩) hS ?_
        rotate_left
        · intro w' hSw; have q1 := (hSw.cell (p := ⟨w1.heap.size, 0, none⟩) HLT.out).trans p0; go_simp; try with_reducible rfl
        try simp only [Act.put, List.setIfInBounds_toArray, List.set_cons_zero, List.set_cons_succ]
        refine wpAnyF_ready (rs := [13]) (by kernel_rfl) (by simp) ?_
        refine AllReadyF.fin (o := { dst := none, op := Go.Op.store 4 (Go.Operand.tmp 4) (Go.Operand.tmp 62), type := 0, pos := "outright.go:76", after := #[{ on := 12, ground := Go.Ground.data }, { on := 10, ground := Go.Ground.chain }, { on := 0, ground := Go.Ground.phase }, { on := 1, ground := Go.Ground.phase }, { on := 2, ground := Go.Ground.phase }, { on := 3, ground := Go.Ground.phase }, { on := 4, ground := Go.Ground.phase }, { on := 5, ground := Go.Ground.phase }, { on := 6, ground := Go.Ground.phase }, { on := 7, ground := Go.Ground.phase }, { on := 8, ground := Go.Ground.phase }, { on := 9, ground := Go.Ground.phase }, { on := 10, ground := Go.Ground.phase }, { on := 11, ground := Go.Ground.phase }, { on := 12, ground := Go.Ground.phase }], guard := none }) rfl (by rfl) (fun K hK => ?_) ?_
        · have r1 : W.drew.cell? ⟨w.heap.size + 1, 0, none⟩ = some (.bool false) := p1
          have r2 : W.drew.frozen? ⟨w.heap.size + 1, 0, none⟩ = false := p2
          go_simp
          refine hK.out _ _ ?_
          clear hK K
          try simp only [Act.put, List.setIfInBounds_toArray, List.set_cons_zero, List.set_cons_succ]
          refine wpAnyF_done (by kernel_rfl) ?_ _
          go_wp2_with fail
          refine ⟨by simp, .inl ⟨_, _, rfl, run_takeDeferred HDD.out, ?_⟩⟩
          exact ⟨.bool true, by simp [results, Try.results49, go_sem, HC5.out], rfl, HFIN.out.2⟩
        exact AllReadyF.nil
      exact AllReadyF.nil
  case stop =>
    rintro D c pre W hD hpre2 hf hK
    exact hf.elim
end Go.Proofs.Ytcigobiolbojhaa.Vb

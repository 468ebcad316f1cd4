/- Law 17's own: given. -/
import Derived.Test.YtcigobiolbojhaaGiv
import Derived.Test.YtcigobiolbojhaaRegn
namespace Go.Proofs.Ytcigobiolbojhaa.Vb
open Go.RowKit

set_option maxRecDepth 100000 in
set_option maxHeartbeats 3200000 in
theorem given_any (n : Int) (bs : List (List Off)) (v : Value) (R : Nat → Prop) (w : World) (hl : Buys w R v bs) (hsm : Small bs) :
    Calls Try.prog 15 #[.agg #[.int .i64 n, v]] w fun e w' => ∃ A' cap', e = .returned (.agg #[.int .i64 n, .slice A' bs.length cap']) ∧ Giv w' w.heap.size (.slice A' bs.length cap') bs ∧ Below w.heap.size w w' := by
  obtain ⟨vs, ⟨hlen, A, cap, rfl, hncap, hcap, hcells⟩, hvs⟩ := id hl
  have hsm1 := hsm.1
  have HSM := Lib.hid hsm.2
  have HC := Lib.hid hcells
  have HV := Lib.hid hvs
  clear hl hcells hvs hlen hcap hsm
  go_enter Try.func15, Try.ntmps15
  go_wp2
  have hw0 : ∃ W0, W0 = ((w.alloc (.cells #[.int .i64 n, .slice A bs.length cap] 24)).alloc (.cells #[.int .i64 0, .slice none 0 0] 24)).alloc (.cells #[.int .i64 n, .slice none 0 0] 24) := ⟨_, rfl⟩
  obtain ⟨W0, hW0⟩ := hw0
  have HX := Lib.hid (show Blk W0 w.heap.size 24 #[.int .i64 n, .slice A bs.length cap] from by rw [hW0]; exact ((Blk.new w _ _).alloc _).alloc _)
  have HR := Lib.hid (show Blk W0 (w.heap.size + 1) 24 #[.int .i64 0, .slice none 0 0] from by rw [hW0]; exact (Blk.new' _ _ (by simp)).alloc _)
  have HY := Lib.hid (show Blk W0 (w.heap.size + 2) 24 #[.int .i64 n, .slice none 0 0] from by rw [hW0]; exact Blk.new' _ _ (by simp))
  have HBW := Lib.hid (show Below w.heap.size w W0 from by rw [hW0]; exact (((Below.refl _ _).alloc (Nat.le_refl _) _).alloc (by simp) _).alloc (by simp; omega) _)
  have hs0 : W0.heap.size = w.heap.size + 3 := by rw [hW0]; simp
  rw [← hW0]
  clear hW0
  go_loopw [4] (fun i wr => ∃ (k : Nat) (A' : Option Addr) (cap' : Nat), k ≤ bs.length ∧ i = .int .i64 k ∧ Giv wr (w.heap.size + 3) (.slice A' k cap') (bs.take k) ∧ Blk wr (w.heap.size + 2) 24 #[.int .i64 n, .slice A' k cap'] ∧ Below (w.heap.size + 2) W0 wr)
    (fun i _ => bs.length - (intOf i).toNat)
  case atStart => exact ⟨0, none, 0, Nat.zero_le _, rfl, ⟨[], World.ownsRow_nil _ _ _ _, fun k l hk => by simp at hk⟩, HY.out, Below.refl _ _⟩
  case round =>
    obtain ⟨k, A', cap', hk, rfl, hgv, hy, hb⟩ := hrel
    have hx := HX.out.below hb (by omega)
    have hbw := HBW.out.trans (hb.mono (by omega))
    have x1 : wr.cell? ⟨w.heap.size, 1, none⟩ = some (.slice A bs.length cap) := hx.cell 1
    have y1 : wr.cell? ⟨w.heap.size + 2, 1, none⟩ = some (.slice A' k cap') := hy.cell 1
    have y0 : wr.cell? ⟨w.heap.size + 2, 0, none⟩ = some (.int .i64 n) := hy.cell 0
    have hsz : w.heap.size + 3 ≤ wr.heap.size := by have := hy.lt; omega
    have HGV := Lib.hid hgv
    have HY2 := Lib.hid hy
    have HB2 := Lib.hid hb
    have HBW2 := Lib.hid hbw
    by_cases hlt : k < bs.length
    · obtain ⟨bq, off, rfl, _, hbq, hcs⟩ := HC.out (by omega)
      obtain ⟨l, ho⟩ : ∃ l, bs[k]? = some l := ⟨_, List.getElem?_eq_getElem hlt⟩
      obtain ⟨u, hu, hol⟩ := HV.out k l ho
      have c0 : wr.cell? ⟨bq, off + k, none⟩ = some u := by have h := (hbw.cell hbq).trans (hcs _ _ hu); simpa using h
      have hbqr : bq < w.heap.size := hbq
      have HOL := Lib.hid (hol.grow hbw)
      have hll : l.length ≤ 64 := HSM.out l (List.mem_of_getElem? ho)
      obtain ⟨⟨_, A1, cap1, rfl, _⟩, _⟩ := hol
      have HO := Lib.hid ho
      obtain ⟨vs', hs', ho'⟩ := hgv
      have hlk : (bs.take k).length = k := by simp; omega
      rw [hlk] at hs'
      have HS := Lib.hid hs'
      have HO' := Lib.hid ho'
      have HLK := Lib.hid hlk
      clear hcs hu ho hx hy hb hbw hs' ho' hlk
      have e1 : (0 : Int) ≤ (k : Int) := by omega
      have e2 : (k : Int) < (bs.length : Int) := by omega
      have HP0 : Below wr.heap.size wr wr.drew := (Below.refl _ _).drew
      go_wp2_with fail
      refine wp_region_F (Below (w.heap.size + 3) wr) [22] (by kernel_rfl) ((Below.refl _ _).drew) (fun hS => ?_)
      obtain ⟨V0, hV⟩ : ∃ V, V = wr.drew := ⟨_, rfl⟩
      rw [← hV] at hS HP0 ⊢
      replace HP0 := Lib.hid HP0
      clear hV
      refine wpAnyF_take (i := 0) (oi := { dst := some 15, op := Go.Op.fieldAddr 24 (Go.Operand.tmp 3) 1, type := 0, pos := "law.go:46", after := #[], guard := none }) (v := ?_) rfl (by kernel_rfl) (by kernel_rfl) (by kernel_rfl) (by kernel_rfl) (fun _ _ _ h => h) (Or.inl ⟨by rfl, ?_⟩) hS ?_
      rotate_left
      · intro w' hSw; have q1 := (hSw.cell (p := ⟨w.heap.size, 1, none⟩) (by simp <;> omega)).trans x1; have q2 := (hSw.cell (p := ⟨bq, off + k, none⟩) (by simp <;> omega)).trans c0; have q3 : w'.cell? ⟨w.heap.size + 1 + 1, 1, none⟩ = _ := (hSw.cell (p := ⟨w.heap.size + 2, 1, none⟩) (by simp <;> omega)).trans y1; go_simp; try with_reducible rfl
      try simp only [Act.put, List.setIfInBounds_toArray, List.set_cons_zero, List.set_cons_succ]
      refine wpAnyF_take (i := 1) (oi := { dst := some 16, op := Go.Op.load 22 (Go.Operand.tmp 15), type := 22, pos := "law.go:46", after := #[{ on := 0, ground := Go.Ground.data }], guard := none }) (v := ?_) rfl (by kernel_rfl) (by kernel_rfl) (by kernel_rfl) (by kernel_rfl) (fun _ _ _ h => h) (Or.inl ⟨by rfl, ?_⟩) hS ?_
      rotate_left
      · intro w' hSw; have q1 := (hSw.cell (p := ⟨w.heap.size, 1, none⟩) (by simp <;> omega)).trans x1; have q2 := (hSw.cell (p := ⟨bq, off + k, none⟩) (by simp <;> omega)).trans c0; have q3 : w'.cell? ⟨w.heap.size + 1 + 1, 1, none⟩ = _ := (hSw.cell (p := ⟨w.heap.size + 2, 1, none⟩) (by simp <;> omega)).trans y1; go_simp; try with_reducible rfl
      try simp only [Act.put, List.setIfInBounds_toArray, List.set_cons_zero, List.set_cons_succ]
      refine wpAnyF_take (i := 3) (oi := { dst := some 18, op := Go.Op.fieldAddr 24 (Go.Operand.tmp 1) 1, type := 0, pos := "law.go:46", after := #[], guard := none }) (v := ?_) rfl (by kernel_rfl) (by kernel_rfl) (by kernel_rfl) (by kernel_rfl) (fun _ _ _ h => h) (Or.inl ⟨by rfl, ?_⟩) hS ?_
      rotate_left
      · intro w' hSw; have q1 := (hSw.cell (p := ⟨w.heap.size, 1, none⟩) (by simp <;> omega)).trans x1; have q2 := (hSw.cell (p := ⟨bq, off + k, none⟩) (by simp <;> omega)).trans c0; have q3 : w'.cell? ⟨w.heap.size + 1 + 1, 1, none⟩ = _ := (hSw.cell (p := ⟨w.heap.size + 2, 1, none⟩) (by simp <;> omega)).trans y1; go_simp; try with_reducible rfl
      try simp only [Act.put, List.setIfInBounds_toArray, List.set_cons_zero, List.set_cons_succ]
      refine wpAnyF_take (i := 4) (oi := { dst := some 19, op := Go.Op.load 22 (Go.Operand.tmp 18), type := 22, pos := "law.go:46", after := #[{ on := 3, ground := Go.Ground.data }], guard := none }) (v := ?_) rfl (by kernel_rfl) (by kernel_rfl) (by kernel_rfl) (by kernel_rfl) (fun _ _ _ h => h) (Or.inl ⟨by rfl, ?_⟩) hS ?_
      rotate_left
      · intro w' hSw; have q1 := (hSw.cell (p := ⟨w.heap.size, 1, none⟩) (by simp <;> omega)).trans x1; have q2 := (hSw.cell (p := ⟨bq, off + k, none⟩) (by simp <;> omega)).trans c0; have q3 : w'.cell? ⟨w.heap.size + 1 + 1, 1, none⟩ = _ := (hSw.cell (p := ⟨w.heap.size + 2, 1, none⟩) (by simp <;> omega)).trans y1; go_simp; try with_reducible rfl
      try simp only [Act.put, List.setIfInBounds_toArray, List.set_cons_zero, List.set_cons_succ]
      refine wpAnyF_take (i := 5) (oi := { dst := some 20, op := Go.Op.move (Go.Operand.tmp 4), type := 3, pos := "law.go:46", after := #[], guard := none }) (v := ?_) rfl (by kernel_rfl) (by kernel_rfl) (by kernel_rfl) (by kernel_rfl) (fun _ _ _ h => h) (Or.inl ⟨by rfl, ?_⟩) hS ?_
      rotate_left
      · intro w' hSw; have q1 := (hSw.cell (p := ⟨w.heap.size, 1, none⟩) (by simp <;> omega)).trans x1; have q2 := (hSw.cell (p := ⟨bq, off + k, none⟩) (by simp <;> omega)).trans c0; have q3 : w'.cell? ⟨w.heap.size + 1 + 1, 1, none⟩ = _ := (hSw.cell (p := ⟨w.heap.size + 2, 1, none⟩) (by simp <;> omega)).trans y1; go_simp; try with_reducible rfl
      try simp only [Act.put, List.setIfInBounds_toArray, List.set_cons_zero, List.set_cons_succ]
      refine wpAnyF_take (i := 6) (oi := { dst := some 21, op := Go.Op.indexAddr 22 (Go.Operand.tmp 19) (Go.Operand.tmp 20), type := 0, pos := "law.go:46", after := #[{ on := 4, ground := Go.Ground.data }, { on := 5, ground := Go.Ground.data }], guard := none }) (v := ?_) rfl (by kernel_rfl) (by kernel_rfl) (by kernel_rfl) (by kernel_rfl) (fun _ _ _ h => h) (Or.inl ⟨by rfl, ?_⟩) hS ?_
      rotate_left
      · intro w' hSw; have q1 := (hSw.cell (p := ⟨w.heap.size, 1, none⟩) (by simp <;> omega)).trans x1; have q2 := (hSw.cell (p := ⟨bq, off + k, none⟩) (by simp <;> omega)).trans c0; have q3 : w'.cell? ⟨w.heap.size + 1 + 1, 1, none⟩ = _ := (hSw.cell (p := ⟨w.heap.size + 2, 1, none⟩) (by simp <;> omega)).trans y1; go_simp; try with_reducible rfl
      try simp only [Act.put, List.setIfInBounds_toArray, List.set_cons_zero, List.set_cons_succ]
      refine wpAnyF_take (i := 7) (oi := { dst := some 22, op := Go.Op.load 41 (Go.Operand.tmp 21), type := 41, pos := "law.go:46", after := #[{ on := 6, ground := Go.Ground.data }], guard := none }) (v := ?_) rfl (by kernel_rfl) (by kernel_rfl) (by kernel_rfl) (by kernel_rfl) (fun _ _ _ h => h) (Or.inl ⟨by rfl, ?_⟩) hS ?_
      rotate_left
      · intro w' hSw; have q1 := (hSw.cell (p := ⟨w.heap.size, 1, none⟩) (by simp <;> omega)).trans x1; have q2 := (hSw.cell (p := ⟨bq, off + k, none⟩) (by simp <;> omega)).trans c0; have q3 : w'.cell? ⟨w.heap.size + 1 + 1, 1, none⟩ = _ := (hSw.cell (p := ⟨w.heap.size + 2, 1, none⟩) (by simp <;> omega)).trans y1; go_simp; try with_reducible rfl
      try simp only [Act.put, List.setIfInBounds_toArray, List.set_cons_zero, List.set_cons_succ]
      refine wpAnyF_take (i := 9) (oi := { dst := some 24, op := Go.Op.build 45 #[(0, Go.Operand.const (Go.Value.int Go.IntKind.u32 77))], type := 45, pos := "law.go:46", after := #[], guard := none }) (v := ?_) rfl (by kernel_rfl) (by kernel_rfl) (by kernel_rfl) (by kernel_rfl) (fun _ _ _ h => h) (Or.inl ⟨by rfl, ?_⟩) hS ?_
      rotate_left
      · intro w' hSw; have q1 := (hSw.cell (p := ⟨w.heap.size, 1, none⟩) (by simp <;> omega)).trans x1; have q2 := (hSw.cell (p := ⟨bq, off + k, none⟩) (by simp <;> omega)).trans c0; have q3 : w'.cell? ⟨w.heap.size + 1 + 1, 1, none⟩ = _ := (hSw.cell (p := ⟨w.heap.size + 2, 1, none⟩) (by simp <;> omega)).trans y1; go_simp; try with_reducible rfl
      try simp only [Act.put, List.setIfInBounds_toArray, List.set_cons_zero, List.set_cons_succ]
      refine wpAnyF_take (i := 12) (oi := { dst := some 27, op := Go.Op.fieldAddr 24 (Go.Operand.tmp 1) 1, type := 0, pos := "law.go:46", after := #[], guard := none }) (v := ?_) rfl (by kernel_rfl) (by kernel_rfl) (by kernel_rfl) (by kernel_rfl) (fun _ _ _ h => h) (Or.inl ⟨by rfl, ?_⟩) hS ?_
      rotate_left
      · intro w' hSw; have q1 := (hSw.cell (p := ⟨w.heap.size, 1, none⟩) (by simp <;> omega)).trans x1; have q2 := (hSw.cell (p := ⟨bq, off + k, none⟩) (by simp <;> omega)).trans c0; have q3 : w'.cell? ⟨w.heap.size + 1 + 1, 1, none⟩ = _ := (hSw.cell (p := ⟨w.heap.size + 2, 1, none⟩) (by simp <;> omega)).trans y1; go_simp; try with_reducible rfl
      try simp only [Act.put, List.setIfInBounds_toArray, List.set_cons_zero, List.set_cons_succ]
      refine wpAnyF_take (i := 13) (oi := { dst := some 28, op := Go.Op.load 22 (Go.Operand.tmp 27), type := 22, pos := "law.go:46", after := #[{ on := 12, ground := Go.Ground.data }], guard := none }) (v := ?_) rfl (by kernel_rfl) (by kernel_rfl) (by kernel_rfl) (by kernel_rfl) (fun _ _ _ h => h) (Or.inl ⟨by rfl, ?_⟩) hS ?_
      rotate_left
      · intro w' hSw; have q1 := (hSw.cell (p := ⟨w.heap.size, 1, none⟩) (by simp <;> omega)).trans x1; have q2 := (hSw.cell (p := ⟨bq, off + k, none⟩) (by simp <;> omega)).trans c0; have q3 : w'.cell? ⟨w.heap.size + 1 + 1, 1, none⟩ = _ := (hSw.cell (p := ⟨w.heap.size + 2, 1, none⟩) (by simp <;> omega)).trans y1; go_simp; try with_reducible rfl
      try simp only [Act.put, List.setIfInBounds_toArray, List.set_cons_zero, List.set_cons_succ]
      refine wpAnyF_take (i := 14) (oi := { dst := some 29, op := Go.Op.move (Go.Operand.tmp 4), type := 3, pos := "law.go:46", after := #[], guard := none }) (v := ?_) rfl (by kernel_rfl) (by kernel_rfl) (by kernel_rfl) (by kernel_rfl) (fun _ _ _ h => h) (Or.inl ⟨by rfl, ?_⟩) hS ?_
      rotate_left
      · intro w' hSw; have q1 := (hSw.cell (p := ⟨w.heap.size, 1, none⟩) (by simp <;> omega)).trans x1; have q2 := (hSw.cell (p := ⟨bq, off + k, none⟩) (by simp <;> omega)).trans c0; have q3 : w'.cell? ⟨w.heap.size + 1 + 1, 1, none⟩ = _ := (hSw.cell (p := ⟨w.heap.size + 2, 1, none⟩) (by simp <;> omega)).trans y1; go_simp; try with_reducible rfl
      try simp only [Act.put, List.setIfInBounds_toArray, List.set_cons_zero, List.set_cons_succ]
      refine wpAnyF_take (i := 15) (oi := { dst := some 30, op := Go.Op.indexAddr 22 (Go.Operand.tmp 28) (Go.Operand.tmp 29), type := 0, pos := "law.go:46", after := #[{ on := 13, ground := Go.Ground.data }, { on := 14, ground := Go.Ground.data }], guard := none }) (v := ?_) rfl (by kernel_rfl) (by kernel_rfl) (by kernel_rfl) (by kernel_rfl) (fun _ _ _ h => h) (Or.inl ⟨by rfl, ?_⟩) hS ?_
      rotate_left
      · intro w' hSw; have q1 := (hSw.cell (p := ⟨w.heap.size, 1, none⟩) (by simp <;> omega)).trans x1; have q2 := (hSw.cell (p := ⟨bq, off + k, none⟩) (by simp <;> omega)).trans c0; have q3 : w'.cell? ⟨w.heap.size + 1 + 1, 1, none⟩ = _ := (hSw.cell (p := ⟨w.heap.size + 2, 1, none⟩) (by simp <;> omega)).trans y1; go_simp; try with_reducible rfl
      try simp only [Act.put, List.setIfInBounds_toArray, List.set_cons_zero, List.set_cons_succ]
      refine wpAnyF_take (i := 16) (oi := { dst := some 31, op := Go.Op.load 41 (Go.Operand.tmp 30), type := 41, pos := "law.go:46", after := #[{ on := 15, ground := Go.Ground.data }], guard := none }) (v := ?_) rfl (by kernel_rfl) (by kernel_rfl) (by kernel_rfl) (by kernel_rfl) (fun _ _ _ h => h) (Or.inl ⟨by rfl, ?_⟩) hS ?_
      rotate_left
      · intro w' hSw; have q1 := (hSw.cell (p := ⟨w.heap.size, 1, none⟩) (by simp <;> omega)).trans x1; have q2 := (hSw.cell (p := ⟨bq, off + k, none⟩) (by simp <;> omega)).trans c0; have q3 : w'.cell? ⟨w.heap.size + 1 + 1, 1, none⟩ = _ := (hSw.cell (p := ⟨w.heap.size + 2, 1, none⟩) (by simp <;> omega)).trans y1; go_simp; try with_reducible rfl
      try simp only [Act.put, List.setIfInBounds_toArray, List.set_cons_zero, List.set_cons_succ]
      refine wpAnyF_take (i := 17) (oi := { dst := some 32, op := Go.Op.call { callee := Go.Callee.builtin Go.Builtin.len, args := #[Go.Operand.tmp 31], argTypes := #[41] }, type := 3, pos := "law.go:46", after := #[{ on := 16, ground := Go.Ground.data }], guard := none }) (v := ?_) rfl (by kernel_rfl) (by kernel_rfl) (by kernel_rfl) (by kernel_rfl) (fun _ _ _ h => h) (Or.inl ⟨by rfl, ?_⟩) hS ?_
      rotate_left
      · intro w' hSw; have q1 := (hSw.cell (p := ⟨w.heap.size, 1, none⟩) (by simp <;> omega)).trans x1; have q2 := (hSw.cell (p := ⟨bq, off + k, none⟩) (by simp <;> omega)).trans c0; have q3 : w'.cell? ⟨w.heap.size + 1 + 1, 1, none⟩ = _ := (hSw.cell (p := ⟨w.heap.size + 2, 1, none⟩) (by simp <;> omega)).trans y1; go_simp; try with_reducible rfl
      try simp only [Act.put, List.setIfInBounds_toArray, List.set_cons_zero, List.set_cons_succ]
      refine wpAnyF_ready (rs := [2, 10]) (by kernel_rfl) (by simp) ?_
      refine AllReadyF.cons (o := { dst := some 17, op := Go.Op.buildSlice 41 0 #[], type := 41, pos := "law.go:46", after := #[], guard := none }) rfl (by rfl) (fun K hK => ?_) ?_
      · go_simp
        refine hK.out _ _ ?_ (fun hS => ?_)
        · exact hS.alloc (by have := HP0.out.size; omega) _
        clear hK K
        try simp only [Act.put, List.setIfInBounds_toArray, List.set_cons_zero, List.set_cons_succ]
        have hE := own_empty (base := wr.heap.size) V0 (by have := HP0.out.size; omega) 45 2
        have hB := HP0.out.alloc (by have := HP0.out.size; omega) (.cells #[] 45)
        obtain ⟨V1, hV⟩ : ∃ V, V = V0.alloc (.cells #[] 45) := ⟨_, rfl⟩
        rw [← hV] at hE hB hS ⊢
        have HE := Lib.hid hE
        have HP1 := Lib.hid hB
        have hlE := (hE.lt V0.heap.size rfl).2
        clear hV hE hB
        refine wpAnyF_ready (rs := [8, 10]) (by kernel_rfl) (by simp) ?_
        refine AllReadyF.cons (o := { dst := some 23, op := Go.Op.call { callee := Go.Callee.builtin Go.Builtin.append, args := #[Go.Operand.tmp 17, Go.Operand.tmp 22], argTypes := #[41, 41] }, type := 41, pos := "law.go:46", after := #[{ on := 2, ground := Go.Ground.data }, { on := 7, ground := Go.Ground.data }], guard := none }) rfl (by rfl) (fun K hK => ?_) ?_
        · refine step_app V1 rfl (.tmp 17) (.tmp 22) et_off rfl wr.heap.size (.slice (some ⟨V0.heap.size, 0, none⟩) 0 0) 0 [] rfl HE.out R _ l.length (Off.all l) rfl (show Sl V1 R _ _ _ _ from (HOL.out.grow HP1.out).1) (Off.all_one l) (by omega) (by unfold maxLen; omega) (by have := HP1.out.size; omega) ?_
          intro A2 c2 V2 hown hg hloc
          rw [Nat.zero_add]
          refine hK.out _ _ ?_ (fun hS => ?_)
          · exact hS.grown hg (by have := HP1.out.size; omega) (fun g e => by have := (HE.out.lt g e).1; omega)
          clear hK K
          try simp only [Act.put, List.setIfInBounds_toArray, List.set_cons_zero, List.set_cons_succ]
          rw [Nat.zero_add, List.nil_append] at hown
          have hB := HP1.out.grown hg (by have := HP1.out.size; omega) (fun g e => (HE.out.lt g e).1)
          have HP2 := Lib.hid hB
          have HO1 := Lib.hid hown
          clear hown hg hloc hB
          refine wpAnyF_ready (rs := [10]) (by kernel_rfl) (by simp) ?_
          refine AllReadyF.cons (o := { dst := some 25, op := Go.Op.buildSlice 41 1 #[(0, Go.Operand.tmp 24)], type := 41, pos := "law.go:46", after := #[{ on := 9, ground := Go.Ground.data }], guard := none }) rfl (by rfl) (fun K hK => ?_) ?_
          · go_simp
            refine hK.out _ _ ?_ (fun hS => ?_)
            · exact hS.alloc (by have := HP2.out.size; omega) _
            clear hK K
            try simp only [Act.put, List.setIfInBounds_toArray, List.set_cons_zero, List.set_cons_succ]
            have hL := Blk.new V2 45 #[.int .u32 77, .int .i64 0]
            have hB := HP2.out.alloc (by have := HP2.out.size; omega) (.cells #[.int .u32 77, .int .i64 0] 45)
            have hO := own_alloc HO1.out (.cells #[.int .u32 77, .int .i64 0] 45)
            obtain ⟨V3, hV⟩ : ∃ V, V = V2.alloc (.cells #[.int .u32 77, .int .i64 0] 45) := ⟨_, rfl⟩
            rw [← hV] at hL hB hS ⊢
            rw [← hV] at hO
            have HO1 := Lib.hid hO
            clear hO
            have HL := Lib.hid hL
            have HP3 := Lib.hid hB
            clear hV hL hB
            refine wpAnyF_ready (rs := [11]) (by kernel_rfl) (by simp) ?_
            refine AllReadyF.cons (o := { dst := some 26, op := Go.Op.call { callee := Go.Callee.builtin Go.Builtin.append, args := #[Go.Operand.tmp 23, Go.Operand.tmp 25], argTypes := #[41, 41] }, type := 41, pos := "law.go:46", after := #[{ on := 8, ground := Go.Ground.data }, { on := 10, ground := Go.Ground.data }, { on := 8, ground := Go.Ground.chain }], guard := none }) rfl (by rfl) (fun K hK => ?_) ?_
            · refine step_app V3 rfl (.tmp 23) (.tmp 25) et_off rfl wr.heap.size (.slice A2 l.length c2) l.length (Off.all l) rfl HO1.out (fun _ => True) (.slice (some ⟨V2.heap.size, 0, none⟩) 1 1) 1 [.int .u32 77, .int .i64 0] rfl (Sl.blk (sz := 2) HL.out (Nat.le_refl 1) (by unfold maxLen; omega) rfl) (by simp [Value.oneCell']) (by omega) (by unfold maxLen; omega) (by have := HP3.out.size; omega) ?_
              intro A3 c3 V4 hown hg hloc
              refine hK.out _ _ ?_ (fun hS => ?_)
              · exact hS.grown hg (by have := HP3.out.size; omega) (fun g e => by have := (HO1.out.lt g e).1; omega)
              clear hK K
              try simp only [Act.put, List.setIfInBounds_toArray, List.set_cons_zero, List.set_cons_succ]
              have hB := HP3.out.grown hg (by have := HP3.out.size; omega) (fun g e => (HO1.out.lt g e).1)
              have hall : Off.all l ++ [.int .u32 77, .int .i64 0] = Off.all (l ++ [⟨77, 0⟩]) := (by simp [Off.all, Off.cells])
              rw [hall] at hown
              obtain ⟨gb, cb, hform, hgb, hgb2⟩ := World.ownsRow.form hown (by omega)
              injection hform with hA3 _ hc3
              subst hA3 hc3
              obtain ⟨_, A9, _, hv3, hnc3, hcm3, _⟩ := Sl.of_own hown
              injection hv3 with hA9 _ hc3'
              subst hc3' hA9
              have hc31 : ((l.length : Nat) : Int) ≤ (c3 : Int) := by omega
              have hc30 : (0 : Int) ≤ ((l.length : Nat) : Int) := by omega
              have HP4 := Lib.hid hB
              have HO2 := Lib.hid hown
              clear hown hg hloc hB hall
              refine wpAnyF_take (i := 18) (oi := { dst := some 33, op := Go.Op.slice 41 (Go.Operand.tmp 26) none (some (Go.Operand.tmp 32)) none, type := 41, pos := "law.go:46", after := #[{ on := 11, ground := Go.Ground.data }, { on := 17, ground := Go.Ground.data }], guard := none }) (v := ?_) rfl (by kernel_rfl) (by kernel_rfl) (by kernel_rfl) (by kernel_rfl) (fun _ _ _ h => h) (Or.inl ⟨by rfl, ?_⟩) hS ?_
              rotate_left
              · intro w' hSw; have q1 := (hSw.cell (p := ⟨w.heap.size, 1, none⟩) (by simp <;> omega)).trans x1; have q2 := (hSw.cell (p := ⟨bq, off + k, none⟩) (by simp <;> omega)).trans c0; have q3 : w'.cell? ⟨w.heap.size + 1 + 1, 1, none⟩ = _ := (hSw.cell (p := ⟨w.heap.size + 2, 1, none⟩) (by simp <;> omega)).trans y1; go_simp; try with_reducible rfl
              try simp only [Act.put, List.setIfInBounds_toArray, List.set_cons_zero, List.set_cons_succ]
              refine wpAnyF_ready (rs := [19]) (by kernel_rfl) (by simp) ?_
              refine AllReadyF.cons (o := { dst := some 34, op := Go.Op.buildSlice 22 1 #[(0, Go.Operand.tmp 33)], type := 22, pos := "law.go:46", after := #[{ on := 18, ground := Go.Ground.data }], guard := none }) rfl (by rfl) (fun K hK => ?_) ?_
              · go_simp
                refine hK.out _ _ ?_ (fun hS => ?_)
                · exact hS.alloc (by have := HP4.out.size; omega) _
                clear hK K
                try simp only [Act.put, List.setIfInBounds_toArray, List.set_cons_zero, List.set_cons_succ]
                have hN := Blk.new V4 41 #[.slice (some ⟨gb, 0, none⟩) l.length c3]
                have hB := HP4.out.alloc (by have := HP4.out.size; omega) (.cells #[.slice (some ⟨gb, 0, none⟩) l.length c3] 41)
                have hO := own_alloc HO2.out (.cells #[.slice (some ⟨gb, 0, none⟩) l.length c3] 41)
                obtain ⟨V5, hV⟩ : ∃ V, V = V4.alloc (.cells #[.slice (some ⟨gb, 0, none⟩) l.length c3] 41) := ⟨_, rfl⟩
                rw [← hV] at hN hB hS hO ⊢
                have HN1 := Lib.hid hN
                have HP5 := Lib.hid hB
                have HO3 := Lib.hid hO
                have HS2 := Lib.hid (own_grow HS.out hB)
                clear hV hN hB hO
                refine wpAnyF_ready (rs := [20]) (by kernel_rfl) (by simp) ?_
                refine AllReadyF.cons (o := { dst := some 35, op := Go.Op.call { callee := Go.Callee.builtin Go.Builtin.append, args := #[Go.Operand.tmp 16, Go.Operand.tmp 34], argTypes := #[22, 22] }, type := 22, pos := "law.go:46", after := #[{ on := 1, ground := Go.Ground.data }, { on := 19, ground := Go.Ground.data }, { on := 11, ground := Go.Ground.chain }], guard := none }) rfl (by rfl) (fun K hK => ?_) ?_
                · refine step_app V5 rfl (.tmp 16) (.tmp 34) et_offs rfl (w.heap.size + 3) (.slice A' k cap') k vs' rfl HS2.out (fun _ => True) (.slice (some ⟨V4.heap.size, 0, none⟩) 1 1) 1 [.slice (some ⟨gb, 0, none⟩) l.length c3] rfl (Sl.blk (sz := 1) HN1.out (Nat.le_refl 1) (by unfold maxLen; omega) rfl) (by simp [Value.oneCell']) (by omega) (by unfold maxLen; omega) (by have := HP5.out.size; omega) ?_
                  intro A4 c4 V6 hown hg hloc
                  refine hK.out _ _ ?_ (fun hS => ?_)
                  · exact hS.grown hg (by have := HP5.out.size; omega) (fun g e => (HS2.out.lt g e).1)
                  clear hK K
                  try simp only [Act.put, List.setIfInBounds_toArray, List.set_cons_zero, List.set_cons_succ]
                  have hfar : ∀ b, b < w.heap.size + 3 → some b ≠ (Value.slice A' k cap').ownBlock := (fun b hb e => by have := (HS2.out.lt b e.symm).1; omega)
                  have hyV := (HY2.out.grow HP5.out).grown hg (hfar _ (by omega))
                  have yc : V6.cell? ⟨w.heap.size + 1 + 1, 1, none⟩ = some (.slice A' k cap') := hyV.cell 1
                  have yf : V6.frozen? ⟨w.heap.size + 1 + 1, 1, none⟩ = false := hyV.frozen 1
                  have HYV := Lib.hid hyV
                  have HGV := Lib.hid hg
                  have HOV := Lib.hid hown
                  have HBV := HP5
                  have HWV := Lib.hid hS
                  clear hyV hg hown hloc hfar
                  refine wpAnyF_take (i := 21) (oi := { dst := some 36, op := Go.Op.fieldAddr 24 (Go.Operand.tmp 3) 1, type := 0, pos := "law.go:46", after := #[{ on := 0, ground := Go.Ground.phase }, { on := 1, ground := Go.Ground.phase }, { on := 2, ground := Go.Ground.phase }, { on := 3, ground := Go.Ground.phase }, { on := 4, ground := Go.Ground.phase }, { on := 5, ground := Go.Ground.phase }, { on := 6, ground := Go.Ground.phase }, { on := 7, ground := Go.Ground.phase }, { on := 8, ground := Go.Ground.phase }, { on := 9, ground := Go.Ground.phase }, { on := 10, ground := Go.Ground.phase }, { on := 11, ground := Go.Ground.phase }, { on := 12, ground := Go.Ground.phase }, { on := 13, ground := Go.Ground.phase }, { on := 14, ground := Go.Ground.phase }, { on := 15, ground := Go.Ground.phase }, { on := 16, ground := Go.Ground.phase }, { on := 17, ground := Go.Ground.phase }, { on := 18, ground := Go.Ground.phase }, { on := 19, ground := Go.Ground.phase }, { on := 20, ground := Go.Ground.phase }], guard := none }) (v := ?_) rfl (by kernel_rfl) (by kernel_rfl) (by kernel_rfl) (by kernel_rfl) (fun _ _ _ h => h) (Or.inl ⟨by rfl, ?_⟩) hS ?_
                  rotate_left
                  · intro w' hSw; have q1 := (hSw.cell (p := ⟨w.heap.size, 1, none⟩) (by simp <;> omega)).trans x1; have q2 := (hSw.cell (p := ⟨bq, off + k, none⟩) (by simp <;> omega)).trans c0; have q3 : w'.cell? ⟨w.heap.size + 1 + 1, 1, none⟩ = _ := (hSw.cell (p := ⟨w.heap.size + 2, 1, none⟩) (by simp <;> omega)).trans y1; go_simp; try with_reducible rfl
                  try simp only [Act.put, List.setIfInBounds_toArray, List.set_cons_zero, List.set_cons_succ]
                  refine wpAnyF_ready (rs := [22]) (by kernel_rfl) (by simp) ?_
                  refine AllReadyF.fin (o := { dst := none, op := Go.Op.store 22 (Go.Operand.tmp 36) (Go.Operand.tmp 35), type := 0, pos := "law.go:46", after := #[{ on := 21, ground := Go.Ground.data }, { on := 20, ground := Go.Ground.data }, { on := 20, ground := Go.Ground.chain }, { on := 0, ground := Go.Ground.phase }, { on := 1, ground := Go.Ground.phase }, { on := 2, ground := Go.Ground.phase }, { on := 3, ground := Go.Ground.phase }, { on := 4, ground := Go.Ground.phase }, { on := 5, ground := Go.Ground.phase }, { on := 6, ground := Go.Ground.phase }, { on := 7, ground := Go.Ground.phase }, { on := 8, ground := Go.Ground.phase }, { on := 9, ground := Go.Ground.phase }, { on := 10, ground := Go.Ground.phase }, { on := 11, ground := Go.Ground.phase }, { on := 12, ground := Go.Ground.phase }, { on := 13, ground := Go.Ground.phase }, { on := 14, ground := Go.Ground.phase }, { on := 15, ground := Go.Ground.phase }, { on := 16, ground := Go.Ground.phase }, { on := 17, ground := Go.Ground.phase }, { on := 18, ground := Go.Ground.phase }, { on := 19, ground := Go.Ground.phase }, { on := 20, ground := Go.Ground.phase }], guard := none }) rfl (by rfl) (fun K hK => ?_) ?_
                  · go_simp
                    refine hK.out _ _ ?_
                    clear hK K
                    try simp only [Act.put, List.setIfInBounds_toArray, List.set_cons_zero, List.set_cons_succ]
                    refine wpAnyF_done (by kernel_rfl) ?_ _
                    go_wp2_with fail
                    go_roundw
                    case rel =>
                      have hsn := Giv.snoc (bs := bs.take k) (l := l) HLK.out HS2.out (fun j l' hj => let ⟨b, c, h1, h2, h3⟩ := HO'.out j l' hj; ⟨b, c, h1, own_grow h2 HP5.out, h3⟩) (own_mono HO3.out (by omega)) HOL.out.2 HOV.out HGV.out
                      have htk : bs.take (k + 1) = bs.take k ++ [l] := by rw [List.take_add_one, HO.out]; rfl
                      refine ⟨k + 1, A4, c4, by omega, by go_num, ?_, ?_, ?_⟩
                      · rw [htk]
                        exact hsn.far (grownBy_setCell _ ⟨w.heap.size + 1 + 1, 1, none⟩ _) (fun b e => by simp at e; omega)
                      · exact HYV.out.set_ 1 (.slice A4 (k + 1) c4)
                      · exact (HB2.out.trans (HWV.out.mono (B' := w.heap.size + 2) (by omega))).setCell (p := ⟨w.heap.size + 1 + 1, 1, none⟩) (by simp) _
                    case measure => simp [intOf]; omega
                  exact AllReadyF.nil
                exact AllReadyF.nil
              exact AllReadyF.nil
            exact AllReadyF.nil
          exact AllReadyF.nil
        refine AllReadyF.cons (o := { dst := some 25, op := Go.Op.buildSlice 41 1 #[(0, Go.Operand.tmp 24)], type := 41, pos := "law.go:46", after := #[{ on := 9, ground := Go.Ground.data }], guard := none }) rfl (by rfl) (fun K hK => ?_) ?_
        · go_simp
          refine hK.out _ _ ?_ (fun hS => ?_)
          · exact hS.alloc (by have := HP1.out.size; omega) _
          clear hK K
          try simp only [Act.put, List.setIfInBounds_toArray, List.set_cons_zero, List.set_cons_succ]
          have hL := Blk.new V1 45 #[.int .u32 77, .int .i64 0]
          have hB := HP1.out.alloc (by have := HP1.out.size; omega) (.cells #[.int .u32 77, .int .i64 0] 45)
          have hE := own_alloc HE.out (.cells #[.int .u32 77, .int .i64 0] 45)
          obtain ⟨V2, hV⟩ : ∃ V, V = V1.alloc (.cells #[.int .u32 77, .int .i64 0] 45) := ⟨_, rfl⟩
          rw [← hV] at hL hB hS ⊢
          rw [← hV] at hE
          have HE := Lib.hid hE
          clear hE
          have HL := Lib.hid hL
          have HP2 := Lib.hid hB
          clear hV hL hB
          refine wpAnyF_ready (rs := [8]) (by kernel_rfl) (by simp) ?_
          refine AllReadyF.cons (o := { dst := some 23, op := Go.Op.call { callee := Go.Callee.builtin Go.Builtin.append, args := #[Go.Operand.tmp 17, Go.Operand.tmp 22], argTypes := #[41, 41] }, type := 41, pos := "law.go:46", after := #[{ on := 2, ground := Go.Ground.data }, { on := 7, ground := Go.Ground.data }], guard := none }) rfl (by rfl) (fun K hK => ?_) ?_
          · refine step_app V2 rfl (.tmp 17) (.tmp 22) et_off rfl wr.heap.size (.slice (some ⟨V0.heap.size, 0, none⟩) 0 0) 0 [] rfl HE.out R _ l.length (Off.all l) rfl (show Sl V2 R _ _ _ _ from (HOL.out.grow HP2.out).1) (Off.all_one l) (by omega) (by unfold maxLen; omega) (by have := HP2.out.size; omega) ?_
            intro A2 c2 V3 hown hg hloc
            rw [Nat.zero_add]
            refine hK.out _ _ ?_ (fun hS => ?_)
            · exact hS.grown hg (by have := HP2.out.size; omega) (fun g e => by have := (HE.out.lt g e).1; omega)
            clear hK K
            try simp only [Act.put, List.setIfInBounds_toArray, List.set_cons_zero, List.set_cons_succ]
            rw [Nat.zero_add, List.nil_append] at hown
            have hB := HP2.out.grown hg (by have := HP2.out.size; omega) (fun g e => (HE.out.lt g e).1)
            have HL := Lib.hid (HL.out.grown hg (by simp [Value.ownBlock]; omega))
            have HP3 := Lib.hid hB
            have HO1 := Lib.hid hown
            clear hown hg hloc hB
            refine wpAnyF_ready (rs := [11]) (by kernel_rfl) (by simp) ?_
            refine AllReadyF.cons (o := { dst := some 26, op := Go.Op.call { callee := Go.Callee.builtin Go.Builtin.append, args := #[Go.Operand.tmp 23, Go.Operand.tmp 25], argTypes := #[41, 41] }, type := 41, pos := "law.go:46", after := #[{ on := 8, ground := Go.Ground.data }, { on := 10, ground := Go.Ground.data }, { on := 8, ground := Go.Ground.chain }], guard := none }) rfl (by rfl) (fun K hK => ?_) ?_
            · refine step_app V3 rfl (.tmp 23) (.tmp 25) et_off rfl wr.heap.size (.slice A2 l.length c2) l.length (Off.all l) rfl HO1.out (fun _ => True) (.slice (some ⟨V1.heap.size, 0, none⟩) 1 1) 1 [.int .u32 77, .int .i64 0] rfl (Sl.blk (sz := 2) HL.out (Nat.le_refl 1) (by unfold maxLen; omega) rfl) (by simp [Value.oneCell']) (by omega) (by unfold maxLen; omega) (by have := HP3.out.size; omega) ?_
              intro A3 c3 V4 hown hg hloc
              refine hK.out _ _ ?_ (fun hS => ?_)
              · exact hS.grown hg (by have := HP3.out.size; omega) (fun g e => by have := (HO1.out.lt g e).1; omega)
              clear hK K
              try simp only [Act.put, List.setIfInBounds_toArray, List.set_cons_zero, List.set_cons_succ]
              have hB := HP3.out.grown hg (by have := HP3.out.size; omega) (fun g e => (HO1.out.lt g e).1)
              have hall : Off.all l ++ [.int .u32 77, .int .i64 0] = Off.all (l ++ [⟨77, 0⟩]) := (by simp [Off.all, Off.cells])
              rw [hall] at hown
              obtain ⟨gb, cb, hform, hgb, hgb2⟩ := World.ownsRow.form hown (by omega)
              injection hform with hA3 _ hc3
              subst hA3 hc3
              obtain ⟨_, A9, _, hv3, hnc3, hcm3, _⟩ := Sl.of_own hown
              injection hv3 with hA9 _ hc3'
              subst hc3' hA9
              have hc31 : ((l.length : Nat) : Int) ≤ (c3 : Int) := by omega
              have hc30 : (0 : Int) ≤ ((l.length : Nat) : Int) := by omega
              have HP4 := Lib.hid hB
              have HO2 := Lib.hid hown
              clear hown hg hloc hB hall
              refine wpAnyF_take (i := 18) (oi := { dst := some 33, op := Go.Op.slice 41 (Go.Operand.tmp 26) none (some (Go.Operand.tmp 32)) none, type := 41, pos := "law.go:46", after := #[{ on := 11, ground := Go.Ground.data }, { on := 17, ground := Go.Ground.data }], guard := none }) (v := ?_) rfl (by kernel_rfl) (by kernel_rfl) (by kernel_rfl) (by kernel_rfl) (fun _ _ _ h => h) (Or.inl ⟨by rfl, ?_⟩) hS ?_
              rotate_left
              · intro w' hSw; have q1 := (hSw.cell (p := ⟨w.heap.size, 1, none⟩) (by simp <;> omega)).trans x1; have q2 := (hSw.cell (p := ⟨bq, off + k, none⟩) (by simp <;> omega)).trans c0; have q3 : w'.cell? ⟨w.heap.size + 1 + 1, 1, none⟩ = _ := (hSw.cell (p := ⟨w.heap.size + 2, 1, none⟩) (by simp <;> omega)).trans y1; go_simp; try with_reducible rfl
              try simp only [Act.put, List.setIfInBounds_toArray, List.set_cons_zero, List.set_cons_succ]
              refine wpAnyF_ready (rs := [19]) (by kernel_rfl) (by simp) ?_
              refine AllReadyF.cons (o := { dst := some 34, op := Go.Op.buildSlice 22 1 #[(0, Go.Operand.tmp 33)], type := 22, pos := "law.go:46", after := #[{ on := 18, ground := Go.Ground.data }], guard := none }) rfl (by rfl) (fun K hK => ?_) ?_
              · go_simp
                refine hK.out _ _ ?_ (fun hS => ?_)
                · exact hS.alloc (by have := HP4.out.size; omega) _
                clear hK K
                try simp only [Act.put, List.setIfInBounds_toArray, List.set_cons_zero, List.set_cons_succ]
                have hN := Blk.new V4 41 #[.slice (some ⟨gb, 0, none⟩) l.length c3]
                have hB := HP4.out.alloc (by have := HP4.out.size; omega) (.cells #[.slice (some ⟨gb, 0, none⟩) l.length c3] 41)
                have hO := own_alloc HO2.out (.cells #[.slice (some ⟨gb, 0, none⟩) l.length c3] 41)
                obtain ⟨V5, hV⟩ : ∃ V, V = V4.alloc (.cells #[.slice (some ⟨gb, 0, none⟩) l.length c3] 41) := ⟨_, rfl⟩
                rw [← hV] at hN hB hS hO ⊢
                have HN1 := Lib.hid hN
                have HP5 := Lib.hid hB
                have HO3 := Lib.hid hO
                have HS2 := Lib.hid (own_grow HS.out hB)
                clear hV hN hB hO
                refine wpAnyF_ready (rs := [20]) (by kernel_rfl) (by simp) ?_
                refine AllReadyF.cons (o := { dst := some 35, op := Go.Op.call { callee := Go.Callee.builtin Go.Builtin.append, args := #[Go.Operand.tmp 16, Go.Operand.tmp 34], argTypes := #[22, 22] }, type := 22, pos := "law.go:46", after := #[{ on := 1, ground := Go.Ground.data }, { on := 19, ground := Go.Ground.data }, { on := 11, ground := Go.Ground.chain }], guard := none }) rfl (by rfl) (fun K hK => ?_) ?_
                · refine step_app V5 rfl (.tmp 16) (.tmp 34) et_offs rfl (w.heap.size + 3) (.slice A' k cap') k vs' rfl HS2.out (fun _ => True) (.slice (some ⟨V4.heap.size, 0, none⟩) 1 1) 1 [.slice (some ⟨gb, 0, none⟩) l.length c3] rfl (Sl.blk (sz := 1) HN1.out (Nat.le_refl 1) (by unfold maxLen; omega) rfl) (by simp [Value.oneCell']) (by omega) (by unfold maxLen; omega) (by have := HP5.out.size; omega) ?_
                  intro A4 c4 V6 hown hg hloc
                  refine hK.out _ _ ?_ (fun hS => ?_)
                  · exact hS.grown hg (by have := HP5.out.size; omega) (fun g e => (HS2.out.lt g e).1)
                  clear hK K
                  try simp only [Act.put, List.setIfInBounds_toArray, List.set_cons_zero, List.set_cons_succ]
                  have hfar : ∀ b, b < w.heap.size + 3 → some b ≠ (Value.slice A' k cap').ownBlock := (fun b hb e => by have := (HS2.out.lt b e.symm).1; omega)
                  have hyV := (HY2.out.grow HP5.out).grown hg (hfar _ (by omega))
                  have yc : V6.cell? ⟨w.heap.size + 1 + 1, 1, none⟩ = some (.slice A' k cap') := hyV.cell 1
                  have yf : V6.frozen? ⟨w.heap.size + 1 + 1, 1, none⟩ = false := hyV.frozen 1
                  have HYV := Lib.hid hyV
                  have HGV := Lib.hid hg
                  have HOV := Lib.hid hown
                  have HBV := HP5
                  have HWV := Lib.hid hS
                  clear hyV hg hown hloc hfar
                  refine wpAnyF_take (i := 21) (oi := { dst := some 36, op := Go.Op.fieldAddr 24 (Go.Operand.tmp 3) 1, type := 0, pos := "law.go:46", after := #[{ on := 0, ground := Go.Ground.phase }, { on := 1, ground := Go.Ground.phase }, { on := 2, ground := Go.Ground.phase }, { on := 3, ground := Go.Ground.phase }, { on := 4, ground := Go.Ground.phase }, { on := 5, ground := Go.Ground.phase }, { on := 6, ground := Go.Ground.phase }, { on := 7, ground := Go.Ground.phase }, { on := 8, ground := Go.Ground.phase }, { on := 9, ground := Go.Ground.phase }, { on := 10, ground := Go.Ground.phase }, { on := 11, ground := Go.Ground.phase }, { on := 12, ground := Go.Ground.phase }, { on := 13, ground := Go.Ground.phase }, { on := 14, ground := Go.Ground.phase }, { on := 15, ground := Go.Ground.phase }, { on := 16, ground := Go.Ground.phase }, { on := 17, ground := Go.Ground.phase }, { on := 18, ground := Go.Ground.phase }, { on := 19, ground := Go.Ground.phase }, { on := 20, ground := Go.Ground.phase }], guard := none }) (v := ?_) rfl (by kernel_rfl) (by kernel_rfl) (by kernel_rfl) (by kernel_rfl) (fun _ _ _ h => h) (Or.inl ⟨by rfl, ?_⟩) hS ?_
                  rotate_left
                  · intro w' hSw; have q1 := (hSw.cell (p := ⟨w.heap.size, 1, none⟩) (by simp <;> omega)).trans x1; have q2 := (hSw.cell (p := ⟨bq, off + k, none⟩) (by simp <;> omega)).trans c0; have q3 : w'.cell? ⟨w.heap.size + 1 + 1, 1, none⟩ = _ := (hSw.cell (p := ⟨w.heap.size + 2, 1, none⟩) (by simp <;> omega)).trans y1; go_simp; try with_reducible rfl
                  try simp only [Act.put, List.setIfInBounds_toArray, List.set_cons_zero, List.set_cons_succ]
                  refine wpAnyF_ready (rs := [22]) (by kernel_rfl) (by simp) ?_
                  refine AllReadyF.fin (o := { dst := none, op := Go.Op.store 22 (Go.Operand.tmp 36) (Go.Operand.tmp 35), type := 0, pos := "law.go:46", after := #[{ on := 21, ground := Go.Ground.data }, { on := 20, ground := Go.Ground.data }, { on := 20, ground := Go.Ground.chain }, { on := 0, ground := Go.Ground.phase }, { on := 1, ground := Go.Ground.phase }, { on := 2, ground := Go.Ground.phase }, { on := 3, ground := Go.Ground.phase }, { on := 4, ground := Go.Ground.phase }, { on := 5, ground := Go.Ground.phase }, { on := 6, ground := Go.Ground.phase }, { on := 7, ground := Go.Ground.phase }, { on := 8, ground := Go.Ground.phase }, { on := 9, ground := Go.Ground.phase }, { on := 10, ground := Go.Ground.phase }, { on := 11, ground := Go.Ground.phase }, { on := 12, ground := Go.Ground.phase }, { on := 13, ground := Go.Ground.phase }, { on := 14, ground := Go.Ground.phase }, { on := 15, ground := Go.Ground.phase }, { on := 16, ground := Go.Ground.phase }, { on := 17, ground := Go.Ground.phase }, { on := 18, ground := Go.Ground.phase }, { on := 19, ground := Go.Ground.phase }, { on := 20, ground := Go.Ground.phase }], guard := none }) rfl (by rfl) (fun K hK => ?_) ?_
                  · go_simp
                    refine hK.out _ _ ?_
                    clear hK K
                    try simp only [Act.put, List.setIfInBounds_toArray, List.set_cons_zero, List.set_cons_succ]
                    refine wpAnyF_done (by kernel_rfl) ?_ _
                    go_wp2_with fail
                    go_roundw
                    case rel =>
                      have hsn := Giv.snoc (bs := bs.take k) (l := l) HLK.out HS2.out (fun j l' hj => let ⟨b, c, h1, h2, h3⟩ := HO'.out j l' hj; ⟨b, c, h1, own_grow h2 HP5.out, h3⟩) (own_mono HO3.out (by omega)) HOL.out.2 HOV.out HGV.out
                      have htk : bs.take (k + 1) = bs.take k ++ [l] := by rw [List.take_add_one, HO.out]; rfl
                      refine ⟨k + 1, A4, c4, by omega, by go_num, ?_, ?_, ?_⟩
                      · rw [htk]
                        exact hsn.far (grownBy_setCell _ ⟨w.heap.size + 1 + 1, 1, none⟩ _) (fun b e => by simp at e; omega)
                      · exact HYV.out.set_ 1 (.slice A4 (k + 1) c4)
                      · exact (HB2.out.trans (HWV.out.mono (B' := w.heap.size + 2) (by omega))).setCell (p := ⟨w.heap.size + 1 + 1, 1, none⟩) (by simp) _
                    case measure => simp [intOf]; omega
                  exact AllReadyF.nil
                exact AllReadyF.nil
              exact AllReadyF.nil
            exact AllReadyF.nil
          exact AllReadyF.nil
        exact AllReadyF.nil
      refine AllReadyF.cons (o := { dst := some 25, op := Go.Op.buildSlice 41 1 #[(0, Go.Operand.tmp 24)], type := 41, pos := "law.go:46", after := #[{ on := 9, ground := Go.Ground.data }], guard := none }) rfl (by rfl) (fun K hK => ?_) ?_
      · go_simp
        refine hK.out _ _ ?_ (fun hS => ?_)
        · exact hS.alloc (by have := HP0.out.size; omega) _
        clear hK K
        try simp only [Act.put, List.setIfInBounds_toArray, List.set_cons_zero, List.set_cons_succ]
        have hL := Blk.new V0 45 #[.int .u32 77, .int .i64 0]
        have hB := HP0.out.alloc (by have := HP0.out.size; omega) (.cells #[.int .u32 77, .int .i64 0] 45)
        obtain ⟨V1, hV⟩ : ∃ V, V = V0.alloc (.cells #[.int .u32 77, .int .i64 0] 45) := ⟨_, rfl⟩
        rw [← hV] at hL hB hS ⊢
        have HL := Lib.hid hL
        have HP1 := Lib.hid hB
        clear hV hL hB
        refine wpAnyF_ready (rs := [2]) (by kernel_rfl) (by simp) ?_
        refine AllReadyF.cons (o := { dst := some 17, op := Go.Op.buildSlice 41 0 #[], type := 41, pos := "law.go:46", after := #[], guard := none }) rfl (by rfl) (fun K hK => ?_) ?_
        · go_simp
          refine hK.out _ _ ?_ (fun hS => ?_)
          · exact hS.alloc (by have := HP1.out.size; omega) _
          clear hK K
          try simp only [Act.put, List.setIfInBounds_toArray, List.set_cons_zero, List.set_cons_succ]
          have hE := own_empty (base := wr.heap.size) V1 (by have := HP1.out.size; omega) 45 2
          have hB := HP1.out.alloc (by have := HP1.out.size; omega) (.cells #[] 45)
          have hL := HL.out.alloc (.cells #[] 45)
          have hne : V0.heap.size < V1.heap.size := HL.out.lt
          obtain ⟨V2, hV⟩ : ∃ V, V = V1.alloc (.cells #[] 45) := ⟨_, rfl⟩
          rw [← hV] at hE hB hS ⊢
          rw [← hV] at hL
          have HL := Lib.hid hL
          clear hL
          have HE := Lib.hid hE
          have HP2 := Lib.hid hB
          have hlE := (hE.lt V1.heap.size rfl).2
          clear hV hE hB
          refine wpAnyF_ready (rs := [8]) (by kernel_rfl) (by simp) ?_
          refine AllReadyF.cons (o := { dst := some 23, op := Go.Op.call { callee := Go.Callee.builtin Go.Builtin.append, args := #[Go.Operand.tmp 17, Go.Operand.tmp 22], argTypes := #[41, 41] }, type := 41, pos := "law.go:46", after := #[{ on := 2, ground := Go.Ground.data }, { on := 7, ground := Go.Ground.data }], guard := none }) rfl (by rfl) (fun K hK => ?_) ?_
          · refine step_app V2 rfl (.tmp 17) (.tmp 22) et_off rfl wr.heap.size (.slice (some ⟨V1.heap.size, 0, none⟩) 0 0) 0 [] rfl HE.out R _ l.length (Off.all l) rfl (show Sl V2 R _ _ _ _ from (HOL.out.grow HP2.out).1) (Off.all_one l) (by omega) (by unfold maxLen; omega) (by have := HP2.out.size; omega) ?_
            intro A2 c2 V3 hown hg hloc
            rw [Nat.zero_add]
            refine hK.out _ _ ?_ (fun hS => ?_)
            · exact hS.grown hg (by have := HP2.out.size; omega) (fun g e => by have := (HE.out.lt g e).1; omega)
            clear hK K
            try simp only [Act.put, List.setIfInBounds_toArray, List.set_cons_zero, List.set_cons_succ]
            rw [Nat.zero_add, List.nil_append] at hown
            have hB := HP2.out.grown hg (by have := HP2.out.size; omega) (fun g e => (HE.out.lt g e).1)
            have HL := Lib.hid (HL.out.grown hg (by simp [Value.ownBlock]; omega))
            have HP3 := Lib.hid hB
            have HO1 := Lib.hid hown
            clear hown hg hloc hB
            refine wpAnyF_ready (rs := [11]) (by kernel_rfl) (by simp) ?_
            refine AllReadyF.cons (o := { dst := some 26, op := Go.Op.call { callee := Go.Callee.builtin Go.Builtin.append, args := #[Go.Operand.tmp 23, Go.Operand.tmp 25], argTypes := #[41, 41] }, type := 41, pos := "law.go:46", after := #[{ on := 8, ground := Go.Ground.data }, { on := 10, ground := Go.Ground.data }, { on := 8, ground := Go.Ground.chain }], guard := none }) rfl (by rfl) (fun K hK => ?_) ?_
            · refine step_app V3 rfl (.tmp 23) (.tmp 25) et_off rfl wr.heap.size (.slice A2 l.length c2) l.length (Off.all l) rfl HO1.out (fun _ => True) (.slice (some ⟨V0.heap.size, 0, none⟩) 1 1) 1 [.int .u32 77, .int .i64 0] rfl (Sl.blk (sz := 2) HL.out (Nat.le_refl 1) (by unfold maxLen; omega) rfl) (by simp [Value.oneCell']) (by omega) (by unfold maxLen; omega) (by have := HP3.out.size; omega) ?_
              intro A3 c3 V4 hown hg hloc
              refine hK.out _ _ ?_ (fun hS => ?_)
              · exact hS.grown hg (by have := HP3.out.size; omega) (fun g e => by have := (HO1.out.lt g e).1; omega)
              clear hK K
              try simp only [Act.put, List.setIfInBounds_toArray, List.set_cons_zero, List.set_cons_succ]
              have hB := HP3.out.grown hg (by have := HP3.out.size; omega) (fun g e => (HO1.out.lt g e).1)
              have hall : Off.all l ++ [.int .u32 77, .int .i64 0] = Off.all (l ++ [⟨77, 0⟩]) := (by simp [Off.all, Off.cells])
              rw [hall] at hown
              obtain ⟨gb, cb, hform, hgb, hgb2⟩ := World.ownsRow.form hown (by omega)
              injection hform with hA3 _ hc3
              subst hA3 hc3
              obtain ⟨_, A9, _, hv3, hnc3, hcm3, _⟩ := Sl.of_own hown
              injection hv3 with hA9 _ hc3'
              subst hc3' hA9
              have hc31 : ((l.length : Nat) : Int) ≤ (c3 : Int) := by omega
              have hc30 : (0 : Int) ≤ ((l.length : Nat) : Int) := by omega
              have HP4 := Lib.hid hB
              have HO2 := Lib.hid hown
              clear hown hg hloc hB hall
              refine wpAnyF_take (i := 18) (oi := { dst := some 33, op := Go.Op.slice 41 (Go.Operand.tmp 26) none (some (Go.Operand.tmp 32)) none, type := 41, pos := "law.go:46", after := #[{ on := 11, ground := Go.Ground.data }, { on := 17, ground := Go.Ground.data }], guard := none }) (v := ?_) rfl (by kernel_rfl) (by kernel_rfl) (by kernel_rfl) (by kernel_rfl) (fun _ _ _ h => h) (Or.inl ⟨by rfl, ?_⟩) hS ?_
              rotate_left
              · intro w' hSw; have q1 := (hSw.cell (p := ⟨w.heap.size, 1, none⟩) (by simp <;> omega)).trans x1; have q2 := (hSw.cell (p := ⟨bq, off + k, none⟩) (by simp <;> omega)).trans c0; have q3 : w'.cell? ⟨w.heap.size + 1 + 1, 1, none⟩ = _ := (hSw.cell (p := ⟨w.heap.size + 2, 1, none⟩) (by simp <;> omega)).trans y1; go_simp; try with_reducible rfl
              try simp only [Act.put, List.setIfInBounds_toArray, List.set_cons_zero, List.set_cons_succ]
              refine wpAnyF_ready (rs := [19]) (by kernel_rfl) (by simp) ?_
              refine AllReadyF.cons (o := { dst := some 34, op := Go.Op.buildSlice 22 1 #[(0, Go.Operand.tmp 33)], type := 22, pos := "law.go:46", after := #[{ on := 18, ground := Go.Ground.data }], guard := none }) rfl (by rfl) (fun K hK => ?_) ?_
              · go_simp
                refine hK.out _ _ ?_ (fun hS => ?_)
                · exact hS.alloc (by have := HP4.out.size; omega) _
                clear hK K
                try simp only [Act.put, List.setIfInBounds_toArray, List.set_cons_zero, List.set_cons_succ]
                have hN := Blk.new V4 41 #[.slice (some ⟨gb, 0, none⟩) l.length c3]
                have hB := HP4.out.alloc (by have := HP4.out.size; omega) (.cells #[.slice (some ⟨gb, 0, none⟩) l.length c3] 41)
                have hO := own_alloc HO2.out (.cells #[.slice (some ⟨gb, 0, none⟩) l.length c3] 41)
                obtain ⟨V5, hV⟩ : ∃ V, V = V4.alloc (.cells #[.slice (some ⟨gb, 0, none⟩) l.length c3] 41) := ⟨_, rfl⟩
                rw [← hV] at hN hB hS hO ⊢
                have HN1 := Lib.hid hN
                have HP5 := Lib.hid hB
                have HO3 := Lib.hid hO
                have HS2 := Lib.hid (own_grow HS.out hB)
                clear hV hN hB hO
                refine wpAnyF_ready (rs := [20]) (by kernel_rfl) (by simp) ?_
                refine AllReadyF.cons (o := { dst := some 35, op := Go.Op.call { callee := Go.Callee.builtin Go.Builtin.append, args := #[Go.Operand.tmp 16, Go.Operand.tmp 34], argTypes := #[22, 22] }, type := 22, pos := "law.go:46", after := #[{ on := 1, ground := Go.Ground.data }, { on := 19, ground := Go.Ground.data }, { on := 11, ground := Go.Ground.chain }], guard := none }) rfl (by rfl) (fun K hK => ?_) ?_
                · refine step_app V5 rfl (.tmp 16) (.tmp 34) et_offs rfl (w.heap.size + 3) (.slice A' k cap') k vs' rfl HS2.out (fun _ => True) (.slice (some ⟨V4.heap.size, 0, none⟩) 1 1) 1 [.slice (some ⟨gb, 0, none⟩) l.length c3] rfl (Sl.blk (sz := 1) HN1.out (Nat.le_refl 1) (by unfold maxLen; omega) rfl) (by simp [Value.oneCell']) (by omega) (by unfold maxLen; omega) (by have := HP5.out.size; omega) ?_
                  intro A4 c4 V6 hown hg hloc
                  refine hK.out _ _ ?_ (fun hS => ?_)
                  · exact hS.grown hg (by have := HP5.out.size; omega) (fun g e => (HS2.out.lt g e).1)
                  clear hK K
                  try simp only [Act.put, List.setIfInBounds_toArray, List.set_cons_zero, List.set_cons_succ]
                  have hfar : ∀ b, b < w.heap.size + 3 → some b ≠ (Value.slice A' k cap').ownBlock := (fun b hb e => by have := (HS2.out.lt b e.symm).1; omega)
                  have hyV := (HY2.out.grow HP5.out).grown hg (hfar _ (by omega))
                  have yc : V6.cell? ⟨w.heap.size + 1 + 1, 1, none⟩ = some (.slice A' k cap') := hyV.cell 1
                  have yf : V6.frozen? ⟨w.heap.size + 1 + 1, 1, none⟩ = false := hyV.frozen 1
                  have HYV := Lib.hid hyV
                  have HGV := Lib.hid hg
                  have HOV := Lib.hid hown
                  have HBV := HP5
                  have HWV := Lib.hid hS
                  clear hyV hg hown hloc hfar
                  refine wpAnyF_take (i := 21) (oi := { dst := some 36, op := Go.Op.fieldAddr 24 (Go.Operand.tmp 3) 1, type := 0, pos := "law.go:46", after := #[{ on := 0, ground := Go.Ground.phase }, { on := 1, ground := Go.Ground.phase }, { on := 2, ground := Go.Ground.phase }, { on := 3, ground := Go.Ground.phase }, { on := 4, ground := Go.Ground.phase }, { on := 5, ground := Go.Ground.phase }, { on := 6, ground := Go.Ground.phase }, { on := 7, ground := Go.Ground.phase }, { on := 8, ground := Go.Ground.phase }, { on := 9, ground := Go.Ground.phase }, { on := 10, ground := Go.Ground.phase }, { on := 11, ground := Go.Ground.phase }, { on := 12, ground := Go.Ground.phase }, { on := 13, ground := Go.Ground.phase }, { on := 14, ground := Go.Ground.phase }, { on := 15, ground := Go.Ground.phase }, { on := 16, ground := Go.Ground.phase }, { on := 17, ground := Go.Ground.phase }, { on := 18, ground := Go.Ground.phase }, { on := 19, ground := Go.Ground.phase }, { on := 20, ground := Go.Ground.phase }], guard := none }) (v := ?_) rfl (by kernel_rfl) (by kernel_rfl) (by kernel_rfl) (by kernel_rfl) (fun _ _ _ h => h) (Or.inl ⟨by rfl, ?_⟩) hS ?_
                  rotate_left
                  · intro w' hSw; have q1 := (hSw.cell (p := ⟨w.heap.size, 1, none⟩) (by simp <;> omega)).trans x1; have q2 := (hSw.cell (p := ⟨bq, off + k, none⟩) (by simp <;> omega)).trans c0; have q3 : w'.cell? ⟨w.heap.size + 1 + 1, 1, none⟩ = _ := (hSw.cell (p := ⟨w.heap.size + 2, 1, none⟩) (by simp <;> omega)).trans y1; go_simp; try with_reducible rfl
                  try simp only [Act.put, List.setIfInBounds_toArray, List.set_cons_zero, List.set_cons_succ]
                  refine wpAnyF_ready (rs := [22]) (by kernel_rfl) (by simp) ?_
                  refine AllReadyF.fin (o := { dst := none, op := Go.Op.store 22 (Go.Operand.tmp 36) (Go.Operand.tmp 35), type := 0, pos := "law.go:46", after := #[{ on := 21, ground := Go.Ground.data }, { on := 20, ground := Go.Ground.data }, { on := 20, ground := Go.Ground.chain }, { on := 0, ground := Go.Ground.phase }, { on := 1, ground := Go.Ground.phase }, { on := 2, ground := Go.Ground.phase }, { on := 3, ground := Go.Ground.phase }, { on := 4, ground := Go.Ground.phase }, { on := 5, ground := Go.Ground.phase }, { on := 6, ground := Go.Ground.phase }, { on := 7, ground := Go.Ground.phase }, { on := 8, ground := Go.Ground.phase }, { on := 9, ground := Go.Ground.phase }, { on := 10, ground := Go.Ground.phase }, { on := 11, ground := Go.Ground.phase }, { on := 12, ground := Go.Ground.phase }, { on := 13, ground := Go.Ground.phase }, { on := 14, ground := Go.Ground.phase }, { on := 15, ground := Go.Ground.phase }, { on := 16, ground := Go.Ground.phase }, { on := 17, ground := Go.Ground.phase }, { on := 18, ground := Go.Ground.phase }, { on := 19, ground := Go.Ground.phase }, { on := 20, ground := Go.Ground.phase }], guard := none }) rfl (by rfl) (fun K hK => ?_) ?_
                  · go_simp
                    refine hK.out _ _ ?_
                    clear hK K
                    try simp only [Act.put, List.setIfInBounds_toArray, List.set_cons_zero, List.set_cons_succ]
                    refine wpAnyF_done (by kernel_rfl) ?_ _
                    go_wp2_with fail
                    go_roundw
                    case rel =>
                      have hsn := Giv.snoc (bs := bs.take k) (l := l) HLK.out HS2.out (fun j l' hj => let ⟨b, c, h1, h2, h3⟩ := HO'.out j l' hj; ⟨b, c, h1, own_grow h2 HP5.out, h3⟩) (own_mono HO3.out (by omega)) HOL.out.2 HOV.out HGV.out
                      have htk : bs.take (k + 1) = bs.take k ++ [l] := by rw [List.take_add_one, HO.out]; rfl
                      refine ⟨k + 1, A4, c4, by omega, by go_num, ?_, ?_, ?_⟩
                      · rw [htk]
                        exact hsn.far (grownBy_setCell _ ⟨w.heap.size + 1 + 1, 1, none⟩ _) (fun b e => by simp at e; omega)
                      · exact HYV.out.set_ 1 (.slice A4 (k + 1) c4)
                      · exact (HB2.out.trans (HWV.out.mono (B' := w.heap.size + 2) (by omega))).setCell (p := ⟨w.heap.size + 1 + 1, 1, none⟩) (by simp) _
                    case measure => simp [intOf]; omega
                  exact AllReadyF.nil
                exact AllReadyF.nil
              exact AllReadyF.nil
            exact AllReadyF.nil
          exact AllReadyF.nil
        exact AllReadyF.nil
      exact AllReadyF.nil
    · obtain rfl : k = bs.length := by omega
      rw [List.take_length] at HGV
      have hrr := HR.out.below hb (by omega)
      have r0 : wr.cell? ⟨w.heap.size + 1, 0, none⟩ = some (.int .i64 0) := hrr.cell 0
      have r1 : wr.cell? ⟨w.heap.size + 1, 1, none⟩ = some (.slice none 0 0) := hrr.cell 1
      have rf := hrr.frozen
      have hfin := ((hrr.set_ 0 (.int .i64 n)).set_ 1 (.slice A' bs.length cap'))
      have q0 := hfin.cell 0
      have q1 := hfin.cell 1
      simp at q0 q1
      clear hx hy hb hbw hrr hfin hgv
      go_wp2_with fail
      refine bodyPost_ret (v := .agg #[.int .i64 n, .slice A' bs.length cap']) (by simp [results, Try.results15, go_sem, q0, q1]) rfl ⟨_, _, rfl, ?_, ?_⟩
      · exact ((HGV.out.far (grownBy_setCell _ ⟨w.heap.size + 1, 0, none⟩ _) (fun b e => by simp at e; omega)).far (grownBy_setCell _ ⟨w.heap.size + 1, 1, none⟩ _) (fun b e => by simp at e; omega)).mono (by omega)
      · exact (HBW2.out.setCell (p := ⟨w.heap.size + 1, 0, none⟩) (by simp) _).setCell (p := ⟨w.heap.size + 1, 1, none⟩) (by simp) _
end Go.Proofs.Ytcigobiolbojhaa.Vb

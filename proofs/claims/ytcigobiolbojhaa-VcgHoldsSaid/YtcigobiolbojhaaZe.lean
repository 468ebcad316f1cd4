/- Joined by program: Given Law Close All17 Asks CostsW PlainH. -/
import Derived.Test.YtcigobiolbojhaaZd
import Derived.Test.YtcigobiolbojhaaZa
import Derived.ChangeStays
import Derived.ReadAgain
import Derived.ChangeSame
import Derived.OpenShut
import Derived.Lib.SmallJoins
import Derived.Deep.Slices
import Derived.ProofKit
import Derived.JoinedOf
import Derived.Test.YtcigobiolbojhaaRows
/- Law 17's own: given. -/
namespace Go.Proofs.Ytcigobiolbojhaa.Vb
open Go.RowKit

set_option maxRecDepth 100000 in
set_option maxHeartbeats 3200000 in
theorem given_any (n : Int) (bs : List (List Off)) (v : Value) (R : Nat → Prop) (w : World) (hl : Buys w R v bs) (hsm : Small bs) :
    Calls Try.prog 15 #[.agg #[.int .i64 n, v]] w fun e w' => ∃ A' cap', e = .returned (.agg #[.int .i64 n, .slice A' bs.length cap']) ∧ Giv w' w.heap.size (.slice A' bs.length cap') bs ∧ Below w.heap.size w w' := by
  obtain ⟨vs, ⟨hlen, A, cap, rfl, hncap, hcap, hcells⟩, hvs⟩ := id hl
  have hsm1 := hsm.1
  have HSM := Lib.hid hsm.2
  have HC := Lib.hid hcells
  have HV := Lib.hid hvs
  clear hl hcells hvs hlen hcap hsm
  go_enter Try.func15, Try.ntmps15
  go_wp2
  have hw0 : ∃ W0, W0 = ((w.alloc (.cells #[.int .i64 n, .slice A bs.length cap] 24)).alloc (.cells #[.int .i64 0, .slice none 0 0] 24)).alloc (.cells #[.int .i64 n, .slice none 0 0] 24) := ⟨_, rfl⟩
  obtain ⟨W0, hW0⟩ := hw0
  have HX := Lib.hid (show Blk W0 w.heap.size 24 #[.int .i64 n, .slice A bs.length cap] from by rw [hW0]; exact ((Blk.new w _ _).alloc _).alloc _)
  have HR := Lib.hid (show Blk W0 (w.heap.size + 1) 24 #[.int .i64 0, .slice none 0 0] from by rw [hW0]; exact (Blk.new' _ _ (by simp)).alloc _)
  have HY := Lib.hid (show Blk W0 (w.heap.size + 2) 24 #[.int .i64 n, .slice none 0 0] from by rw [hW0]; exact Blk.new' _ _ (by simp))
  have HBW := Lib.hid (show Below w.heap.size w W0 from by rw [hW0]; exact (((Below.refl _ _).alloc (Nat.le_refl _) _).alloc (by simp) _).alloc (by simp; omega) _)
  have hs0 : W0.heap.size = w.heap.size + 3 := by rw [hW0]; simp
  rw [← hW0]
  clear hW0
  go_loopw [4] (fun i wr => ∃ (k : Nat) (A' : Option Addr) (cap' : Nat), k ≤ bs.length ∧ i = .int .i64 k ∧ Giv wr (w.heap.size + 3) (.slice A' k cap') (bs.take k) ∧ Blk wr (w.heap.size + 2) 24 #[.int .i64 n, .slice A' k cap'] ∧ Below (w.heap.size + 2) W0 wr)
    (fun i _ => bs.length - (intOf i).toNat)
  case atStart => exact ⟨0, none, 0, Nat.zero_le _, rfl, ⟨[], World.ownsRow_nil _ _ _ _, fun k l hk => by simp at hk⟩, HY.out, Below.refl _ _⟩
  case round =>
    obtain ⟨k, A', cap', hk, rfl, hgv, hy, hb⟩ := hrel
    have hx := HX.out.below hb (by omega)
    have hbw := HBW.out.trans (hb.mono (by omega))
    have x1 : wr.cell? ⟨w.heap.size, 1, none⟩ = some (.slice A bs.length cap) := hx.cell 1
    have y1 : wr.cell? ⟨w.heap.size + 2, 1, none⟩ = some (.slice A' k cap') := hy.cell 1
    have y0 : wr.cell? ⟨w.heap.size + 2, 0, none⟩ = some (.int .i64 n) := hy.cell 0
    have hsz : w.heap.size + 3 ≤ wr.heap.size := by have := hy.lt; omega
    have HGV := Lib.hid hgv
    have HY2 := Lib.hid hy
    have HB2 := Lib.hid hb
    have HBW2 := Lib.hid hbw
    by_cases hlt : k < bs.length
    · obtain ⟨bq, off, rfl, _, hbq, hcs⟩ := HC.out (by omega)
      obtain ⟨l, ho⟩ : ∃ l, bs[k]? = some l := ⟨_, List.getElem?_eq_getElem hlt⟩
      obtain ⟨u, hu, hol⟩ := HV.out k l ho
      have c0 : wr.cell? ⟨bq, off + k, none⟩ = some u := by have h := (hbw.cell hbq).trans (hcs _ _ hu); simpa using h
      have hbqr : bq < w.heap.size := hbq
      have HOL := Lib.hid (hol.grow hbw)
      have hll : l.length ≤ 64 := HSM.out l (List.mem_of_getElem? ho)
      obtain ⟨⟨_, A1, cap1, rfl, _⟩, _⟩ := hol
      have HO := Lib.hid ho
      obtain ⟨vs', hs', ho'⟩ := hgv
      have hlk : (bs.take k).length = k := by simp; omega
      rw [hlk] at hs'
      have HS := Lib.hid hs'
      have HO' := Lib.hid ho'
      have HLK := Lib.hid hlk
      clear hcs hu ho hx hy hb hbw hs' ho' hlk
      have e1 : (0 : Int) ≤ (k : Int) := by omega
      have e2 : (k : Int) < (bs.length : Int) := by omega
      have HP0 : Below wr.heap.size wr wr.drew := (Below.refl _ _).drew
      go_wp2_with fail
      refine wp_region_F (Below (w.heap.size + 3) wr) [22] (by kernel_rfl) ((Below.refl _ _).drew) (fun hS => ?_)
      obtain ⟨V0, hV⟩ : ∃ V, V = wr.drew := ⟨_, rfl⟩
      rw [← hV] at hS HP0 ⊢
      replace HP0 := Lib.hid HP0
      clear hV
      refine wpAnyF_take (i := 0) (oi := { dst := some 15, op := Go.Op.fieldAddr 24 (Go.Operand.tmp 3) 1, type := 0, pos := "law.go:46", after := #[], guard := none }) (v := ?_) rfl (by kernel_rfl) (by kernel_rfl) (by kernel_rfl) (by kernel_rfl) (fun _ _ _ h => h) (Or.inl ⟨by rfl, ?_⟩) hS ?_
      rotate_left
      · intro w' hSw; have q1 := (hSw.cell (p := ⟨w.heap.size, 1, none⟩) (by simp <;> omega)).trans x1; have q2 := (hSw.cell (p := ⟨bq, off + k, none⟩) (by simp <;> omega)).trans c0; have q3 : w'.cell? ⟨w.heap.size + 1 + 1, 1, none⟩ = _ := (hSw.cell (p := ⟨w.heap.size + 2, 1, none⟩) (by simp <;> omega)).trans y1; go_simp; try with_reducible rfl
      try simp only [Act.put, List.setIfInBounds_toArray, List.set_cons_zero, List.set_cons_succ]
      refine wpAnyF_take (i := 1) (oi := { dst := some 16, op := Go.Op.load 22 (Go.Operand.tmp 15), type := 22, pos := "law.go:46", after := #[{ on := 0, ground := Go.Ground.data }], guard := none }) (v := ?_) rfl (by kernel_rfl) (by kernel_rfl) (by kernel_rfl) (by kernel_rfl) (fun _ _ _ h => h) (Or.inl ⟨by rfl, ?_⟩) hS ?_
      rotate_left
      · intro w' hSw; have q1 := (hSw.cell (p := ⟨w.heap.size, 1, none⟩) (by simp <;> omega)).trans x1; have q2 := (hSw.cell (p := ⟨bq, off + k, none⟩) (by simp <;> omega)).trans c0; have q3 : w'.cell? ⟨w.heap.size + 1 + 1, 1, none⟩ = _ := (hSw.cell (p := ⟨w.heap.size + 2, 1, none⟩) (by simp <;> omega)).trans y1; go_simp; try with_reducible rfl
      try simp only [Act.put, List.setIfInBounds_toArray, List.set_cons_zero, List.set_cons_succ]
      refine wpAnyF_take (i := 3) (oi := { dst := some 18, op := Go.Op.fieldAddr 24 (Go.Operand.tmp 1) 1, type := 0, pos := "law.go:46", after := #[], guard := none }) (v := ?_) rfl (by kernel_rfl) (by kernel_rfl) (by kernel_rfl) (by kernel_rfl) (fun _ _ _ h => h) (Or.inl ⟨by rfl, ?_⟩) hS ?_
      rotate_left
      · intro w' hSw; have q1 := (hSw.cell (p := ⟨w.heap.size, 1, none⟩) (by simp <;> omega)).trans x1; have q2 := (hSw.cell (p := ⟨bq, off + k, none⟩) (by simp <;> omega)).trans c0; have q3 : w'.cell? ⟨w.heap.size + 1 + 1, 1, none⟩ = _ := (hSw.cell (p := ⟨w.heap.size + 2, 1, none⟩) (by simp <;> omega)).trans y1; go_simp; try with_reducible rfl
      try simp only [Act.put, List.setIfInBounds_toArray, List.set_cons_zero, List.set_cons_succ]
      refine wpAnyF_take (i := 4) (oi := { dst := some 19, op := Go.Op.load 22 (Go.Operand.tmp 18), type := 22, pos := "law.go:46", after := #[{ on := 3, ground := Go.Ground.data }], guard := none }) (v := ?_) rfl (by kernel_rfl) (by kernel_rfl) (by kernel_rfl) (by kernel_rfl) (fun _ _ _ h => h) (Or.inl ⟨by rfl, ?_⟩) hS ?_
      rotate_left
      · intro w' hSw; have q1 := (hSw.cell (p := ⟨w.heap.size, 1, none⟩) (by simp <;> omega)).trans x1; have q2 := (hSw.cell (p := ⟨bq, off + k, none⟩) (by simp <;> omega)).trans c0; have q3 : w'.cell? ⟨w.heap.size + 1 + 1, 1, none⟩ = _ := (hSw.cell (p := ⟨w.heap.size + 2, 1, none⟩) (by simp <;> omega)).trans y1; go_simp; try with_reducible rfl
      try simp only [Act.put, List.setIfInBounds_toArray, List.set_cons_zero, List.set_cons_succ]
      refine wpAnyF_take (i := 5) (oi := { dst := some 20, op := Go.Op.move (Go.Operand.tmp 4), type := 3, pos := "law.go:46", after := #[], guard := none }) (v := ?_) rfl (by kernel_rfl) (by kernel_rfl) (by kernel_rfl) (by kernel_rfl) (fun _ _ _ h => h) (Or.inl ⟨by rfl, ?_⟩) hS ?_
      rotate_left
      · intro w' hSw; have q1 := (hSw.cell (p := ⟨w.heap.size, 1, none⟩) (by simp <;> omega)).trans x1; have q2 := (hSw.cell (p := ⟨bq, off + k, none⟩) (by simp <;> omega)).trans c0; have q3 : w'.cell? ⟨w.heap.size + 1 + 1, 1, none⟩ = _ := (hSw.cell (p := ⟨w.heap.size + 2, 1, none⟩) (by simp <;> omega)).trans y1; go_simp; try with_reducible rfl
      try simp only [Act.put, List.setIfInBounds_toArray, List.set_cons_zero, List.set_cons_succ]
      refine wpAnyF_take (i := 6) (oi := { dst := some 21, op := Go.Op.indexAddr 22 (Go.Operand.tmp 19) (Go.Operand.tmp 20), type := 0, pos := "law.go:46", after := #[{ on := 4, ground := Go.Ground.data }, { on := 5, ground := Go.Ground.data }], guard := none }) (v := ?_) rfl (by kernel_rfl) (by kernel_rfl) (by kernel_rfl) (by kernel_rfl) (fun _ _ _ h => h) (Or.inl ⟨by rfl, ?_⟩) hS ?_
      rotate_left
      · intro w' hSw; have q1 := (hSw.cell (p := ⟨w.heap.size, 1, none⟩) (by simp <;> omega)).trans x1; have q2 := (hSw.cell (p := ⟨bq, off + k, none⟩) (by simp <;> omega)).trans c0; have q3 : w'.cell? ⟨w.heap.size + 1 + 1, 1, none⟩ = _ := (hSw.cell (p := ⟨w.heap.size + 2, 1, none⟩) (by simp <;> omega)).trans y1; go_simp; try with_reducible rfl
      try simp only [Act.put, List.setIfInBounds_toArray, List.set_cons_zero, List.set_cons_succ]
      refine wpAnyF_take (i := 7) (oi := { dst := some 22, op := Go.Op.load 41 (Go.Operand.tmp 21), type := 41, pos := "law.go:46", after := #[{ on := 6, ground := Go.Ground.data }], guard := none }) (v := ?_) rfl (by kernel_rfl) (by kernel_rfl) (by kernel_rfl) (by kernel_rfl) (fun _ _ _ h => h) (Or.inl ⟨by rfl, ?_⟩) hS ?_
      rotate_left
      · intro w' hSw; have q1 := (hSw.cell (p := ⟨w.heap.size, 1, none⟩) (by simp <;> omega)).trans x1; have q2 := (hSw.cell (p := ⟨bq, off + k, none⟩) (by simp <;> omega)).trans c0; have q3 : w'.cell? ⟨w.heap.size + 1 + 1, 1, none⟩ = _ := (hSw.cell (p := ⟨w.heap.size + 2, 1, none⟩) (by simp <;> omega)).trans y1; go_simp; try with_reducible rfl
      try simp only [Act.put, List.setIfInBounds_toArray, List.set_cons_zero, List.set_cons_succ]
      refine wpAnyF_take (i := 9) (oi := { dst := some 24, op := Go.Op.build 45 #[(0, Go.Operand.const (Go.Value.int Go.IntKind.u32 77))], type := 45, pos := "law.go:46", after := #[], guard := none }) (v := ?_) rfl (by kernel_rfl) (by kernel_rfl) (by kernel_rfl) (by kernel_rfl) (fun _ _ _ h => h) (Or.inl ⟨by rfl, ?_⟩) hS ?_
      rotate_left
      · intro w' hSw; have q1 := (hSw.cell (p := ⟨w.heap.size, 1, none⟩) (by simp <;> omega)).trans x1; have q2 := (hSw.cell (p := ⟨bq, off + k, none⟩) (by simp <;> omega)).trans c0; have q3 : w'.cell? ⟨w.heap.size + 1 + 1, 1, none⟩ = _ := (hSw.cell (p := ⟨w.heap.size + 2, 1, none⟩) (by simp <;> omega)).trans y1; go_simp; try with_reducible rfl
      try simp only [Act.put, List.setIfInBounds_toArray, List.set_cons_zero, List.set_cons_succ]
      refine wpAnyF_take (i := 12) (oi := { dst := some 27, op := Go.Op.fieldAddr 24 (Go.Operand.tmp 1) 1, type := 0, pos := "law.go:46", after := #[], guard := none }) (v := ?_) rfl (by kernel_rfl) (by kernel_rfl) (by kernel_rfl) (by kernel_rfl) (fun _ _ _ h => h) (Or.inl ⟨by rfl, ?_⟩) hS ?_
      rotate_left
      · intro w' hSw; have q1 := (hSw.cell (p := ⟨w.heap.size, 1, none⟩) (by simp <;> omega)).trans x1; have q2 := (hSw.cell (p := ⟨bq, off + k, none⟩) (by simp <;> omega)).trans c0; have q3 : w'.cell? ⟨w.heap.size + 1 + 1, 1, none⟩ = _ := (hSw.cell (p := ⟨w.heap.size + 2, 1, none⟩) (by simp <;> omega)).trans y1; go_simp; try with_reducible rfl
      try simp only [Act.put, List.setIfInBounds_toArray, List.set_cons_zero, List.set_cons_succ]
      refine wpAnyF_take (i := 13) (oi := { dst := some 28, op := Go.Op.load 22 (Go.Operand.tmp 27), type := 22, pos := "law.go:46", after := #[{ on := 12, ground := Go.Ground.data }], guard := none }) (v := ?_) rfl (by kernel_rfl) (by kernel_rfl) (by kernel_rfl) (by kernel_rfl) (fun _ _ _ h => h) (Or.inl ⟨by rfl, ?_⟩) hS ?_
      rotate_left
      · intro w' hSw; have q1 := (hSw.cell (p := ⟨w.heap.size, 1, none⟩) (by simp <;> omega)).trans x1; have q2 := (hSw.cell (p := ⟨bq, off + k, none⟩) (by simp <;> omega)).trans c0; have q3 : w'.cell? ⟨w.heap.size + 1 + 1, 1, none⟩ = _ := (hSw.cell (p := ⟨w.heap.size + 2, 1, none⟩) (by simp <;> omega)).trans y1; go_simp; try with_reducible rfl
      try simp only [Act.put, List.setIfInBounds_toArray, List.set_cons_zero, List.set_cons_succ]
      refine wpAnyF_take (i := 14) (oi := { dst := some 29, op := Go.Op.move (Go.Operand.tmp 4), type := 3, pos := "law.go:46", after := #[], guard := none }) (v := ?_) rfl (by kernel_rfl) (by kernel_rfl) (by kernel_rfl) (by kernel_rfl) (fun _ _ _ h => h) (Or.inl ⟨by rfl, ?_⟩) hS ?_
      rotate_left
      · intro w' hSw; have q1 := (hSw.cell (p := ⟨w.heap.size, 1, none⟩) (by simp <;> omega)).trans x1; have q2 := (hSw.cell (p := ⟨bq, off + k, none⟩) (by simp <;> omega)).trans c0; have q3 : w'.cell? ⟨w.heap.size + 1 + 1, 1, none⟩ = _ := (hSw.cell (p := ⟨w.heap.size + 2, 1, none⟩) (by simp <;> omega)).trans y1; go_simp; try with_reducible rfl
      try simp only [Act.put, List.setIfInBounds_toArray, List.set_cons_zero, List.set_cons_succ]
      refine wpAnyF_take (i := 15) (oi := { dst := some 30, op := Go.Op.indexAddr 22 (Go.Operand.tmp 28) (Go.Operand.tmp 29), type := 0, pos := "law.go:46", after := #[{ on := 13, ground := Go.Ground.data }, { on := 14, ground := Go.Ground.data }], guard := none }) (v := ?_) rfl (by kernel_rfl) (by kernel_rfl) (by kernel_rfl) (by kernel_rfl) (fun _ _ _ h => h) (Or.inl ⟨by rfl, ?_⟩) hS ?_
      rotate_left
      · intro w' hSw; have q1 := (hSw.cell (p := ⟨w.heap.size, 1, none⟩) (by simp <;> omega)).trans x1; have q2 := (hSw.cell (p := ⟨bq, off + k, none⟩) (by simp <;> omega)).trans c0; have q3 : w'.cell? ⟨w.heap.size + 1 + 1, 1, none⟩ = _ := (hSw.cell (p := ⟨w.heap.size + 2, 1, none⟩) (by simp <;> omega)).trans y1; go_simp; try with_reducible rfl
      try simp only [Act.put, List.setIfInBounds_toArray, List.set_cons_zero, List.set_cons_succ]
      refine wpAnyF_take (i := 16) (oi := { dst := some 31, op := Go.Op.load 41 (Go.Operand.tmp 30), type := 41, pos := "law.go:46", after := #[{ on := 15, ground := Go.Ground.data }], guard := none }) (v := ?_) rfl (by kernel_rfl) (by kernel_rfl) (by kernel_rfl) (by kernel_rfl) (fun _ _ _ h => h) (Or.inl ⟨by rfl, ?_⟩) hS ?_
      rotate_left
      · intro w' hSw; have q1 := (hSw.cell (p := ⟨w.heap.size, 1, none⟩) (by simp <;> omega)).trans x1; have q2 := (hSw.cell (p := ⟨bq, off + k, none⟩) (by simp <;> omega)).trans c0; have q3 : w'.cell? ⟨w.heap.size + 1 + 1, 1, none⟩ = _ := (hSw.cell (p := ⟨w.heap.size + 2, 1, none⟩) (by simp <;> omega)).trans y1; go_simp; try with_reducible rfl
      try simp only [Act.put, List.setIfInBounds_toArray, List.set_cons_zero, List.set_cons_succ]
      refine wpAnyF_take (i := 17) (oi := { dst := some 32, op := Go.Op.call { callee := Go.Callee.builtin Go.Builtin.len, args := #[Go.Operand.tmp 31], argTypes := #[41] }, type := 3, pos := "law.go:46", after := #[{ on := 16, ground := Go.Ground.data }], guard := none }) (v := ?_) rfl (by kernel_rfl) (by kernel_rfl) (by kernel_rfl) (by kernel_rfl) (fun _ _ _ h => h) (Or.inl ⟨by rfl, ?_⟩) hS ?_
      rotate_left
      · intro w' hSw; have q1 := (hSw.cell (p := ⟨w.heap.size, 1, none⟩) (by simp <;> omega)).trans x1; have q2 := (hSw.cell (p := ⟨bq, off + k, none⟩) (by simp <;> omega)).trans c0; have q3 : w'.cell? ⟨w.heap.size + 1 + 1, 1, none⟩ = _ := (hSw.cell (p := ⟨w.heap.size + 2, 1, none⟩) (by simp <;> omega)).trans y1; go_simp; try with_reducible rfl
      try simp only [Act.put, List.setIfInBounds_toArray, List.set_cons_zero, List.set_cons_succ]
      refine wpAnyF_ready (rs := [2, 10]) (by kernel_rfl) (by simp) ?_
      refine AllReadyF.cons (o := { dst := some 17, op := Go.Op.buildSlice 41 0 #[], type := 41, pos := "law.go:46", after := #[], guard := none }) rfl (by rfl) (fun K hK => ?_) ?_
      · go_simp
        refine hK.out _ _ ?_ (fun hS => ?_)
        · exact hS.alloc (by have := HP0.out.size; omega) _
        clear hK K
        try simp only [Act.put, List.setIfInBounds_toArray, List.set_cons_zero, List.set_cons_succ]
        have hE := own_empty (base := wr.heap.size) V0 (by have := HP0.out.size; omega) 45 2
        have hB := HP0.out.alloc (by have := HP0.out.size; omega) (.cells #[] 45)
        obtain ⟨V1, hV⟩ : ∃ V, V = V0.alloc (.cells #[] 45) := ⟨_, rfl⟩
        rw [← hV] at hE hB hS ⊢
        have HE := Lib.hid hE
        have HP1 := Lib.hid hB
        have hlE := (hE.lt V0.heap.size rfl).2
        clear hV hE hB
        refine wpAnyF_ready (rs := [8, 10]) (by kernel_rfl) (by simp) ?_
        refine AllReadyF.cons (o := { dst := some 23, op := Go.Op.call { callee := Go.Callee.builtin Go.Builtin.append, args := #[Go.Operand.tmp 17, Go.Operand.tmp 22], argTypes := #[41, 41] }, type := 41, pos := "law.go:46", after := #[{ on := 2, ground := Go.Ground.data }, { on := 7, ground := Go.Ground.data }], guard := none }) rfl (by rfl) (fun K hK => ?_) ?_
        · refine step_app V1 rfl (.tmp 17) (.tmp 22) et_off rfl wr.heap.size (.slice (some ⟨V0.heap.size, 0, none⟩) 0 0) 0 [] rfl HE.out R _ l.length (Off.all l) rfl (show Sl V1 R _ _ _ _ from (HOL.out.grow HP1.out).1) (Off.all_one l) (by omega) (by unfold maxLen; omega) (by have := HP1.out.size; omega) ?_
          intro A2 c2 V2 hown hg hloc
          rw [Nat.zero_add]
          refine hK.out _ _ ?_ (fun hS => ?_)
          · exact hS.grown hg (by have := HP1.out.size; omega) (fun g e => by have := (HE.out.lt g e).1; omega)
          clear hK K
          try simp only [Act.put, List.setIfInBounds_toArray, List.set_cons_zero, List.set_cons_succ]
          rw [Nat.zero_add, List.nil_append] at hown
          have hB := HP1.out.grown hg (by have := HP1.out.size; omega) (fun g e => (HE.out.lt g e).1)
          have HP2 := Lib.hid hB
          have HO1 := Lib.hid hown
          clear hown hg hloc hB
          refine wpAnyF_ready (rs := [10]) (by kernel_rfl) (by simp) ?_
          refine AllReadyF.cons (o := { dst := some 25, op := Go.Op.buildSlice 41 1 #[(0, Go.Operand.tmp 24)], type := 41, pos := "law.go:46", after := #[{ on := 9, ground := Go.Ground.data }], guard := none }) rfl (by rfl) (fun K hK => ?_) ?_
          · go_simp
            refine hK.out _ _ ?_ (fun hS => ?_)
            · exact hS.alloc (by have := HP2.out.size; omega) _
            clear hK K
            try simp only [Act.put, List.setIfInBounds_toArray, List.set_cons_zero, List.set_cons_succ]
            have hL := Blk.new V2 45 #[.int .u32 77, .int .i64 0]
            have hB := HP2.out.alloc (by have := HP2.out.size; omega) (.cells #[.int .u32 77, .int .i64 0] 45)
            have hO := own_alloc HO1.out (.cells #[.int .u32 77, .int .i64 0] 45)
            obtain ⟨V3, hV⟩ : ∃ V, V = V2.alloc (.cells #[.int .u32 77, .int .i64 0] 45) := ⟨_, rfl⟩
            rw [← hV] at hL hB hS ⊢
            rw [← hV] at hO
            have HO1 := Lib.hid hO
            clear hO
            have HL := Lib.hid hL
            have HP3 := Lib.hid hB
            clear hV hL hB
            refine wpAnyF_ready (rs := [11]) (by kernel_rfl) (by simp) ?_
            refine AllReadyF.cons (o := { dst := some 26, op := Go.Op.call { callee := Go.Callee.builtin Go.Builtin.append, args := #[Go.Operand.tmp 23, Go.Operand.tmp 25], argTypes := #[41, 41] }, type := 41, pos := "law.go:46", after := #[{ on := 8, ground := Go.Ground.data }, { on := 10, ground := Go.Ground.data }, { on := 8, ground := Go.Ground.chain }], guard := none }) rfl (by rfl) (fun K hK => ?_) ?_
            · refine step_app V3 rfl (.tmp 23) (.tmp 25) et_off rfl wr.heap.size (.slice A2 l.length c2) l.length (Off.all l) rfl HO1.out (fun _ => True) (.slice (some ⟨V2.heap.size, 0, none⟩) 1 1) 1 [.int .u32 77, .int .i64 0] rfl (Sl.blk (sz := 2) HL.out (Nat.le_refl 1) (by unfold maxLen; omega) rfl) (by simp [Value.oneCell']) (by omega) (by unfold maxLen; omega) (by have := HP3.out.size; omega) ?_
              intro A3 c3 V4 hown hg hloc
              refine hK.out _ _ ?_ (fun hS => ?_)
              · exact hS.grown hg (by have := HP3.out.size; omega) (fun g e => by have := (HO1.out.lt g e).1; omega)
              clear hK K
              try simp only [Act.put, List.setIfInBounds_toArray, List.set_cons_zero, List.set_cons_succ]
              have hB := HP3.out.grown hg (by have := HP3.out.size; omega) (fun g e => (HO1.out.lt g e).1)
              have hall : Off.all l ++ [.int .u32 77, .int .i64 0] = Off.all (l ++ [⟨77, 0⟩]) := (by simp [Off.all, Off.cells])
              rw [hall] at hown
              obtain ⟨gb, cb, hform, hgb, hgb2⟩ := World.ownsRow.form hown (by omega)
              injection hform with hA3 _ hc3
              subst hA3 hc3
              obtain ⟨_, A9, _, hv3, hnc3, hcm3, _⟩ := Sl.of_own hown
              injection hv3 with hA9 _ hc3'
              subst hc3' hA9
              have hc31 : ((l.length : Nat) : Int) ≤ (c3 : Int) := by omega
              have hc30 : (0 : Int) ≤ ((l.length : Nat) : Int) := by omega
              have HP4 := Lib.hid hB
              have HO2 := Lib.hid hown
              clear hown hg hloc hB hall
              refine wpAnyF_take (i := 18) (oi := { dst := some 33, op := Go.Op.slice 41 (Go.Operand.tmp 26) none (some (Go.Operand.tmp 32)) none, type := 41, pos := "law.go:46", after := #[{ on := 11, ground := Go.Ground.data }, { on := 17, ground := Go.Ground.data }], guard := none }) (v := ?_) rfl (by kernel_rfl) (by kernel_rfl) (by kernel_rfl) (by kernel_rfl) (fun _ _ _ h => h) (Or.inl ⟨by rfl, ?_⟩) hS ?_
              rotate_left
              · intro w' hSw; have q1 := (hSw.cell (p := ⟨w.heap.size, 1, none⟩) (by simp <;> omega)).trans x1; have q2 := (hSw.cell (p := ⟨bq, off + k, none⟩) (by simp <;> omega)).trans c0; have q3 : w'.cell? ⟨w.heap.size + 1 + 1, 1, none⟩ = _ := (hSw.cell (p := ⟨w.heap.size + 2, 1, none⟩) (by simp <;> omega)).trans y1; go_simp; try with_reducible rfl
              try simp only [Act.put, List.setIfInBounds_toArray, List.set_cons_zero, List.set_cons_succ]
              refine wpAnyF_ready (rs := [19]) (by kernel_rfl) (by simp) ?_
              refine AllReadyF.cons (o := { dst := some 34, op := Go.Op.buildSlice 22 1 #[(0, Go.Operand.tmp 33)], type := 22, pos := "law.go:46", after := #[{ on := 18, ground := Go.Ground.data }], guard := none }) rfl (by rfl) (fun K hK => ?_) ?_
              · go_simp
                refine hK.out _ _ ?_ (fun hS => ?_)
                · exact hS.alloc (by have := HP4.out.size; omega) _
                clear hK K
                try simp only [Act.put, List.setIfInBounds_toArray, List.set_cons_zero, List.set_cons_succ]
                have hN := Blk.new V4 41 #[.slice (some ⟨gb, 0, none⟩) l.length c3]
                have hB := HP4.out.alloc (by have := HP4.out.size; omega) (.cells #[.slice (some ⟨gb, 0, none⟩) l.length c3] 41)
                have hO := own_alloc HO2.out (.cells #[.slice (some ⟨gb, 0, none⟩) l.length c3] 41)
                obtain ⟨V5, hV⟩ : ∃ V, V = V4.alloc (.cells #[.slice (some ⟨gb, 0, none⟩) l.length c3] 41) := ⟨_, rfl⟩
                rw [← hV] at hN hB hS hO ⊢
                have HN1 := Lib.hid hN
                have HP5 := Lib.hid hB
                have HO3 := Lib.hid hO
                have HS2 := Lib.hid (own_grow HS.out hB)
                clear hV hN hB hO
                refine wpAnyF_ready (rs := [20]) (by kernel_rfl) (by simp) ?_
                refine AllReadyF.cons (o := { dst := some 35, op := Go.Op.call { callee := Go.Callee.builtin Go.Builtin.append, args := #[Go.Operand.tmp 16, Go.Operand.tmp 34], argTypes := #[22, 22] }, type := 22, pos := "law.go:46", after := #[{ on := 1, ground := Go.Ground.data }, { on := 19, ground := Go.Ground.data }, { on := 11, ground := Go.Ground.chain }], guard := none }) rfl (by rfl) (fun K hK => ?_) ?_
                · refine step_app V5 rfl (.tmp 16) (.tmp 34) et_offs rfl (w.heap.size + 3) (.slice A' k cap') k vs' rfl HS2.out (fun _ => True) (.slice (some ⟨V4.heap.size, 0, none⟩) 1 1) 1 [.slice (some ⟨gb, 0, none⟩) l.length c3] rfl (Sl.blk (sz := 1) HN1.out (Nat.le_refl 1) (by unfold maxLen; omega) rfl) (by simp [Value.oneCell']) (by omega) (by unfold maxLen; omega) (by have := HP5.out.size; omega) ?_
                  intro A4 c4 V6 hown hg hloc
                  refine hK.out _ _ ?_ (fun hS => ?_)
                  · exact hS.grown hg (by have := HP5.out.size; omega) (fun g e => (HS2.out.lt g e).1)
                  clear hK K
                  try simp only [Act.put, List.setIfInBounds_toArray, List.set_cons_zero, List.set_cons_succ]
                  have hfar : ∀ b, b < w.heap.size + 3 → some b ≠ (Value.slice A' k cap').ownBlock := (fun b hb e => by have := (HS2.out.lt b e.symm).1; omega)
                  have hyV := (HY2.out.grow HP5.out).grown hg (hfar _ (by omega))
                  have yc : V6.cell? ⟨w.heap.size + 1 + 1, 1, none⟩ = some (.slice A' k cap') := hyV.cell 1
                  have yf : V6.frozen? ⟨w.heap.size + 1 + 1, 1, none⟩ = false := hyV.frozen 1
                  have HYV := Lib.hid hyV
                  have HGV := Lib.hid hg
                  have HOV := Lib.hid hown
                  have HBV := HP5
                  have HWV := Lib.hid hS
                  clear hyV hg hown hloc hfar
                  refine wpAnyF_take (i := 21) (oi := { dst := some 36, op := Go.Op.fieldAddr 24 (Go.Operand.tmp 3) 1, type := 0, pos := "law.go:46", after := #[{ on := 0, ground := Go.Ground.phase }, { on := 1, ground := Go.Ground.phase }, { on := 2, ground := Go.Ground.phase }, { on := 3, ground := Go.Ground.phase }, { on := 4, ground := Go.Ground.phase }, { on := 5, ground := Go.Ground.phase }, { on := 6, ground := Go.Ground.phase }, { on := 7, ground := Go.Ground.phase }, { on := 8, ground := Go.Ground.phase }, { on := 9, ground := Go.Ground.phase }, { on := 10, ground := Go.Ground.phase }, { on := 11, ground := Go.Ground.phase }, { on := 12, ground := Go.Ground.phase }, { on := 13, ground := Go.Ground.phase }, { on := 14, ground := Go.Ground.phase }, { on := 15, ground := Go.Ground.phase }, { on := 16, ground := Go.Ground.phase }, { on := 17, ground := Go.Ground.phase }, { on := 18, ground := Go.Ground.phase }, { on := 19, ground := Go.Ground.phase }, { on := 20, ground := Go.Ground.phase }], guard := none }) (v := ?_) rfl (by kernel_rfl) (by kernel_rfl) (by kernel_rfl) (by kernel_rfl) (fun _ _ _ h => h) (Or.inl ⟨by rfl, ?_⟩) hS ?_
                  rotate_left
                  · intro w' hSw; have q1 := (hSw.cell (p := ⟨w.heap.size, 1, none⟩) (by simp <;> omega)).trans x1; have q2 := (hSw.cell (p := ⟨bq, off + k, none⟩) (by simp <;> omega)).trans c0; have q3 : w'.cell? ⟨w.heap.size + 1 + 1, 1, none⟩ = _ := (hSw.cell (p := ⟨w.heap.size + 2, 1, none⟩) (by simp <;> omega)).trans y1; go_simp; try with_reducible rfl
                  try simp only [Act.put, List.setIfInBounds_toArray, List.set_cons_zero, List.set_cons_succ]
                  refine wpAnyF_ready (rs := [22]) (by kernel_rfl) (by simp) ?_
                  refine AllReadyF.fin (o := { dst := none, op := Go.Op.store 22 (Go.Operand.tmp 36) (Go.Operand.tmp 35), type := 0, pos := "law.go:46", after := #[{ on := 21, ground := Go.Ground.data }, { on := 20, ground := Go.Ground.data }, { on := 20, ground := Go.Ground.chain }, { on := 0, ground := Go.Ground.phase }, { on := 1, ground := Go.Ground.phase }, { on := 2, ground := Go.Ground.phase }, { on := 3, ground := Go.Ground.phase }, { on := 4, ground := Go.Ground.phase }, { on := 5, ground := Go.Ground.phase }, { on := 6, ground := Go.Ground.phase }, { on := 7, ground := Go.Ground.phase }, { on := 8, ground := Go.Ground.phase }, { on := 9, ground := Go.Ground.phase }, { on := 10, ground := Go.Ground.phase }, { on := 11, ground := Go.Ground.phase }, { on := 12, ground := Go.Ground.phase }, { on := 13, ground := Go.Ground.phase }, { on := 14, ground := Go.Ground.phase }, { on := 15, ground := Go.Ground.phase }, { on := 16, ground := Go.Ground.phase }, { on := 17, ground := Go.Ground.phase }, { on := 18, ground := Go.Ground.phase }, { on := 19, ground := Go.Ground.phase }, { on := 20, ground := Go.Ground.phase }], guard := none }) rfl (by rfl) (fun K hK => ?_) ?_
                  · go_simp
                    refine hK.out _ _ ?_
                    clear hK K
                    try simp only [Act.put, List.setIfInBounds_toArray, List.set_cons_zero, List.set_cons_succ]
                    refine wpAnyF_done (by kernel_rfl) ?_ _
                    go_wp2_with fail
                    go_roundw
                    case rel =>
                      have hsn := Giv.snoc (bs := bs.take k) (l := l) HLK.out HS2.out (fun j l' hj => let ⟨b, c, h1, h2, h3⟩ := HO'.out j l' hj; ⟨b, c, h1, own_grow h2 HP5.out, h3⟩) (own_mono HO3.out (by omega)) HOL.out.2 HOV.out HGV.out
                      have htk : bs.take (k + 1) = bs.take k ++ [l] := by rw [List.take_add_one, HO.out]; rfl
                      refine ⟨k + 1, A4, c4, by omega, by go_num, ?_, ?_, ?_⟩
                      · rw [htk]
                        exact hsn.far (grownBy_setCell _ ⟨w.heap.size + 1 + 1, 1, none⟩ _) (fun b e => by simp at e; omega)
                      · exact HYV.out.set_ 1 (.slice A4 (k + 1) c4)
                      · exact (HB2.out.trans (HWV.out.mono (B' := w.heap.size + 2) (by omega))).setCell (p := ⟨w.heap.size + 1 + 1, 1, none⟩) (by simp) _
                    case measure => simp [intOf]; omega
                  exact AllReadyF.nil
                exact AllReadyF.nil
              exact AllReadyF.nil
            exact AllReadyF.nil
          exact AllReadyF.nil
        refine AllReadyF.cons (o := { dst := some 25, op := Go.Op.buildSlice 41 1 #[(0, Go.Operand.tmp 24)], type := 41, pos := "law.go:46", after := #[{ on := 9, ground := Go.Ground.data }], guard := none }) rfl (by rfl) (fun K hK => ?_) ?_
        · go_simp
          refine hK.out _ _ ?_ (fun hS => ?_)
          · exact hS.alloc (by have := HP1.out.size; omega) _
          clear hK K
          try simp only [Act.put, List.setIfInBounds_toArray, List.set_cons_zero, List.set_cons_succ]
          have hL := Blk.new V1 45 #[.int .u32 77, .int .i64 0]
          have hB := HP1.out.alloc (by have := HP1.out.size; omega) (.cells #[.int .u32 77, .int .i64 0] 45)
          have hE := own_alloc HE.out (.cells #[.int .u32 77, .int .i64 0] 45)
          obtain ⟨V2, hV⟩ : ∃ V, V = V1.alloc (.cells #[.int .u32 77, .int .i64 0] 45) := ⟨_, rfl⟩
          rw [← hV] at hL hB hS ⊢
          rw [← hV] at hE
          have HE := Lib.hid hE
          clear hE
          have HL := Lib.hid hL
          have HP2 := Lib.hid hB
          clear hV hL hB
          refine wpAnyF_ready (rs := [8]) (by kernel_rfl) (by simp) ?_
          refine AllReadyF.cons (o := { dst := some 23, op := Go.Op.call { callee := Go.Callee.builtin Go.Builtin.append, args := #[Go.Operand.tmp 17, Go.Operand.tmp 22], argTypes := #[41, 41] }, type := 41, pos := "law.go:46", after := #[{ on := 2, ground := Go.Ground.data }, { on := 7, ground := Go.Ground.data }], guard := none }) rfl (by rfl) (fun K hK => ?_) ?_
          · refine step_app V2 rfl (.tmp 17) (.tmp 22) et_off rfl wr.heap.size (.slice (some ⟨V0.heap.size, 0, none⟩) 0 0) 0 [] rfl HE.out R _ l.length (Off.all l) rfl (show Sl V2 R _ _ _ _ from (HOL.out.grow HP2.out).1) (Off.all_one l) (by omega) (by unfold maxLen; omega) (by have := HP2.out.size; omega) ?_
            intro A2 c2 V3 hown hg hloc
            rw [Nat.zero_add]
            refine hK.out _ _ ?_ (fun hS => ?_)
            · exact hS.grown hg (by have := HP2.out.size; omega) (fun g e => by have := (HE.out.lt g e).1; omega)
            clear hK K
            try simp only [Act.put, List.setIfInBounds_toArray, List.set_cons_zero, List.set_cons_succ]
            rw [Nat.zero_add, List.nil_append] at hown
            have hB := HP2.out.grown hg (by have := HP2.out.size; omega) (fun g e => (HE.out.lt g e).1)
            have HL := Lib.hid (HL.out.grown hg (by simp [Value.ownBlock]; omega))
            have HP3 := Lib.hid hB
            have HO1 := Lib.hid hown
            clear hown hg hloc hB
            refine wpAnyF_ready (rs := [11]) (by kernel_rfl) (by simp) ?_
            refine AllReadyF.cons (o := { dst := some 26, op := Go.Op.call { callee := Go.Callee.builtin Go.Builtin.append, args := #[Go.Operand.tmp 23, Go.Operand.tmp 25], argTypes := #[41, 41] }, type := 41, pos := "law.go:46", after := #[{ on := 8, ground := Go.Ground.data }, { on := 10, ground := Go.Ground.data }, { on := 8, ground := Go.Ground.chain }], guard := none }) rfl (by rfl) (fun K hK => ?_) ?_
            · refine step_app V3 rfl (.tmp 23) (.tmp 25) et_off rfl wr.heap.size (.slice A2 l.length c2) l.length (Off.all l) rfl HO1.out (fun _ => True) (.slice (some ⟨V1.heap.size, 0, none⟩) 1 1) 1 [.int .u32 77, .int .i64 0] rfl (Sl.blk (sz := 2) HL.out (Nat.le_refl 1) (by unfold maxLen; omega) rfl) (by simp [Value.oneCell']) (by omega) (by unfold maxLen; omega) (by have := HP3.out.size; omega) ?_
              intro A3 c3 V4 hown hg hloc
              refine hK.out _ _ ?_ (fun hS => ?_)
              · exact hS.grown hg (by have := HP3.out.size; omega) (fun g e => by have := (HO1.out.lt g e).1; omega)
              clear hK K
              try simp only [Act.put, List.setIfInBounds_toArray, List.set_cons_zero, List.set_cons_succ]
              have hB := HP3.out.grown hg (by have := HP3.out.size; omega) (fun g e => (HO1.out.lt g e).1)
              have hall : Off.all l ++ [.int .u32 77, .int .i64 0] = Off.all (l ++ [⟨77, 0⟩]) := (by simp [Off.all, Off.cells])
              rw [hall] at hown
              obtain ⟨gb, cb, hform, hgb, hgb2⟩ := World.ownsRow.form hown (by omega)
              injection hform with hA3 _ hc3
              subst hA3 hc3
              obtain ⟨_, A9, _, hv3, hnc3, hcm3, _⟩ := Sl.of_own hown
              injection hv3 with hA9 _ hc3'
              subst hc3' hA9
              have hc31 : ((l.length : Nat) : Int) ≤ (c3 : Int) := by omega
              have hc30 : (0 : Int) ≤ ((l.length : Nat) : Int) := by omega
              have HP4 := Lib.hid hB
              have HO2 := Lib.hid hown
              clear hown hg hloc hB hall
              refine wpAnyF_take (i := 18) (oi := { dst := some 33, op := Go.Op.slice 41 (Go.Operand.tmp 26) none (some (Go.Operand.tmp 32)) none, type := 41, pos := "law.go:46", after := #[{ on := 11, ground := Go.Ground.data }, { on := 17, ground := Go.Ground.data }], guard := none }) (v := ?_) rfl (by kernel_rfl) (by kernel_rfl) (by kernel_rfl) (by kernel_rfl) (fun _ _ _ h => h) (Or.inl ⟨by rfl, ?_⟩) hS ?_
              rotate_left
              · intro w' hSw; have q1 := (hSw.cell (p := ⟨w.heap.size, 1, none⟩) (by simp <;> omega)).trans x1; have q2 := (hSw.cell (p := ⟨bq, off + k, none⟩) (by simp <;> omega)).trans c0; have q3 : w'.cell? ⟨w.heap.size + 1 + 1, 1, none⟩ = _ := (hSw.cell (p := ⟨w.heap.size + 2, 1, none⟩) (by simp <;> omega)).trans y1; go_simp; try with_reducible rfl
              try simp only [Act.put, List.setIfInBounds_toArray, List.set_cons_zero, List.set_cons_succ]
              refine wpAnyF_ready (rs := [19]) (by kernel_rfl) (by simp) ?_
              refine AllReadyF.cons (o := { dst := some 34, op := Go.Op.buildSlice 22 1 #[(0, Go.Operand.tmp 33)], type := 22, pos := "law.go:46", after := #[{ on := 18, ground := Go.Ground.data }], guard := none }) rfl (by rfl) (fun K hK => ?_) ?_
              · go_simp
                refine hK.out _ _ ?_ (fun hS => ?_)
                · exact hS.alloc (by have := HP4.out.size; omega) _
                clear hK K
                try simp only [Act.put, List.setIfInBounds_toArray, List.set_cons_zero, List.set_cons_succ]
                have hN := Blk.new V4 41 #[.slice (some ⟨gb, 0, none⟩) l.length c3]
                have hB := HP4.out.alloc (by have := HP4.out.size; omega) (.cells #[.slice (some ⟨gb, 0, none⟩) l.length c3] 41)
                have hO := own_alloc HO2.out (.cells #[.slice (some ⟨gb, 0, none⟩) l.length c3] 41)
                obtain ⟨V5, hV⟩ : ∃ V, V = V4.alloc (.cells #[.slice (some ⟨gb, 0, none⟩) l.length c3] 41) := ⟨_, rfl⟩
                rw [← hV] at hN hB hS hO ⊢
                have HN1 := Lib.hid hN
                have HP5 := Lib.hid hB
                have HO3 := Lib.hid hO
                have HS2 := Lib.hid (own_grow HS.out hB)
                clear hV hN hB hO
                refine wpAnyF_ready (rs := [20]) (by kernel_rfl) (by simp) ?_
                refine AllReadyF.cons (o := { dst := some 35, op := Go.Op.call { callee := Go.Callee.builtin Go.Builtin.append, args := #[Go.Operand.tmp 16, Go.Operand.tmp 34], argTypes := #[22, 22] }, type := 22, pos := "law.go:46", after := #[{ on := 1, ground := Go.Ground.data }, { on := 19, ground := Go.Ground.data }, { on := 11, ground := Go.Ground.chain }], guard := none }) rfl (by rfl) (fun K hK => ?_) ?_
                · refine step_app V5 rfl (.tmp 16) (.tmp 34) et_offs rfl (w.heap.size + 3) (.slice A' k cap') k vs' rfl HS2.out (fun _ => True) (.slice (some ⟨V4.heap.size, 0, none⟩) 1 1) 1 [.slice (some ⟨gb, 0, none⟩) l.length c3] rfl (Sl.blk (sz := 1) HN1.out (Nat.le_refl 1) (by unfold maxLen; omega) rfl) (by simp [Value.oneCell']) (by omega) (by unfold maxLen; omega) (by have := HP5.out.size; omega) ?_
                  intro A4 c4 V6 hown hg hloc
                  refine hK.out _ _ ?_ (fun hS => ?_)
                  · exact hS.grown hg (by have := HP5.out.size; omega) (fun g e => (HS2.out.lt g e).1)
                  clear hK K
                  try simp only [Act.put, List.setIfInBounds_toArray, List.set_cons_zero, List.set_cons_succ]
                  have hfar : ∀ b, b < w.heap.size + 3 → some b ≠ (Value.slice A' k cap').ownBlock := (fun b hb e => by have := (HS2.out.lt b e.symm).1; omega)
                  have hyV := (HY2.out.grow HP5.out).grown hg (hfar _ (by omega))
                  have yc : V6.cell? ⟨w.heap.size + 1 + 1, 1, none⟩ = some (.slice A' k cap') := hyV.cell 1
                  have yf : V6.frozen? ⟨w.heap.size + 1 + 1, 1, none⟩ = false := hyV.frozen 1
                  have HYV := Lib.hid hyV
                  have HGV := Lib.hid hg
                  have HOV := Lib.hid hown
                  have HBV := HP5
                  have HWV := Lib.hid hS
                  clear hyV hg hown hloc hfar
                  refine wpAnyF_take (i := 21) (oi := { dst := some 36, op := Go.Op.fieldAddr 24 (Go.Operand.tmp 3) 1, type := 0, pos := "law.go:46", after := #[{ on := 0, ground := Go.Ground.phase }, { on := 1, ground := Go.Ground.phase }, { on := 2, ground := Go.Ground.phase }, { on := 3, ground := Go.Ground.phase }, { on := 4, ground := Go.Ground.phase }, { on := 5, ground := Go.Ground.phase }, { on := 6, ground := Go.Ground.phase }, { on := 7, ground := Go.Ground.phase }, { on := 8, ground := Go.Ground.phase }, { on := 9, ground := Go.Ground.phase }, { on := 10, ground := Go.Ground.phase }, { on := 11, ground := Go.Ground.phase }, { on := 12, ground := Go.Ground.phase }, { on := 13, ground := Go.Ground.phase }, { on := 14, ground := Go.Ground.phase }, { on := 15, ground := Go.Ground.phase }, { on := 16, ground := Go.Ground.phase }, { on := 17, ground := Go.Ground.phase }, { on := 18, ground := Go.Ground.phase }, { on := 19, ground := Go.Ground.phase }, { on := 20, ground := Go.Ground.phase }], guard := none }) (v := ?_) rfl (by kernel_rfl) (by kernel_rfl) (by kernel_rfl) (by kernel_rfl) (fun _ _ _ h => h) (Or.inl ⟨by rfl, ?_⟩) hS ?_
                  rotate_left
                  · intro w' hSw; have q1 := (hSw.cell (p := ⟨w.heap.size, 1, none⟩) (by simp <;> omega)).trans x1; have q2 := (hSw.cell (p := ⟨bq, off + k, none⟩) (by simp <;> omega)).trans c0; have q3 : w'.cell? ⟨w.heap.size + 1 + 1, 1, none⟩ = _ := (hSw.cell (p := ⟨w.heap.size + 2, 1, none⟩) (by simp <;> omega)).trans y1; go_simp; try with_reducible rfl
                  try simp only [Act.put, List.setIfInBounds_toArray, List.set_cons_zero, List.set_cons_succ]
                  refine wpAnyF_ready (rs := [22]) (by kernel_rfl) (by simp) ?_
                  refine AllReadyF.fin (o := { dst := none, op := Go.Op.store 22 (Go.Operand.tmp 36) (Go.Operand.tmp 35), type := 0, pos := "law.go:46", after := #[{ on := 21, ground := Go.Ground.data }, { on := 20, ground := Go.Ground.data }, { on := 20, ground := Go.Ground.chain }, { on := 0, ground := Go.Ground.phase }, { on := 1, ground := Go.Ground.phase }, { on := 2, ground := Go.Ground.phase }, { on := 3, ground := Go.Ground.phase }, { on := 4, ground := Go.Ground.phase }, { on := 5, ground := Go.Ground.phase }, { on := 6, ground := Go.Ground.phase }, { on := 7, ground := Go.Ground.phase }, { on := 8, ground := Go.Ground.phase }, { on := 9, ground := Go.Ground.phase }, { on := 10, ground := Go.Ground.phase }, { on := 11, ground := Go.Ground.phase }, { on := 12, ground := Go.Ground.phase }, { on := 13, ground := Go.Ground.phase }, { on := 14, ground := Go.Ground.phase }, { on := 15, ground := Go.Ground.phase }, { on := 16, ground := Go.Ground.phase }, { on := 17, ground := Go.Ground.phase }, { on := 18, ground := Go.Ground.phase }, { on := 19, ground := Go.Ground.phase }, { on := 20, ground := Go.Ground.phase }], guard := none }) rfl (by rfl) (fun K hK => ?_) ?_
                  · go_simp
                    refine hK.out _ _ ?_
                    clear hK K
                    try simp only [Act.put, List.setIfInBounds_toArray, List.set_cons_zero, List.set_cons_succ]
                    refine wpAnyF_done (by kernel_rfl) ?_ _
                    go_wp2_with fail
                    go_roundw
                    case rel =>
                      have hsn := Giv.snoc (bs := bs.take k) (l := l) HLK.out HS2.out (fun j l' hj => let ⟨b, c, h1, h2, h3⟩ := HO'.out j l' hj; ⟨b, c, h1, own_grow h2 HP5.out, h3⟩) (own_mono HO3.out (by omega)) HOL.out.2 HOV.out HGV.out
                      have htk : bs.take (k + 1) = bs.take k ++ [l] := by rw [List.take_add_one, HO.out]; rfl
                      refine ⟨k + 1, A4, c4, by omega, by go_num, ?_, ?_, ?_⟩
                      · rw [htk]
                        exact hsn.far (grownBy_setCell _ ⟨w.heap.size + 1 + 1, 1, none⟩ _) (fun b e => by simp at e; omega)
                      · exact HYV.out.set_ 1 (.slice A4 (k + 1) c4)
                      · exact (HB2.out.trans (HWV.out.mono (B' := w.heap.size + 2) (by omega))).setCell (p := ⟨w.heap.size + 1 + 1, 1, none⟩) (by simp) _
                    case measure => simp [intOf]; omega
                  exact AllReadyF.nil
                exact AllReadyF.nil
              exact AllReadyF.nil
            exact AllReadyF.nil
          exact AllReadyF.nil
        exact AllReadyF.nil
      refine AllReadyF.cons (o := { dst := some 25, op := Go.Op.buildSlice 41 1 #[(0, Go.Operand.tmp 24)], type := 41, pos := "law.go:46", after := #[{ on := 9, ground := Go.Ground.data }], guard := none }) rfl (by rfl) (fun K hK => ?_) ?_
      · go_simp
        refine hK.out _ _ ?_ (fun hS => ?_)
        · exact hS.alloc (by have := HP0.out.size; omega) _
        clear hK K
        try simp only [Act.put, List.setIfInBounds_toArray, List.set_cons_zero, List.set_cons_succ]
        have hL := Blk.new V0 45 #[.int .u32 77, .int .i64 0]
        have hB := HP0.out.alloc (by have := HP0.out.size; omega) (.cells #[.int .u32 77, .int .i64 0] 45)
        obtain ⟨V1, hV⟩ : ∃ V, V = V0.alloc (.cells #[.int .u32 77, .int .i64 0] 45) := ⟨_, rfl⟩
        rw [← hV] at hL hB hS ⊢
        have HL := Lib.hid hL
        have HP1 := Lib.hid hB
        clear hV hL hB
        refine wpAnyF_ready (rs := [2]) (by kernel_rfl) (by simp) ?_
        refine AllReadyF.cons (o := { dst := some 17, op := Go.Op.buildSlice 41 0 #[], type := 41, pos := "law.go:46", after := #[], guard := none }) rfl (by rfl) (fun K hK => ?_) ?_
        · go_simp
          refine hK.out _ _ ?_ (fun hS => ?_)
          · exact hS.alloc (by have := HP1.out.size; omega) _
          clear hK K
          try simp only [Act.put, List.setIfInBounds_toArray, List.set_cons_zero, List.set_cons_succ]
          have hE := own_empty (base := wr.heap.size) V1 (by have := HP1.out.size; omega) 45 2
          have hB := HP1.out.alloc (by have := HP1.out.size; omega) (.cells #[] 45)
          have hL := HL.out.alloc (.cells #[] 45)
          have hne : V0.heap.size < V1.heap.size := HL.out.lt
          obtain ⟨V2, hV⟩ : ∃ V, V = V1.alloc (.cells #[] 45) := ⟨_, rfl⟩
          rw [← hV] at hE hB hS ⊢
          rw [← hV] at hL
          have HL := Lib.hid hL
          clear hL
          have HE := Lib.hid hE
          have HP2 := Lib.hid hB
          have hlE := (hE.lt V1.heap.size rfl).2
          clear hV hE hB
          refine wpAnyF_ready (rs := [8]) (by kernel_rfl) (by simp) ?_
          refine AllReadyF.cons (o := { dst := some 23, op := Go.Op.call { callee := Go.Callee.builtin Go.Builtin.append, args := #[Go.Operand.tmp 17, Go.Operand.tmp 22], argTypes := #[41, 41] }, type := 41, pos := "law.go:46", after := #[{ on := 2, ground := Go.Ground.data }, { on := 7, ground := Go.Ground.data }], guard := none }) rfl (by rfl) (fun K hK => ?_) ?_
          · refine step_app V2 rfl (.tmp 17) (.tmp 22) et_off rfl wr.heap.size (.slice (some ⟨V1.heap.size, 0, none⟩) 0 0) 0 [] rfl HE.out R _ l.length (Off.all l) rfl (show Sl V2 R _ _ _ _ from (HOL.out.grow HP2.out).1) (Off.all_one l) (by omega) (by unfold maxLen; omega) (by have := HP2.out.size; omega) ?_
            intro A2 c2 V3 hown hg hloc
            rw [Nat.zero_add]
            refine hK.out _ _ ?_ (fun hS => ?_)
            · exact hS.grown hg (by have := HP2.out.size; omega) (fun g e => by have := (HE.out.lt g e).1; omega)
            clear hK K
            try simp only [Act.put, List.setIfInBounds_toArray, List.set_cons_zero, List.set_cons_succ]
            rw [Nat.zero_add, List.nil_append] at hown
            have hB := HP2.out.grown hg (by have := HP2.out.size; omega) (fun g e => (HE.out.lt g e).1)
            have HL := Lib.hid (HL.out.grown hg (by simp [Value.ownBlock]; omega))
            have HP3 := Lib.hid hB
            have HO1 := Lib.hid hown
            clear hown hg hloc hB
            refine wpAnyF_ready (rs := [11]) (by kernel_rfl) (by simp) ?_
            refine AllReadyF.cons (o := { dst := some 26, op := Go.Op.call { callee := Go.Callee.builtin Go.Builtin.append, args := #[Go.Operand.tmp 23, Go.Operand.tmp 25], argTypes := #[41, 41] }, type := 41, pos := "law.go:46", after := #[{ on := 8, ground := Go.Ground.data }, { on := 10, ground := Go.Ground.data }, { on := 8, ground := Go.Ground.chain }], guard := none }) rfl (by rfl) (fun K hK => ?_) ?_
            · refine step_app V3 rfl (.tmp 23) (.tmp 25) et_off rfl wr.heap.size (.slice A2 l.length c2) l.length (Off.all l) rfl HO1.out (fun _ => True) (.slice (some ⟨V0.heap.size, 0, none⟩) 1 1) 1 [.int .u32 77, .int .i64 0] rfl (Sl.blk (sz := 2) HL.out (Nat.le_refl 1) (by unfold maxLen; omega) rfl) (by simp [Value.oneCell']) (by omega) (by unfold maxLen; omega) (by have := HP3.out.size; omega) ?_
              intro A3 c3 V4 hown hg hloc
              refine hK.out _ _ ?_ (fun hS => ?_)
              · exact hS.grown hg (by have := HP3.out.size; omega) (fun g e => by have := (HO1.out.lt g e).1; omega)
              clear hK K
              try simp only [Act.put, List.setIfInBounds_toArray, List.set_cons_zero, List.set_cons_succ]
              have hB := HP3.out.grown hg (by have := HP3.out.size; omega) (fun g e => (HO1.out.lt g e).1)
              have hall : Off.all l ++ [.int .u32 77, .int .i64 0] = Off.all (l ++ [⟨77, 0⟩]) := (by simp [Off.all, Off.cells])
              rw [hall] at hown
              obtain ⟨gb, cb, hform, hgb, hgb2⟩ := World.ownsRow.form hown (by omega)
              injection hform with hA3 _ hc3
              subst hA3 hc3
              obtain ⟨_, A9, _, hv3, hnc3, hcm3, _⟩ := Sl.of_own hown
              injection hv3 with hA9 _ hc3'
              subst hc3' hA9
              have hc31 : ((l.length : Nat) : Int) ≤ (c3 : Int) := by omega
              have hc30 : (0 : Int) ≤ ((l.length : Nat) : Int) := by omega
              have HP4 := Lib.hid hB
              have HO2 := Lib.hid hown
              clear hown hg hloc hB hall
              refine wpAnyF_take (i := 18) (oi := { dst := some 33, op := Go.Op.slice 41 (Go.Operand.tmp 26) none (some (Go.Operand.tmp 32)) none, type := 41, pos := "law.go:46", after := #[{ on := 11, ground := Go.Ground.data }, { on := 17, ground := Go.Ground.data }], guard := none }) (v := ?_) rfl (by kernel_rfl) (by kernel_rfl) (by kernel_rfl) (by kernel_rfl) (fun _ _ _ h => h) (Or.inl ⟨by rfl, ?_⟩) hS ?_
              rotate_left
              · intro w' hSw; have q1 := (hSw.cell (p := ⟨w.heap.size, 1, none⟩) (by simp <;> omega)).trans x1; have q2 := (hSw.cell (p := ⟨bq, off + k, none⟩) (by simp <;> omega)).trans c0; have q3 : w'.cell? ⟨w.heap.size + 1 + 1, 1, none⟩ = _ := (hSw.cell (p := ⟨w.heap.size + 2, 1, none⟩) (by simp <;> omega)).trans y1; go_simp; try with_reducible rfl
              try simp only [Act.put, List.setIfInBounds_toArray, List.set_cons_zero, List.set_cons_succ]
              refine wpAnyF_ready (rs := [19]) (by kernel_rfl) (by simp) ?_
              refine AllReadyF.cons (o := { dst := some 34, op := Go.Op.buildSlice 22 1 #[(0, Go.Operand.tmp 33)], type := 22, pos := "law.go:46", after := #[{ on := 18, ground := Go.Ground.data }], guard := none }) rfl (by rfl) (fun K hK => ?_) ?_
              · go_simp
                refine hK.out _ _ ?_ (fun hS => ?_)
                · exact hS.alloc (by have := HP4.out.size; omega) _
                clear hK K
                try simp only [Act.put, List.setIfInBounds_toArray, List.set_cons_zero, List.set_cons_succ]
                have hN := Blk.new V4 41 #[.slice (some ⟨gb, 0, none⟩) l.length c3]
                have hB := HP4.out.alloc (by have := HP4.out.size; omega) (.cells #[.slice (some ⟨gb, 0, none⟩) l.length c3] 41)
                have hO := own_alloc HO2.out (.cells #[.slice (some ⟨gb, 0, none⟩) l.length c3] 41)
                obtain ⟨V5, hV⟩ : ∃ V, V = V4.alloc (.cells #[.slice (some ⟨gb, 0, none⟩) l.length c3] 41) := ⟨_, rfl⟩
                rw [← hV] at hN hB hS hO ⊢
                have HN1 := Lib.hid hN
                have HP5 := Lib.hid hB
                have HO3 := Lib.hid hO
                have HS2 := Lib.hid (own_grow HS.out hB)
                clear hV hN hB hO
                refine wpAnyF_ready (rs := [20]) (by kernel_rfl) (by simp) ?_
                refine AllReadyF.cons (o := { dst := some 35, op := Go.Op.call { callee := Go.Callee.builtin Go.Builtin.append, args := #[Go.Operand.tmp 16, Go.Operand.tmp 34], argTypes := #[22, 22] }, type := 22, pos := "law.go:46", after := #[{ on := 1, ground := Go.Ground.data }, { on := 19, ground := Go.Ground.data }, { on := 11, ground := Go.Ground.chain }], guard := none }) rfl (by rfl) (fun K hK => ?_) ?_
                · refine step_app V5 rfl (.tmp 16) (.tmp 34) et_offs rfl (w.heap.size + 3) (.slice A' k cap') k vs' rfl HS2.out (fun _ => True) (.slice (some ⟨V4.heap.size, 0, none⟩) 1 1) 1 [.slice (some ⟨gb, 0, none⟩) l.length c3] rfl (Sl.blk (sz := 1) HN1.out (Nat.le_refl 1) (by unfold maxLen; omega) rfl) (by simp [Value.oneCell']) (by omega) (by unfold maxLen; omega) (by have := HP5.out.size; omega) ?_
                  intro A4 c4 V6 hown hg hloc
                  refine hK.out _ _ ?_ (fun hS => ?_)
                  · exact hS.grown hg (by have := HP5.out.size; omega) (fun g e => (HS2.out.lt g e).1)
                  clear hK K
                  try simp only [Act.put, List.setIfInBounds_toArray, List.set_cons_zero, List.set_cons_succ]
                  have hfar : ∀ b, b < w.heap.size + 3 → some b ≠ (Value.slice A' k cap').ownBlock := (fun b hb e => by have := (HS2.out.lt b e.symm).1; omega)
                  have hyV := (HY2.out.grow HP5.out).grown hg (hfar _ (by omega))
                  have yc : V6.cell? ⟨w.heap.size + 1 + 1, 1, none⟩ = some (.slice A' k cap') := hyV.cell 1
                  have yf : V6.frozen? ⟨w.heap.size + 1 + 1, 1, none⟩ = false := hyV.frozen 1
                  have HYV := Lib.hid hyV
                  have HGV := Lib.hid hg
                  have HOV := Lib.hid hown
                  have HBV := HP5
                  have HWV := Lib.hid hS
                  clear hyV hg hown hloc hfar
                  refine wpAnyF_take (i := 21) (oi := { dst := some 36, op := Go.Op.fieldAddr 24 (Go.Operand.tmp 3) 1, type := 0, pos := "law.go:46", after := #[{ on := 0, ground := Go.Ground.phase }, { on := 1, ground := Go.Ground.phase }, { on := 2, ground := Go.Ground.phase }, { on := 3, ground := Go.Ground.phase }, { on := 4, ground := Go.Ground.phase }, { on := 5, ground := Go.Ground.phase }, { on := 6, ground := Go.Ground.phase }, { on := 7, ground := Go.Ground.phase }, { on := 8, ground := Go.Ground.phase }, { on := 9, ground := Go.Ground.phase }, { on := 10, ground := Go.Ground.phase }, { on := 11, ground := Go.Ground.phase }, { on := 12, ground := Go.Ground.phase }, { on := 13, ground := Go.Ground.phase }, { on := 14, ground := Go.Ground.phase }, { on := 15, ground := Go.Ground.phase }, { on := 16, ground := Go.Ground.phase }, { on := 17, ground := Go.Ground.phase }, { on := 18, ground := Go.Ground.phase }, { on := 19, ground := Go.Ground.phase }, { on := 20, ground := Go.Ground.phase }], guard := none }) (v := ?_) rfl (by kernel_rfl) (by kernel_rfl) (by kernel_rfl) (by kernel_rfl) (fun _ _ _ h => h) (Or.inl ⟨by rfl, ?_⟩) hS ?_
                  rotate_left
                  · intro w' hSw; have q1 := (hSw.cell (p := ⟨w.heap.size, 1, none⟩) (by simp <;> omega)).trans x1; have q2 := (hSw.cell (p := ⟨bq, off + k, none⟩) (by simp <;> omega)).trans c0; have q3 : w'.cell? ⟨w.heap.size + 1 + 1, 1, none⟩ = _ := (hSw.cell (p := ⟨w.heap.size + 2, 1, none⟩) (by simp <;> omega)).trans y1; go_simp; try with_reducible rfl
                  try simp only [Act.put, List.setIfInBounds_toArray, List.set_cons_zero, List.set_cons_succ]
                  refine wpAnyF_ready (rs := [22]) (by kernel_rfl) (by simp) ?_
                  refine AllReadyF.fin (o := { dst := none, op := Go.Op.store 22 (Go.Operand.tmp 36) (Go.Operand.tmp 35), type := 0, pos := "law.go:46", after := #[{ on := 21, ground := Go.Ground.data }, { on := 20, ground := Go.Ground.data }, { on := 20, ground := Go.Ground.chain }, { on := 0, ground := Go.Ground.phase }, { on := 1, ground := Go.Ground.phase }, { on := 2, ground := Go.Ground.phase }, { on := 3, ground := Go.Ground.phase }, { on := 4, ground := Go.Ground.phase }, { on := 5, ground := Go.Ground.phase }, { on := 6, ground := Go.Ground.phase }, { on := 7, ground := Go.Ground.phase }, { on := 8, ground := Go.Ground.phase }, { on := 9, ground := Go.Ground.phase }, { on := 10, ground := Go.Ground.phase }, { on := 11, ground := Go.Ground.phase }, { on := 12, ground := Go.Ground.phase }, { on := 13, ground := Go.Ground.phase }, { on := 14, ground := Go.Ground.phase }, { on := 15, ground := Go.Ground.phase }, { on := 16, ground := Go.Ground.phase }, { on := 17, ground := Go.Ground.phase }, { on := 18, ground := Go.Ground.phase }, { on := 19, ground := Go.Ground.phase }, { on := 20, ground := Go.Ground.phase }], guard := none }) rfl (by rfl) (fun K hK => ?_) ?_
                  · go_simp
                    refine hK.out _ _ ?_
                    clear hK K
                    try simp only [Act.put, List.setIfInBounds_toArray, List.set_cons_zero, List.set_cons_succ]
                    refine wpAnyF_done (by kernel_rfl) ?_ _
                    go_wp2_with fail
                    go_roundw
                    case rel =>
                      have hsn := Giv.snoc (bs := bs.take k) (l := l) HLK.out HS2.out (fun j l' hj => let ⟨b, c, h1, h2, h3⟩ := HO'.out j l' hj; ⟨b, c, h1, own_grow h2 HP5.out, h3⟩) (own_mono HO3.out (by omega)) HOL.out.2 HOV.out HGV.out
                      have htk : bs.take (k + 1) = bs.take k ++ [l] := by rw [List.take_add_one, HO.out]; rfl
                      refine ⟨k + 1, A4, c4, by omega, by go_num, ?_, ?_, ?_⟩
                      · rw [htk]
                        exact hsn.far (grownBy_setCell _ ⟨w.heap.size + 1 + 1, 1, none⟩ _) (fun b e => by simp at e; omega)
                      · exact HYV.out.set_ 1 (.slice A4 (k + 1) c4)
                      · exact (HB2.out.trans (HWV.out.mono (B' := w.heap.size + 2) (by omega))).setCell (p := ⟨w.heap.size + 1 + 1, 1, none⟩) (by simp) _
                    case measure => simp [intOf]; omega
                  exact AllReadyF.nil
                exact AllReadyF.nil
              exact AllReadyF.nil
            exact AllReadyF.nil
          exact AllReadyF.nil
        exact AllReadyF.nil
      exact AllReadyF.nil
    · obtain rfl : k = bs.length := by omega
      rw [List.take_length] at HGV
      have hrr := HR.out.below hb (by omega)
      have r0 : wr.cell? ⟨w.heap.size + 1, 0, none⟩ = some (.int .i64 0) := hrr.cell 0
      have r1 : wr.cell? ⟨w.heap.size + 1, 1, none⟩ = some (.slice none 0 0) := hrr.cell 1
      have rf := hrr.frozen
      have hfin := ((hrr.set_ 0 (.int .i64 n)).set_ 1 (.slice A' bs.length cap'))
      have q0 := hfin.cell 0
      have q1 := hfin.cell 1
      simp at q0 q1
      clear hx hy hb hbw hrr hfin hgv
      go_wp2_with fail
      refine bodyPost_ret (v := .agg #[.int .i64 n, .slice A' bs.length cap']) (by simp [results, Try.results15, go_sem, q0, q1]) rfl ⟨_, _, rfl, ?_, ?_⟩
      · exact ((HGV.out.far (grownBy_setCell _ ⟨w.heap.size + 1, 0, none⟩ _) (fun b e => by simp at e; omega)).far (grownBy_setCell _ ⟨w.heap.size + 1, 1, none⟩ _) (fun b e => by simp at e; omega)).mono (by omega)
      · exact (HBW2.out.setCell (p := ⟨w.heap.size + 1, 0, none⟩) (by simp) _).setCell (p := ⟨w.heap.size + 1, 1, none⟩) (by simp) _
end Go.Proofs.Ytcigobiolbojhaa.Vb

/- A law's statement out of its walk: what stands below is read as it was; an instance, opened. -/
namespace Go.Proofs.Ytcigobiolbojhaa.Vb
open Go.RowKit Go.WideShapes Go.ChangeShapes Go.ChangeAt Go.Joins Go.Deep

section
variable {H : Type} {enc : TypeId × Value → H} {P : Program} {w w' : World} {T : TypeId → Prop}
theorem sameAt_of {p : MemPlace} (hb : Below w.heap.size w w') (hp : p.block < w.heap.size) : w.sameAt w' p := by
  cases p with
  | cell b off => exact hb.cell (p := ⟨b, off, none⟩) hp
  | map b => exact hb.block b hp
theorem trodAll_stays (K : Kids P T) (hz : ∀ t e, T t → P.underlying t = some (.slice e) → 0 < P.cellsOf e) {base : Nat} {sp' : Nat → Bool} (hb : Below w.heap.size w w') :
    ∀ {ts : List TypeId} {vs : List Value} {ds : List (DataW H)} {ps : List MemPlace}, (∀ t ∈ ts, T t) → DataW.TrodAll enc P w base (fun _ => true) true ts vs ds ps → (∀ p ∈ ps, p.block < w.heap.size) → (∀ p ∈ ps, sp' p.block = true) →
      DataW.TrodAll enc P w' base sp' true ts vs ds ps
  | [], [], [], _, _, h, _, _ => h
  | _ :: _, _ :: _, _ :: _, _, hT, ⟨p, q, ⟨fuel, h1⟩, h2, e⟩, hl, hs => by
    subst e
    exact ⟨p, q, ⟨fuel, DataW.trod_stays K (fun h1 h2 => hz _ _ h1 h2) (fun h => by cases h) (hT _ (List.mem_cons.2 (Or.inl rfl))) h1 (fun x hx => sameAt_of hb (hl x (List.mem_append_left _ hx))) (fun x hx => hs x (List.mem_append_left _ hx))⟩,
      trodAll_stays K hz hb (fun t ht => hT t (List.mem_cons.2 (Or.inr ht))) h2 (fun x hx => hl x (List.mem_append_right _ hx)) (fun x hx => hs x (List.mem_append_right _ hx)), rfl⟩

/-- the law's last step: true is told, and all that stood stands -/
theorem post_law {f : Func} {s : ChangeSpec} {apart fresh handsOn again : Bool} {W W' : World} {args : Array Value} {ds gs : List (DataW H)} {before : List MemPlace} {tb : TypeId}
    (K : Kids P T) (hz : ∀ t e, T t → P.underlying t = some (.slice e) → 0 < P.cellsOf e) (hT : ∀ t ∈ f.params.toList, T t) (hvs : s.vars = []) (hbool : P.underlying tb = some .bool) (hrt : f.resultTypes = #[tb])
    (hW : DataW.Whole enc P f.params.toList s.vars apart W args.toList ds gs before)
    (hfn : s.fn H (ds ++ gs) = { results := [.lit (.bool true)], args := ds }) (hb : Below W.heap.size W W') : s.post enc P f apart fresh handsOn again W args (.bool true) W' := by
  have hlt : ∀ p ∈ before, p.block < W.heap.size := fun p hp => hW.lt p hp
  have hold : ∀ p ∈ before, (fun b => decide (b < W.heap.size)) p.block = true := fun p hp => by simpa using hlt p hp
  have hW0 := hW
  obtain ⟨p, q, hA, hV, hps, hz0, hn0⟩ := hW0
  rw [hvs] at hV
  obtain ⟨rfl, rfl⟩ := trodVars_none hV
  simp only [List.append_nil] at hps
  subst hps
  have hres : ∀ (b : Nat) (sp : Nat → Bool) (hd : Bool), DataW.TrodAll enc P W' b sp hd f.resultTypes.toList ((Value.bool true).resultList f.resultTypes.size) (s.fn H (ds ++ [])).results [] := fun b sp hd => by
    rw [hfn, hrt]
    exact trodAll_cons_mk (shut_bool hbool true) trodAll_mk0
  have hargs : ∀ sp : Nat → Bool, (∀ p ∈ before, sp p.block = true) → DataW.TrodAll enc P W' 0 sp true f.params.toList args.toList (s.fn H (ds ++ [])).args before := fun sp hsp => by
    rw [hfn]
    exact trodAll_stays K hz hb hT hA hlt hsp
  have hvars : ∀ sp : Nat → Bool, DataW.TrodVars enc P W' sp s.vars (s.fn H (ds ++ [])).vars [] := fun sp => by
    rw [hfn, hvs]
    rfl
  refine ⟨ds, [], before, [], before, [], hW, hres _ _ _, hargs _ hold, hvars _, World.keptBut_mono (fun p hp => ⟨hp, ?_⟩) (hb.frame (· ∈ before)), fun _ => ?_⟩
  · simpa using hp
  · refine ⟨ok_one hrt rfl (okWide_bool_mk hbool _), _, _, ([] ++ before) ++ [], ⟨[] ++ before, [], trodAll_append (hargs _ (fun _ _ => rfl)) (hres _ _ _), hvars _, rfl, ?_, ?_⟩, ?_⟩
    · intro b off hp
      have hin : MemPlace.cell b off ∈ before := by simpa using hp
      rw [hb.frozen (hlt _ hin)]
      exact hz0 b off hin
    · intro ha
      simpa using hn0 ha
    · intro p hp _
      simpa using hp
end

section
variable {H : Type} {enc : TypeId × Value → H} {P : Program} {w : World} {base : Nat} {held : Bool}
theorem bd_i64 {n : Int} (h : (Lit.int .i64 n).wf = true) : -9223372036854775808 ≤ n ∧ n ≤ 9223372036854775807 := by
  simpa [Lit.wf, IntKind.min, IntKind.max, IntKind.signed, IntKind.bits] using h
theorem bd_u32 {n : Int} (h : (Lit.int .u32 n).wf = true) : 0 ≤ n ∧ n ≤ 4294967295 := by
  simpa [Lit.wf, IntKind.min, IntKind.max, IntKind.signed, IntKind.bits] using h
theorem addr_of_cell {a : Addr} {v : Value} (h : w.cell? (a.add 0) = some v) : ∃ b off, a = ⟨b, off, none⟩ := by
  obtain ⟨b, off, spot⟩ := a
  have hspot : spot = none := by simpa [Addr.add] using World.cell?_spot h
  exact ⟨b, off, by rw [hspot]⟩
theorem add_lit' (b off k : Nat) : (⟨b, off, none⟩ : Addr).add k = ⟨b, off + k, none⟩ := Addr.add_lit b off k

/-- offers that came in -/
theorem open_offs {t e : TypeId} {f0 f1 : Field} (ht : P.underlying t = some (.slice e)) (he : P.underlying e = some (.struct #[f0, f1])) (h0 : P.underlying f0.type = some (.int .u32)) (h1 : P.underlying f1.type = some (.int .i64))
    (o0 : f0.offset = 0) (o1 : f1.offset = 1) (s0 : P.cellsOf f0.type = 1) (s1 : P.cellsOf f1.type = 1) (hC : P.cellsOf e = 2) {fuel : Nat} {v : Value} {x : DataW H × List MemPlace}
    (h : DataW.trod enc P w base (fun _ => true) held fuel t [v] = some x) : ∃ l, Offs w (fun _ => True) v l := by
  rcases open_slice ht h with ⟨hcs, _⟩ | ⟨a, len, cap, m, n, D, Pl, hcs, _, hl, hm, hmm, _, hi⟩
  · obtain rfl : v = .slice none 0 0 := by simpa using hcs
    exact ⟨[], ⟨rfl, none, 0, rfl, Nat.le_refl _, Nat.zero_le _, fun h => absurd h (by simp)⟩, fun o ho => by cases ho⟩
  · obtain rfl : v = .slice (some a) len cap := by simpa using hcs
    simp only [if_true] at hmm
    have hmm' := hmm.symm
    subst hmm'
    have each : ∀ i, i < len → ∃ o : Off, o.wf ∧ w.cell? (a.add (i * 2)) = some (.int .u32 o.g) ∧ w.cell? (a.add (i * 2 + 1)) = some (.int .i64 o.c) := by
      intro i hlt
      obtain ⟨cs', hc, ht'⟩ := hi i (by omega)
      rw [hC] at hc
      obtain ⟨xs, n', _, _, _, _, hg⟩ := DataW.trod_struct he ht'
      obtain ⟨_, hcl, hat⟩ := World.cells?_some hc
      have g0 := hg 0 f0 rfl
      have g1 := hg 1 f1 rfl
      rw [o0, s0] at g0
      rw [o1, s1] at g1
      match cs', hcl with
      | [c0, c1], _ =>
        obtain ⟨y0, hy0⟩ : ∃ y, xs[0]? = some y := by
          cases hx : xs[0]? with
          | some y => exact ⟨y, rfl⟩
          | none => have : xs.length = 2 := by assumption
                    rw [List.getElem?_eq_none_iff] at hx; omega
        obtain ⟨y1, hy1⟩ : ∃ y, xs[1]? = some y := by
          cases hx : xs[1]? with
          | some y => exact ⟨y, rfl⟩
          | none => have : xs.length = 2 := by assumption
                    rw [List.getElem?_eq_none_iff] at hx; omega
        rw [hy0] at g0
        rw [hy1] at g1
        simp at g0 g1
        obtain ⟨m0, e0, _, w0⟩ := DataW.trod_int h0 g0
        obtain ⟨m1, e1, _, w1⟩ := DataW.trod_int h1 g1
        simp at e0 e1
        subst e0 e1
        obtain ⟨b0, b1⟩ := bd_u32 w0
        obtain ⟨g, rfl⟩ := Int.eq_ofNat_of_zero_le b0
        refine ⟨⟨g, m1⟩, ⟨by show g < 4294967296; omega, (bd_i64 w1).1, (bd_i64 w1).2⟩, ?_, ?_⟩
        · have := hat 0 (by omega)
          simpa [add_add] using this
        · have := hat 1 (by omega)
          simpa [add_add] using this
    haveI : Inhabited Off := ⟨⟨0, 0⟩⟩
    obtain ⟨F, hF⟩ := choose_lt each
    refine ⟨(List.range len).map F, ⟨by rw [Off.all_length], some a, cap, by simp, by simpa using hl, hm, fun h0' => ?_⟩, fun o ho => ?_⟩
    · have h0'' : 0 < len := by simpa using h0'
      obtain ⟨b, off, rfl⟩ := addr_of_cell (w := w) (a := a) (by simpa using (hF 0 h0'').2.1)
      refine ⟨b, off, rfl, trivial, World.block_lt_of_cell? w ⟨b, off, none⟩ (u := .int .u32 (F 0).g) (by simpa [Addr.add] using (hF 0 h0'').2.1), fun j u hu => ?_⟩
      have hlen : (Off.all ((List.range len).map F)).length = len * 2 := by rw [Off.all_length]; simp
      have hj : j < len * 2 := by rw [← hlen]; exact (List.getElem?_eq_some_iff.1 hu).1
      have hk : ((List.range len).map F)[j / 2]? = some (F (j / 2)) := by
        rw [List.getElem?_map, List.getElem?_range (by omega)]
        rfl
      have hq := hF (j / 2) (by omega)
      rcases (show j = j / 2 * 2 ∨ j = j / 2 * 2 + 1 by omega) with h2 | h2
      · have := Off.all_fst _ _ _ hk
        rw [← h2, hu] at this
        injection this with this
        subst this
        rw [← add_lit', h2, show j / 2 * 2 / 2 = j / 2 by omega]
        exact hq.2.1
      · have := Off.all_snd _ _ _ hk
        rw [← h2, hu] at this
        injection this with this
        subst this
        rw [← add_lit', h2, show (j / 2 * 2 + 1) / 2 = j / 2 by omega]
        exact hq.2.2
    · obtain ⟨i, hi', rfl⟩ := List.mem_map.1 ho
      exact (hF i (List.mem_range.1 hi')).1

/-- lists of offers that came in -/
theorem open_buys {t t' e : TypeId} {f0 f1 : Field} (ht' : P.underlying t' = some (.slice t)) (c1 : P.cellsOf t = 1) (ht : P.underlying t = some (.slice e)) (he : P.underlying e = some (.struct #[f0, f1])) (h0 : P.underlying f0.type = some (.int .u32)) (h1 : P.underlying f1.type = some (.int .i64))
    (o0 : f0.offset = 0) (o1 : f1.offset = 1) (s0 : P.cellsOf f0.type = 1) (s1 : P.cellsOf f1.type = 1) (hC : P.cellsOf e = 2) {fuel : Nat} {v : Value} {x : DataW H × List MemPlace}
    (h : DataW.trod enc P w base (fun _ => true) held fuel t' [v] = some x) : ∃ bs, Buys w (fun _ => True) v bs := by
  rcases open_slice1 ht' c1 h with ⟨hcs, _⟩ | ⟨a, len, cap, m, n, V, D, Pl, hcs, _, hl, hm, hmm, _, hi⟩
  · obtain rfl : v = .slice none 0 0 := by simpa using hcs
    exact ⟨[], [], ⟨rfl, none, 0, rfl, Nat.le_refl _, Nat.zero_le _, fun h => absurd h (by simp)⟩, fun k l hk => by simp at hk⟩
  · obtain rfl : v = .slice (some a) len cap := by simpa using hcs
    simp only [if_true] at hmm
    have hmm' := hmm.symm
    subst hmm'
    have each : ∀ i, i < len → ∃ l, Offs w (fun _ => True) (V i) l := fun i hlt => open_offs ht he h0 h1 o0 o1 s0 s1 hC (hi i (by omega)).2
    obtain ⟨F, hF⟩ := choose_lt each
    refine ⟨(List.range len).map F, (List.range len).map V, ⟨by simp, some a, cap, by simp, by simpa using hl, hm, fun h0' => ?_⟩, fun k l hk => ?_⟩
    · have h0'' : 0 < len := by simpa using h0'
      obtain ⟨b, off, rfl⟩ := addr_of_cell (w := w) (a := a) (hi 0 (by omega)).1
      refine ⟨b, off, rfl, trivial, World.block_lt_of_cell? w ⟨b, off, none⟩ (u := V 0) (by simpa [Addr.add] using (hi 0 (by omega)).1), fun j u hu => ?_⟩
      have hj : j < len := by simpa using (List.getElem?_eq_some_iff.1 hu).1
      rw [List.getElem?_map, List.getElem?_range hj] at hu
      simp at hu
      subst hu
      rw [← add_lit']
      exact (hi j (by omega)).1
    · have hj : k < len := by simpa using (List.getElem?_eq_some_iff.1 hk).1
      rw [List.getElem?_map, List.getElem?_range hj] at hk
      simp at hk
      subst hk
      exact ⟨V k, by rw [List.getElem?_map, List.getElem?_range hj]; rfl, hF k hj⟩
end
end Go.Proofs.Ytcigobiolbojhaa.Vb

/- A seat's facts for the last step. -/
namespace Go.Proofs.Ytcigobiolbojhaa.Vb
open Go.RowKit Go.WideShapes Go.ChangeShapes Go.ChangeAt Go.Joins Go.Deep

theorem own : ownKnob Try.prog.godebug = none := by kernel_rfl
theorem kids : Kids Try.prog (· < Try.prog.types.size) := kids_rows (by kernel_rfl) (by kernel_rfl)
theorem full : ∀ t e, t < Try.prog.types.size → Try.prog.underlying t = some (.slice e) → 0 < Try.prog.cellsOf e := slices_full_of Try.prog (by kernel_rfl)

set_option maxRecDepth 100000 in
/-- an instance that came in -/
theorem open_inst {H : Type} {enc : TypeId × Value → H} {w : World} {base : Nat} {held : Bool} {r : Reach} {b0 : Nat} {v : Value} {d : DataW H} {p : List MemPlace}
    (hv : Value.okWide Try.prog w r b0 24 v) (h : DataW.Trod enc Try.prog w base (fun _ => true) held 24 v d p) :
    ∃ (n : Int) (vb : Value) (bs : List (List Off)), v = .agg #[.int .i64 n, vb] ∧ -9223372036854775808 ≤ n ∧ n ≤ 9223372036854775807 ∧ Buys w (fun _ => True) vb bs := by
  obtain ⟨v0, v1, y0, y1, k, rfl, _, _, h0, h1⟩ := open_agg2 Try.underlying24 (by kernel_rfl) (by kernel_rfl) hv h
  obtain ⟨n, e, _, w0⟩ := DataW.trod_int Try.underlying3 h0
  simp at e
  subst e
  obtain ⟨bs, hbs⟩ := open_buys Try.underlying22 (by kernel_rfl) Try.underlying41 Try.underlying45 (by kernel_rfl) (by kernel_rfl) rfl rfl (by kernel_rfl) (by kernel_rfl) (by kernel_rfl) h1
  exact ⟨n, v1, bs, rfl, (bd_i64 w0).1, (bd_i64 w0).2, hbs⟩
end Go.Proofs.Ytcigobiolbojhaa.Vb

/- Law 17: what is asked, whether the instance may be or not. -/
namespace Go.Proofs.Ytcigobiolbojhaa.Vb
open Go.RowKit

theorem checkE_bd (n : Int) (l : List Off) : 0 ≤ checkE n l ∧ checkE n l ≤ 1000 := by
  unfold checkE
  repeat' split
  all_goals omega
theorem instLoop_bd (n : Int) : ∀ bs : List (List Off), 0 ≤ instLoop n bs ∧ instLoop n bs ≤ 1000 := by
  intro bs
  induction bs with
  | nil => simp [instLoop]
  | cons l bs ih =>
    have := checkE_bd n l
    unfold instLoop
    repeat' split
    all_goals omega
theorem instE_bd (n : Int) (bs : List (List Off)) : 0 ≤ instE n bs ∧ instE n bs ≤ 1000 := by
  have := instLoop_bd n bs
  unfold instE
  repeat' split
  all_goals omega
theorem withE_bd (n : Int) (bs : List (List Off)) (i : Int) (l : List Off) : 0 ≤ withE n bs i l ∧ withE n bs i l ≤ 1000 := by
  have := instE_bd n bs
  have := checkE_bd n l
  unfold withE
  repeat' split
  all_goals omega

def gainsL (n : Int) (bs : List (List Off)) : List Int := if instE n bs = 0 then gainsC n bs else []
def pivotL (n : Int) (bs : List (List Off)) : List Int := if instE n bs = 0 then pivotC n bs else []
def choiceL (n : Int) (bs : List (List Off)) : List Int := if instE n bs = 0 then bestC n bs else []
def paysL (n : Int) (bs : List (List Off)) : List Int := if instE n bs = 0 then paysC n bs else []
def worthL (n : Int) (bs : List (List Off)) : Int := if instE n bs = 0 then W bs (allOf n) else 0
theorem bestC_len (n : Int) (bs : List (List Off)) : (bestC n bs).length = bs.length := choose_length _ _
theorem gainsC_len (n : Int) (bs : List (List Off)) : (gainsC n bs).length = bs.length := by simp [gainsC]

section
variable (n : Int) (bs : List (List Off)) (v : Value) (R : Nat → Prop) (w : World)
def AskPost (w : World) (t : TypeId) (l : List Int) (er : Int) (e : Ending) (w' : World) : Prop :=
  ∃ A' cap', e = .returned (.tuple #[.slice A' l.length cap', .int .i64 er]) ∧ w'.ownsRow w.heap.size t 1 (.slice A' l.length cap') l.length (ints l) ∧ Below w.heap.size w w'
theorem ask_nil {w w' : World} {t : TypeId} {l : List Int} {er er' : Int} {e : Ending} (h : l = []) (he : er = er') (h1 : e = .returned (.tuple #[.slice none 0 0, .int .i64 er'])) (h2 : Below w.heap.size w w') : AskPost w t l er e w' := by
  subst h he
  exact ⟨none, 0, h1, World.ownsRow_nil _ _ _ _, h2⟩
theorem ask_some {w w' : World} {t : TypeId} {l l' : List Int} {m : Nat} {er : Int} {e : Ending} (h : l = l') (hm : l'.length = m) (he : er = 0)
    (h1 : ∃ A' cap', e = .returned (.tuple #[.slice A' m cap', .int .i64 0]) ∧ w'.ownsRow w.heap.size t 1 (.slice A' m cap') m (ints l') ∧ Below w.heap.size w w') : AskPost w t l er e w' := by
  subst h he hm
  exact h1
theorem gains_all (hl : Buys w R v bs) : Calls Try.prog 26 #[.agg #[.int .i64 n, v]] w (AskPost w 2 (gainsL n bs) (instE n bs)) := by
  by_cases hi : instE n bs = 0
  · exact (gains_ok n bs v R w hl hi).mono fun e w' h => ask_some (if_pos hi) (gainsC_len n bs) hi h
  · exact (gains_err n bs v R w hl hi).mono fun e w' h => ask_nil (if_neg hi) rfl h.1 h.2
theorem refGains_all (hl : Buys w R v bs) : Calls Try.prog 27 #[.agg #[.int .i64 n, v]] w (AskPost w 2 (gainsL n bs) (instE n bs)) := by
  by_cases hi : instE n bs = 0
  · exact (refGains_ok n bs v R w hl hi).mono fun e w' h => ask_some (if_pos hi) (gainsC_len n bs) hi h
  · exact (refGains_err n bs v R w hl hi).mono fun e w' h => ask_nil (if_neg hi) rfl h.1 h.2
theorem pivotal_all (hl : Buys w R v bs) : Calls Try.prog 28 #[.agg #[.int .i64 n, v]] w (AskPost w 3 (pivotL n bs) (instE n bs)) := by
  by_cases hi : instE n bs = 0
  · exact (pivotal_ok n bs v R w hl hi).mono fun e w' h => ask_some (if_pos hi) rfl hi h
  · exact (pivotal_err n bs v R w hl hi).mono fun e w' h => ask_nil (if_neg hi) rfl h.1 h.2
theorem refPivotal_all (hl : Buys w R v bs) : Calls Try.prog 29 #[.agg #[.int .i64 n, v]] w (AskPost w 3 (pivotL n bs) (instE n bs)) := by
  by_cases hi : instE n bs = 0
  · exact (refPivotal_ok n bs v R w hl hi).mono fun e w' h => ask_some (if_pos hi) rfl hi h
  · exact (refPivotal_err n bs v R w hl hi).mono fun e w' h => ask_nil (if_neg hi) rfl h.1 h.2

def CostsPost (n : Int) (bs : List (List Off)) (w : World) (e : Ending) (w' : World) : Prop :=
  ∃ A1 c1 A2 c2, e = .returned (.tuple #[.agg #[.slice A1 (choiceL n bs).length c1, .int .i64 (worthL n bs), .slice A2 (choiceL n bs).length c2], .int .i64 (instE n bs)]) ∧
    w'.ownsRow w.heap.size 3 1 (.slice A1 (choiceL n bs).length c1) (choiceL n bs).length (ints (choiceL n bs)) ∧
    w'.ownsRow w.heap.size 2 1 (.slice A2 (choiceL n bs).length c2) (choiceL n bs).length (ints (paysL n bs)) ∧ Below w.heap.size w w'
theorem costs_all (hl : Buys w R v bs) : Calls Try.prog 21 #[.agg #[.int .i64 n, v]] w (CostsPost n bs w) := by
  by_cases hi : instE n bs = 0
  · refine (costs_ok n bs v R w hl hi).mono fun e w' ⟨A1, c1, A2, c2, h1, h2, h3, h4⟩ => ?_
    have hc : choiceL n bs = bestC n bs := if_pos hi
    have hp : paysL n bs = paysC n bs := if_pos hi
    have hw : worthL n bs = W bs (allOf n) := if_pos hi
    unfold CostsPost
    rw [hc, hp, hw, hi, bestC_len]
    exact ⟨A1, c1, A2, c2, h1, h2, h3, h4⟩
  · refine (costs_err n bs v R w hl hi).mono fun e w' ⟨h1, h4⟩ => ?_
    have hc : choiceL n bs = [] := if_neg hi
    have hp : paysL n bs = [] := if_neg hi
    have hw : worthL n bs = 0 := if_neg hi
    unfold CostsPost
    rw [hc, hp, hw]
    exact ⟨none, 0, none, 0, h1, World.ownsRow_nil _ _ _ _, World.ownsRow_nil _ _ _ _, h4⟩
theorem refCosts_all (hl : Buys w R v bs) : Calls Try.prog 17 #[.agg #[.int .i64 n, v]] w (CostsPost n bs w) := by
  by_cases hi : instE n bs = 0
  · refine (refCosts_ok n bs v R w hl hi).mono fun e w' ⟨A1, c1, A2, c2, h1, h2, h3, h4⟩ => ?_
    have hc : choiceL n bs = bestC n bs := if_pos hi
    have hp : paysL n bs = paysC n bs := if_pos hi
    have hw : worthL n bs = W bs (allOf n) := if_pos hi
    unfold CostsPost
    rw [hc, hp, hw, hi, bestC_len]
    exact ⟨A1, c1, A2, c2, h1, h2, h3, h4⟩
  · refine (refCosts_err n bs v R w hl hi).mono fun e w' ⟨h1, h4⟩ => ?_
    have hc : choiceL n bs = [] := if_neg hi
    have hp : paysL n bs = [] := if_neg hi
    have hw : worthL n bs = 0 := if_neg hi
    unfold CostsPost
    rw [hc, hp, hw]
    exact ⟨none, 0, none, 0, h1, World.ownsRow_nil _ _ _ _, World.ownsRow_nil _ _ _ _, h4⟩
end

theorem greatB_small {bs : List (List Off)} (h : greatB bs = false) : bs.length ≤ 40 ∧ ∀ l ∈ bs, l.length ≤ 40 := by
  unfold greatB at h
  simp only [Bool.or_eq_false_iff, decide_eq_false_iff_not, List.any_eq_false, decide_eq_true_eq] at h
  exact ⟨by omega, fun l hl => by have := h.1 l hl; omega⟩
end Go.Proofs.Ytcigobiolbojhaa.Vb

/- Law 17: VcgAsks, walked. -/
namespace Go.Proofs.Ytcigobiolbojhaa.Vb
open Go.RowKit

theorem Sl.any {w : World} {R : Nat → Prop} {v : Value} {n sz : Nat} {xs : List Value} (h : Sl w R v n sz xs) : Sl w (fun _ => True) v n sz xs := h.mono fun _ _ _ => trivial
theorem Sl.int_at {w : World} {R : Nat → Prop} {A : Option Addr} {n c k : Nat} {l : List Int} (h : Sl w R (.slice A n c) n 1 (ints l)) (hk : k < n) :
    ∃ b off x, A = some ⟨b, off, none⟩ ∧ b < w.heap.size ∧ l[k]? = some x ∧ w.cell? ⟨b, off + k, none⟩ = some (.int .i64 x) := by
  obtain ⟨hl, A', c', hv, _, _, hc⟩ := h
  injection hv with hA _ _
  subst hA
  obtain ⟨b, off, hA, _, hlt, hcs⟩ := hc (by omega)
  have hl' : k < l.length := by simp [ints] at hl; omega
  exact ⟨b, off, l[k], hA, hlt, List.getElem?_eq_getElem hl', hcs k _ (by simp [ints, hl'])⟩
theorem ints_at {l : List Int} {k : Nat} {c : Int} (h : l[k]? = some c) : (ints l)[k]? = some (.int .i64 c) := by simp [ints, h]

set_option maxRecDepth 100000 in
set_option maxHeartbeats 3200000 in
theorem asks_walk (n : Int) (bs : List (List Off)) (v : Value) (R : Nat → Prop) (buyer : Int) (w : World) (hl : Buys w R v bs) :
    Calls Try.prog 5 #[.agg #[.int .i64 n, v], .int .i64 buyer] w fun e w' => e = .returned (.bool true) ∧ Below w.heap.size w w' := by
  obtain ⟨_, ⟨_, A, cap, rfl, _⟩, _⟩ := id hl
  have HB := Lib.hid hl
  clear hl
  cases hg : greatB bs with
  | true =>
    have HG := Lib.hid hg
    clear hg
    go_enter Try.func5, Try.ntmps5
    go_wp2_with fail
    refine (great_any n bs _ R _ (HB.out.alloc _)).mono ?_
    rintro e w1 ⟨rfl, hb1⟩
    rw [HG.out]
    have HB1 := Lib.hid (((Below.refl _ _).alloc (Nat.le_refl _) _).trans (hb1.mono (B' := w.heap.size) (by simp)))
    clear hb1
    go_wp2_with fail
    refine (works_any _).mono ?_
    rintro e w2 ⟨rfl, hb2⟩
    have HB2 := Lib.hid (HB1.out.trans (hb2.mono HB1.out.size))
    clear hb2
    go_wp2_with fail
    go_ret
    exact ⟨rfl, HB2.out⟩
  | false =>
    obtain ⟨hs1, hs2⟩ := greatB_small hg
    have HSM := Lib.hid (show Small bs from ⟨by omega, fun l hl => by have := hs2 l hl; omega⟩)
    have HG := Lib.hid hg
    obtain ⟨hi0, hi1⟩ := instE_bd n bs
    obtain ⟨hw0, hw1⟩ := withE_bd n bs buyer []
    obtain ⟨ie, hie⟩ : ∃ ie, ie = instE n bs := ⟨_, rfl⟩
    obtain ⟨we, hwe⟩ : ∃ we, we = withE n bs buyer [] := ⟨_, rfl⟩
    rw [← hie] at hi0 hi1
    rw [← hwe] at hw0 hw1
    have HIE := Lib.hid hie
    have HWE := Lib.hid hwe
    have hgl : (gainsL n bs).length ≤ 40 := by
      unfold gainsL
      split
      · rw [gainsC_len]; omega
      · simp
    have hpl : (pivotL n bs).length ≤ 40 := by
      unfold pivotL pivotC pivotTo
      split
      · refine Nat.le_trans (m := bs.length) ?_ hs1
        rw [List.length_map]
        refine Nat.le_trans (List.length_filter_le _ _) (by simp)
      · simp
    obtain ⟨gl, hgle⟩ : ∃ gl, gl = gainsL n bs := ⟨_, rfl⟩
    obtain ⟨pl, hple⟩ : ∃ pl, pl = pivotL n bs := ⟨_, rfl⟩
    rw [← hgle] at hgl
    rw [← hple] at hpl
    have HGL := Lib.hid hgle
    have HPL := Lib.hid hple
    clear hg hie hwe hgle hple hs2
    go_enter Try.func5, Try.ntmps5
    go_wp2_with fail
    refine (great_any n bs _ R _ (HB.out.alloc _)).mono ?_
    rintro e w1 ⟨rfl, hb1⟩
    rw [HG.out]
    have hX := (Blk.new w 24 #[.int .i64 n, .slice A bs.length cap]).grow hb1
    have x0 : w1.cell? ⟨w.heap.size, 0, none⟩ = some (.int .i64 n) := hX.cell 0
    have x1 : w1.cell? ⟨w.heap.size, 1, none⟩ = some (.slice A bs.length cap) := hX.cell 1
    have HX := Lib.hid hX
    have HB1 := Lib.hid (((Below.refl _ _).alloc (Nat.le_refl _) _).trans (hb1.mono (B' := w.heap.size) (by simp)))
    clear hb1 hX
    go_wp2_with fail
    refine (given_any n bs _ R w1 (HB.out.grow HB1.out) HSM.out).mono ?_
    rintro e w2 ⟨A2, k2, rfl, hgv, hb2⟩
    have HX2 := Lib.hid (HX.out.grow hb2)
    have HV2 := Lib.hid hgv
    have HB2 := Lib.hid (HB1.out.trans (hb2.mono HB1.out.size))
    clear hb2 hgv x0 x1
    go_wp2_with fail
    refine (vcgWithout_any n bs buyer _ (fun _ => True) _ (HV2.out.buys.alloc _)).mono ?_
    rintro e w3 ⟨rfl, hb3⟩
    rw [← HWE.out]
    have hX := (HX2.out.alloc _).grow hb3
    have hY := (Blk.new w2 24 #[.int .i64 n, .slice A2 bs.length k2]).grow hb3
    have x0 : w3.cell? ⟨w.heap.size, 0, none⟩ = some (.int .i64 n) := hX.cell 0
    have x1 : w3.cell? ⟨w.heap.size, 1, none⟩ = some (.slice A bs.length cap) := hX.cell 1
    have HX3 := Lib.hid hX
    have HY3 := Lib.hid hY
    have HV3 := Lib.hid ((HV2.out.grow ((Below.refl _ _).alloc (Nat.le_refl _) _)).grow hb3)
    have HB3 := Lib.hid ((HB2.out.alloc HB2.out.size _).trans (hb3.mono (B' := w.heap.size) (by have := HB2.out.size; simp; omega)))
    clear hX hY hb3
    go_wp2_with fail
    refine (refWithout_any n bs buyer _ R _ (HB.out.grow HB3.out)).mono ?_
    rintro e w4 ⟨rfl, hb4⟩
    rw [← HWE.out]
    have hX := HX3.out.grow hb4
    have hY := HY3.out.grow hb4
    have y0 : w4.cell? ⟨w2.heap.size, 0, none⟩ = some (.int .i64 n) := hY.cell 0
    have y1 : w4.cell? ⟨w2.heap.size, 1, none⟩ = some (.slice A2 bs.length k2) := hY.cell 1
    have HX4 := Lib.hid hX
    have HY4 := Lib.hid hY
    have HV4 := Lib.hid (HV3.out.grow hb4)
    have HB4 := Lib.hid (HB3.out.trans (hb4.mono HB3.out.size))
    clear hX hY hb4 x0 x1
    go_wp2_with fail
    refine (gains_all n bs _ (fun _ => True) _ HV4.out.buys).mono ?_
    rintro e w5 ⟨AG, kG, rfl, hownG, hb5⟩
    rw [← HIE.out]
    rw [← HGL.out] at hownG ⊢
    have hX := HX4.out.grow hb5
    have x0 : w5.cell? ⟨w.heap.size, 0, none⟩ = some (.int .i64 n) := hX.cell 0
    have x1 : w5.cell? ⟨w.heap.size, 1, none⟩ = some (.slice A bs.length cap) := hX.cell 1
    have HX5 := Lib.hid hX
    have HY5 := Lib.hid (HY4.out.grow hb5)
    have HV5 := Lib.hid (HV4.out.grow hb5)
    have HC5 := Lib.hid (Sl.of_own hownG).any
    have HB5 := Lib.hid (HB4.out.trans (hb5.mono HB4.out.size))
    clear hX hb5 y0 y1 hownG
    go_wp2_with fail
    refine (refGains_all n bs _ R _ (HB.out.grow HB5.out)).mono ?_
    rintro e w6 ⟨AH, kH, rfl, hownH, hb6⟩
    rw [← HIE.out]
    rw [← HGL.out] at hownH ⊢
    have hY := HY5.out.grow hb6
    have y0 : w6.cell? ⟨w2.heap.size, 0, none⟩ = some (.int .i64 n) := hY.cell 0
    have y1 : w6.cell? ⟨w2.heap.size, 1, none⟩ = some (.slice A2 bs.length k2) := hY.cell 1
    have HX6 := Lib.hid (HX5.out.grow hb6)
    have HY6 := Lib.hid hY
    have HV6 := Lib.hid (HV5.out.grow hb6)
    have HC6 := Lib.hid (HC5.out.grow hb6)
    have HD6 := Lib.hid (Sl.of_own hownH).any
    have HB6 := Lib.hid (HB5.out.trans (hb6.mono HB5.out.size))
    clear hY hb6 x0 x1 hownH
    go_wp2_with fail
    refine (pivotal_all n bs _ (fun _ => True) _ HV6.out.buys).mono ?_
    rintro e w7 ⟨AL, kL, rfl, hownL, hb7⟩
    rw [← HIE.out]
    rw [← HPL.out] at hownL ⊢
    have hX := HX6.out.grow hb7
    have x0 : w7.cell? ⟨w.heap.size, 0, none⟩ = some (.int .i64 n) := hX.cell 0
    have x1 : w7.cell? ⟨w.heap.size, 1, none⟩ = some (.slice A bs.length cap) := hX.cell 1
    have HX7 := Lib.hid hX
    have HY7 := Lib.hid (HY6.out.grow hb7)
    have HV7 := Lib.hid (HV6.out.grow hb7)
    have HC7 := Lib.hid (HC6.out.grow hb7)
    have HD7 := Lib.hid (HD6.out.grow hb7)
    have HL7 := Lib.hid (Sl.of_own hownL).any
    have HB7 := Lib.hid (HB6.out.trans (hb7.mono HB6.out.size))
    clear hX hb7 y0 y1 hownL
    go_wp2_with fail
    refine (refPivotal_all n bs _ R _ (HB.out.grow HB7.out)).mono ?_
    rintro e w8 ⟨AM, kM, rfl, hownM, hb8⟩
    rw [← HIE.out]
    rw [← HPL.out] at hownM ⊢
    have hX := HX7.out.grow hb8
    have hY := HY7.out.grow hb8
    have x0 : w8.cell? ⟨w.heap.size, 0, none⟩ = some (.int .i64 n) := hX.cell 0
    have x1 : w8.cell? ⟨w.heap.size, 1, none⟩ = some (.slice A bs.length cap) := hX.cell 1
    have y0 : w8.cell? ⟨w2.heap.size, 0, none⟩ = some (.int .i64 n) := hY.cell 0
    have y1 : w8.cell? ⟨w2.heap.size, 1, none⟩ = some (.slice A2 bs.length k2) := hY.cell 1
    have HV8 := Lib.hid (HV7.out.grow hb8)
    have HC8 := Lib.hid (HC7.out.grow hb8)
    have HD8 := Lib.hid (HD7.out.grow hb8)
    have HL8 := Lib.hid (HL7.out.grow hb8)
    have HM8 := Lib.hid (Sl.of_own hownM).any
    have HB8 := Lib.hid (HB7.out.trans (hb8.mono HB7.out.size))
    clear hX hY hb8 hownM
    go_wp2_with (first
      | (go_at_call 18; refine (num_any _ (by omega) (by omega) _).mono ?_; rintro e w9 ⟨rfl, rfl⟩)
      | (go_at_call 19; refine (stays_any n bs _ _ _ R _ HV8.out (HB.out.grow HB8.out) HSM.out).mono ?_; rintro e w9 ⟨rfl, hb9⟩; have HC9 := Lib.hid (HC8.out.grow hb9); have HD9 := Lib.hid (HD8.out.grow hb9); have HL9 := Lib.hid (HL8.out.grow hb9); have HM9 := Lib.hid (HM8.out.grow hb9); have HB9 := Lib.hid (HB8.out.trans (hb9.mono HB8.out.size)); clear hb9 x0 x1 y0 y1))
    clear hw0 hw1
    go_loopw [18] (fun i wr => ∃ k : Nat, k ≤ gl.length ∧ i = .int .i64 k ∧ Below w9.heap.size w9 wr) (fun i _ => gl.length - (intOf i).toNat)
    case atStart => exact ⟨0, Nat.zero_le _, rfl, Below.refl _ _⟩
    case round =>
      obtain ⟨k, hk, rfl, hb⟩ := hrel
      by_cases hlt : k < gl.length
      · obtain ⟨b1, o1, x1, rfl, hb1, hx1, hc1⟩ := (HC9.out.grow hb).int_at hlt
        obtain ⟨b2, o2, x2, rfl, hb2, hx2, hc2⟩ := (HD9.out.grow hb).int_at hlt
        rw [hx1] at hx2
        injection hx2 with hx2
        subst hx2
        have e1 : (0 : Int) ≤ (k : Int) := by omega
        have e2 : (k : Int) < (gl.length : Int) := by omega
        clear hx1
        have HBB := Lib.hid hb
        clear hb
        go_wp2_with fail
        go_quiet (fail)
        go_wp2_with fail
        go_roundw
        case rel => exact ⟨k + 1, by omega, by go_num, below_drewN HBB.out _⟩
        case measure => simp [intOf]; omega
      · have HBB := Lib.hid hb
        clear hb
        go_wp2_with fail
        go_loopw [19] (fun i wr2 => ∃ k : Nat, k ≤ pl.length ∧ i = .int .i64 k ∧ Below w9.heap.size w9 wr2) (fun i _ => pl.length - (intOf i).toNat)
        case atStart => exact ⟨0, Nat.zero_le _, rfl, HBB.out⟩
        case round =>
          obtain ⟨k2, hk2, rfl, hb⟩ := hrel
          by_cases hlt2 : k2 < pl.length
          · obtain ⟨b1, o1, x1, rfl, hb1, hx1, hc1⟩ := (HL9.out.grow hb).int_at hlt2
            obtain ⟨b2, o2, x2, rfl, hb2, hx2, hc2⟩ := (HM9.out.grow hb).int_at hlt2
            rw [hx1] at hx2
            injection hx2 with hx2
            subst hx2
            have e1 : (0 : Int) ≤ (k2 : Int) := by omega
            have e2 : (k2 : Int) < (pl.length : Int) := by omega
            clear hx1
            have HBC := Lib.hid hb
            clear hb
            go_wp2_with fail
            go_quiet (fail)
            go_wp2_with fail
            go_roundw
            case rel => exact ⟨k2 + 1, by omega, by go_num, below_drewN HBC.out _⟩
            case measure => simp [intOf]; omega
          · have HBC := Lib.hid hb
            clear hb
            go_wp2_with (go_at_call 14; refine (works_any _).mono ?_; rintro e w10 ⟨rfl, hb10⟩; have HB10 := Lib.hid hb10; clear hb10)
            go_ret
            exact ⟨rfl, (HB9.out.trans (HBC.out.mono HB9.out.size)).trans (HB10.out.mono (Nat.le_trans HB9.out.size HBC.out.size))⟩
end Go.Proofs.Ytcigobiolbojhaa.Vb

/- Law 17: VcgCosts, walked. -/
namespace Go.Proofs.Ytcigobiolbojhaa.Vb
open Go.RowKit

theorem coinAt_bd {n : Int} {bs : List (List Off)} (hw : ∀ l ∈ bs, ∀ o ∈ l, o.wf) (h : instE n bs = 0) (i : Nat) (c : Int) : 0 ≤ coinAt bs i c ∧ coinAt bs i c ≤ 1099511627776 := by
  have hok := (okb_of hw h).1
  unfold coinAt
  split
  · omega
  · cases hb : bs[i]? with
    | none => simp
    | some l =>
      cases hl : l[c.toNat]? with
      | none => simp [hl]
      | some o =>
        have := hok.offer hb hl
        simp only [Option.getD_some, hl, Option.map_some]
        exact ⟨by have := this.2.2.1; omega, this.2.2.2⟩
theorem paysL_bd {n : Int} {bs : List (List Off)} (hw : ∀ l ∈ bs, ∀ o ∈ l, o.wf) : ∀ x ∈ paysL n bs, -9007199254740992 ≤ x ∧ x ≤ 9007199254740992 := by
  intro x hx
  unfold paysL at hx
  split at hx
  · rename_i hi
    simp only [paysC, List.mem_mapIdx] at hx
    obtain ⟨i, hlt, rfl⟩ := hx
    unfold payAt
    split
    · omega
    · obtain ⟨h0, h1⟩ := coinAt_bd hw hi i ((bestC n bs)[i])
      obtain ⟨h2, h3⟩ := woW_bd hw hi i
      have h4 := W_nonneg bs (allOf n)
      have h5 : W bs (allOf n) ≤ 35184372088832 := by simpa using (okb_of hw hi).1.W_le 0 (allOf n)
      omega
  · cases hx
theorem paysL_len (n : Int) (bs : List (List Off)) : (paysL n bs).length = (choiceL n bs).length := by
  unfold paysL choiceL
  split
  · rw [paysC_length, bestC_len]
  · rfl
theorem choiceL_len (n : Int) (bs : List (List Off)) : (choiceL n bs).length ≤ bs.length := by
  unfold choiceL
  split
  · rw [bestC_len]; exact Nat.le_refl _
  · simp

/-- only blocks from a up to b have turned -/
def Mid (a b : Nat) (w w' : World) : Prop := Below a w w' ∧ ∀ i, b ≤ i → i < w.heap.size → w'.heap[i]? = w.heap[i]?
theorem Mid.refl (a b : Nat) (w : World) : Mid a b w w := ⟨Below.refl _ _, fun _ _ _ => rfl⟩
theorem Mid.set {a b : Nat} {w w' : World} (h : Mid a b w w') {p : Addr} (h1 : a ≤ p.block) (h2 : p.block < b) (u : Value) : Mid a b w (w'.setCell p u) :=
  ⟨h.1.setCell h1 u, fun i hi hl => (Below.heap_setCell w' p u i (by omega)).trans (h.2 i hi hl)⟩
theorem Mid.sl {a b : Nat} {w w' : World} {R : Nat → Prop} {v : Value} {n sz : Nat} {xs : List Value} (h : Mid a b w w') (hs : Sl w R v n sz xs) (hR : ∀ i, i < w.heap.size → R i → b ≤ i) : Sl w' R v n sz xs :=
  hs.keep h.1.size fun i hi hr => h.2 i (hR i hi hr) hi
theorem Mid.blk {a b : Nat} {w w' : World} {g : Nat} {t : TypeId} {cs : Array Value} (h : Mid a b w w') (hs : Blk w g t cs) (hg : b ≤ g) : Blk w' g t cs := (h.2 g hg hs.lt).trans hs
/-- a row from a base on -/
theorem Sl.own_from {w : World} {base : Nat} {e : TypeId} {sz n : Nat} {v : Value} {xs : List Value} (h : w.ownsRow base e sz v n xs) : Sl w (fun b => base ≤ b) v n sz xs :=
  (Sl.of_own h).mono fun b _ hb => (h.lt b hb).1

set_option maxRecDepth 100000 in
set_option maxHeartbeats 3200000 in
theorem costs_walk (n : Int) (bs : List (List Off)) (v : Value) (R : Nat → Prop) (w : World) (hl : Buys w R v bs) :
    Calls Try.prog 4 #[.agg #[.int .i64 n, v]] w fun e w' => e = .returned (.bool true) ∧ Below w.heap.size w w' := by
  obtain ⟨_, ⟨_, A, cap, rfl, _⟩, _⟩ := id hl
  have HB := Lib.hid hl
  have HWF := Lib.hid (buys_wf hl)
  clear hl
  cases hg : greatB bs with
  | true =>
    have HG := Lib.hid hg
    clear hg
    go_enter Try.func4, Try.ntmps4
    go_wp2_with fail
    refine (great_any n bs _ R _ (HB.out.alloc _)).mono ?_
    rintro e w1 ⟨rfl, hb1⟩
    rw [HG.out]
    have HB1 := Lib.hid (((Below.refl _ _).alloc (Nat.le_refl _) _).trans (hb1.mono (B' := w.heap.size) (by simp)))
    clear hb1
    go_wp2_with fail
    refine (works_any _).mono ?_
    rintro e w2 ⟨rfl, hb2⟩
    have HB2 := Lib.hid (HB1.out.trans (hb2.mono HB1.out.size))
    clear hb2
    go_wp2_with fail
    go_ret
    exact ⟨rfl, HB2.out⟩
  | false =>
    obtain ⟨hs1, hs2⟩ := greatB_small hg
    have HSM := Lib.hid (show Small bs from ⟨by omega, fun l hl => by have := hs2 l hl; omega⟩)
    have HG := Lib.hid hg
    obtain ⟨hi0, hi1⟩ := instE_bd n bs
    obtain ⟨ie, hie⟩ : ∃ ie, ie = instE n bs := ⟨_, rfl⟩
    rw [← hie] at hi0 hi1
    have HIE := Lib.hid hie
    have hcl := Nat.le_trans (choiceL_len n bs) hs1
    obtain ⟨cl, hcle⟩ : ∃ cl, cl = choiceL n bs := ⟨_, rfl⟩
    obtain ⟨pl, hple⟩ : ∃ pl, pl = paysL n bs := ⟨_, rfl⟩
    obtain ⟨m, hm⟩ : ∃ m, m = cl.length := ⟨_, rfl⟩
    obtain ⟨W0, hW0⟩ : ∃ W0, W0 = worthL n bs := ⟨_, rfl⟩
    rw [← hcle, ← hm] at hcl
    have hpl := paysL_len n bs
    rw [← hcle, ← hple, ← hm] at hpl
    have hpb := paysL_bd (n := n) HWF.out
    rw [← hple] at hpb
    have HPB := Lib.hid hpb
    have HPL := Lib.hid hpl
    have HM := Lib.hid hm
    have HCE := Lib.hid hcle
    have HPE := Lib.hid hple
    have HWE := Lib.hid hW0
    clear hg hie hcle hple hW0 hs2 hpl hm hpb
    have hcost : ∀ (vb : Value) (R' : Nat → Prop) (w' : World), Buys w' R' vb bs → ∀ f, f = 21 ∨ f = 17 → Calls Try.prog f #[.agg #[.int .i64 n, vb]] w' fun e w2 => ∃ A1 c1 A2 c2, e = .returned (.tuple #[.agg #[.slice A1 m c1, .int .i64 W0, .slice A2 m c2], .int .i64 ie]) ∧
        w2.ownsRow w'.heap.size 3 1 (.slice A1 m c1) m (ints cl) ∧ w2.ownsRow w'.heap.size 2 1 (.slice A2 m c2) m (ints pl) ∧ Below w'.heap.size w' w2 := by
      intro vb R' w' hbu f hf
      rw [HIE.out, HWE.out, HM.out, HPE.out, HCE.out]
      rcases hf with rfl | rfl
      · exact costs_all n bs vb R' w' hbu
      · exact refCosts_all n bs vb R' w' hbu
    have HCOST := Lib.hid hcost
    clear hcost
    go_enter Try.func4, Try.ntmps4
    go_wp2_with fail
    refine (great_any n bs _ R _ (HB.out.alloc _)).mono ?_
    rintro e w1 ⟨rfl, hb1⟩
    rw [HG.out]
    have hX := (Blk.new w 24 #[.int .i64 n, .slice A bs.length cap]).grow hb1
    have x0 : w1.cell? ⟨w.heap.size, 0, none⟩ = some (.int .i64 n) := hX.cell 0
    have x1 : w1.cell? ⟨w.heap.size, 1, none⟩ = some (.slice A bs.length cap) := hX.cell 1
    have HX := Lib.hid hX
    have HB1 := Lib.hid (((Below.refl _ _).alloc (Nat.le_refl _) _).trans (hb1.mono (B' := w.heap.size) (by simp)))
    clear hb1 hX
    go_wp2_with fail
    refine (given_any n bs _ R w1 (HB.out.grow HB1.out) HSM.out).mono ?_
    rintro e w2 ⟨A2, k2, rfl, hgv, hb2⟩
    have HX2 := Lib.hid (HX.out.grow hb2)
    have HV2 := Lib.hid hgv
    have HB2 := Lib.hid (HB1.out.trans (hb2.mono HB1.out.size))
    clear hb2 hgv x0 x1
    go_wp2_with fail
    -- the instance's copy lies; all up to here stands below u3
    obtain ⟨u3, hu3⟩ : ∃ u, u = w2.alloc (.cells #[.int .i64 n, .slice A2 bs.length k2] 24) := ⟨_, rfl⟩
    have hX := HX2.out.alloc (.cells #[.int .i64 n, .slice A2 bs.length k2] 24)
    have hY := Blk.new w2 24 #[.int .i64 n, .slice A2 bs.length k2]
    have hV := HV2.out.grow ((Below.refl _ _).alloc (Nat.le_refl _) (.cells #[.int .i64 n, .slice A2 bs.length k2] 24))
    have hB := HB2.out.alloc HB2.out.size (.cells #[.int .i64 n, .slice A2 bs.length k2] 24)
    rw [← hu3] at hX hY hV hB ⊢
    have HX3 := Lib.hid hX
    have HY3 := Lib.hid hY
    have HV3 := Lib.hid hV
    have HB3 := Lib.hid hB
    clear hu3 hX hY hV hB
    refine (HCOST.out _ _ _ HV3.out.buys _ (.inl rfl)).mono ?_
    rintro e w3 ⟨CA, ca, PA, pa, rfl, hc3, hp3, hb3⟩
    have hU : Below u3.heap.size u3 (w3.alloc (.cells #[.slice CA m ca, .int .i64 W0, .slice PA m pa] 36)) := hb3.alloc hb3.size _
    have hY := HY3.out.grow hU
    have y0 : (w3.alloc (.cells #[.slice CA m ca, .int .i64 W0, .slice PA m pa] 36)).cell? ⟨w2.heap.size, 0, none⟩ = some (.int .i64 n) := hY.cell 0
    have y1 : (w3.alloc (.cells #[.slice CA m ca, .int .i64 W0, .slice PA m pa] 36)).cell? ⟨w2.heap.size, 1, none⟩ = some (.slice A2 bs.length k2) := hY.cell 1
    have HU3 := Lib.hid hb3
    have HCA3 := Lib.hid hc3
    have HPA3 := Lib.hid hp3
    have hlt3 := hb3.size
    clear hU hY hb3 hc3 hp3
    go_wp2_with fail
    obtain ⟨u4, hu4⟩ : ∃ u, u = w3.alloc (.cells #[.slice CA m ca, .int .i64 W0, .slice PA m pa] 36) := ⟨_, rfl⟩
    have hPa := Blk.new w3 36 #[.slice CA m ca, .int .i64 W0, .slice PA m pa]
    have hU4 := HU3.out.alloc HU3.out.size (.cells #[.slice CA m ca, .int .i64 W0, .slice PA m pa] 36)
    have h34 : Below w3.heap.size w3 (w3.alloc (.cells #[.slice CA m ca, .int .i64 W0, .slice PA m pa] 36)) := (Below.refl _ _).alloc (Nat.le_refl _) _
    have hs4 : w3.heap.size + 1 ≤ u4.heap.size := by rw [hu4]; simp
    rw [← hu4] at hPa hU4 h34 ⊢
    have HPa4 := Lib.hid hPa
    have HU4 := Lib.hid hU4
    have HCA4 := Lib.hid (own_grow HCA3.out h34)
    have HPA4 := Lib.hid (own_grow HPA3.out h34)
    clear hu4 hPa hU4 h34 y0 y1
    refine (HCOST.out _ _ _ (HV3.out.grow HU4.out).buys _ (.inl rfl)).mono ?_
    rintro e w5 ⟨CB, cb, PB, pb, rfl, hc5, hp5, hb5⟩
    have hX := HX3.out.grow (HU4.out.trans (hb5.mono (B' := u3.heap.size) HU4.out.size))
    have x0 : (w5.alloc (.cells #[.slice CB m cb, .int .i64 W0, .slice PB m pb] 36)).cell? ⟨w.heap.size, 0, none⟩ = some (.int .i64 n) := (hX.alloc _).cell 0
    have x1 : (w5.alloc (.cells #[.slice CB m cb, .int .i64 W0, .slice PB m pb] 36)).cell? ⟨w.heap.size, 1, none⟩ = some (.slice A bs.length cap) := (hX.alloc _).cell 1
    have HU5 := Lib.hid (HU4.out.trans (hb5.mono (B' := u3.heap.size) HU4.out.size))
    have H45 := Lib.hid hb5
    have HCB5 := Lib.hid hc5
    have HPB5 := Lib.hid hp5
    clear hX hb5 hc5 hp5
    go_wp2_with fail
    obtain ⟨u6, hu6⟩ : ∃ u, u = w5.alloc (.cells #[.slice CB m cb, .int .i64 W0, .slice PB m pb] 36) := ⟨_, rfl⟩
    have hPb := Blk.new w5 36 #[.slice CB m cb, .int .i64 W0, .slice PB m pb]
    have h46 := H45.out.alloc H45.out.size (.cells #[.slice CB m cb, .int .i64 W0, .slice PB m pb] 36)
    have h56 : Below w5.heap.size w5 (w5.alloc (.cells #[.slice CB m cb, .int .i64 W0, .slice PB m pb] 36)) := (Below.refl _ _).alloc (Nat.le_refl _) _
    have hs6 := H45.out.size
    rw [← hu6] at hPb h46 h56 ⊢
    have HPb6 := Lib.hid hPb
    have H46 := Lib.hid h46
    have HCB6 := Lib.hid (own_grow HCB5.out h56)
    have HPB6 := Lib.hid (own_grow HPB5.out h56)
    clear hu6 hPb h46 h56 x0 x1
    have HU6 := Lib.hid (HU4.out.trans (H46.out.mono (B' := u3.heap.size) HU4.out.size))
    refine (HCOST.out _ _ _ (HB.out.grow (HB3.out.trans (HU6.out.mono HB3.out.size))) _ (.inr rfl)).mono ?_
    rintro e w7 ⟨CW, cw, PW, pw, rfl, hc7, hp7, hb7⟩
    -- want lies: u8
    have h48 := (H46.out.trans (hb7.mono (B' := u4.heap.size) H46.out.size)).alloc (Nat.le_trans H46.out.size hb7.size) (.cells #[.slice CW m cw, .int .i64 W0, .slice PW m pw] 36)
    have h68 := hb7.alloc hb7.size (.cells #[.slice CW m cw, .int .i64 W0, .slice PW m pw] 36)
    have h78 : Below w7.heap.size w7 (w7.alloc (.cells #[.slice CW m cw, .int .i64 W0, .slice PW m pw] 36)) := (Below.refl _ _).alloc (Nat.le_refl _) _
    obtain ⟨u8, hu8⟩ : ∃ u, u = w7.alloc (.cells #[.slice CW m cw, .int .i64 W0, .slice PW m pw] 36) := ⟨_, rfl⟩
    have hPw := Blk.new w7 36 #[.slice CW m cw, .int .i64 W0, .slice PW m pw]
    have hs7 := Nat.le_trans H46.out.size hb7.size
    rw [← hu8] at h48 h68 h78 hPw
    have HPw8 := Lib.hid hPw
    have HPb8 := Lib.hid (HPb6.out.grow h68)
    have HPa8 := Lib.hid (HPa4.out.grow h48)
    have HCA8 := Lib.hid (own_grow HCA4.out h48)
    have HPA8 := Lib.hid (own_grow HPA4.out h48)
    have HCB8 := Lib.hid (own_mono (own_grow HCB6.out h68) (show w3.heap.size ≤ u4.heap.size by omega))
    have HPB8 := Lib.hid (own_mono (own_grow HPB6.out h68) (show w3.heap.size ≤ u4.heap.size by omega))
    have HCW8 := Lib.hid (own_mono (own_grow hc7 h78) (show w3.heap.size ≤ u6.heap.size by have := H46.out.size; omega))
    have HPW8 := Lib.hid (own_mono (own_grow hp7 h78) (show w3.heap.size ≤ u6.heap.size by have := H46.out.size; omega))
    have HU8 := Lib.hid (HU4.out.trans (h48.mono (B' := u3.heap.size) HU4.out.size))
    have hg7 : w3.heap.size + 1 ≤ w7.heap.size := by omega
    clear h48 h68 h78 hPw hc7 hp7 hb7 hs6
    go_wp2_with fail
    rw [← hu8]
    clear hu8
    have hX := HX3.out.grow HU8.out
    have hY := HY3.out.grow HU8.out
    have x0 : u8.cell? ⟨w.heap.size, 0, none⟩ = some (.int .i64 n) := hX.cell 0
    have x1 : u8.cell? ⟨w.heap.size, 1, none⟩ = some (.slice A bs.length cap) := hX.cell 1
    have y0 : u8.cell? ⟨w2.heap.size, 0, none⟩ = some (.int .i64 n) := hY.cell 0
    have y1 : u8.cell? ⟨w2.heap.size, 1, none⟩ = some (.slice A2 bs.length k2) := hY.cell 1
    have a0 : u8.cell? ⟨w3.heap.size, 0, none⟩ = some (.slice CA m ca) := HPa8.out.cell 0
    have a1 : u8.cell? ⟨w3.heap.size, 1, none⟩ = some (.int .i64 W0) := HPa8.out.cell 1
    have a2 : u8.cell? ⟨w3.heap.size, 2, none⟩ = some (.slice PA m pa) := HPa8.out.cell 2
    have t0 : u8.cell? ⟨w7.heap.size, 0, none⟩ = some (.slice CW m cw) := HPw8.out.cell 0
    have t1 : u8.cell? ⟨w7.heap.size, 1, none⟩ = some (.int .i64 W0) := HPw8.out.cell 1
    have t2 : u8.cell? ⟨w7.heap.size, 2, none⟩ = some (.slice PW m pw) := HPw8.out.cell 2
    have HX8 := Lib.hid hX
    have HY8 := Lib.hid hY
    clear hX hY
    have hsame : ∀ (w' : World) (CA PA CB PB : Option Addr) (ca pa cb pb : Nat) (R1 R2 R3 R4 : Nat → Prop), Sl w' R1 (.slice CA m ca) m 1 (ints cl) → Sl w' R2 (.slice CB m cb) m 1 (ints cl) → Sl w' R3 (.slice PA m pa) m 1 (ints pl) → Sl w' R4 (.slice PB m pb) m 1 (ints pl) →
        Calls Try.prog 22 #[.agg #[.slice CA m ca, .int .i64 W0, .slice PA m pa], .agg #[.slice CB m cb, .int .i64 W0, .slice PB m pb]] w' fun e w2 => e = .returned (.bool true) ∧ Below w'.heap.size w' w2 := by
      intro w' CA PA CB PB ca pa cb pb R1 R2 R3 R4 h1 h2 h3 h4
      have hm := HM.out
      have hp := HPL.out
      refine samePaid_true W0 cl pl _ _ _ _ R1 R2 R3 R4 w' ?_ ?_ ?_ ?_
      · rw [← hm]; exact h1
      · rw [← hm]; exact h2
      · rw [hp]; exact h3
      · rw [hp]; exact h4
    have HSAME := Lib.hid hsame
    clear hsame
    go_wp2_with (first
      | (go_at_call 18; refine (num_any _ (by omega) (by omega) _).mono ?_; rintro e w9 ⟨rfl, rfl⟩)
      | (go_at_call 22; refine (HSAME.out _ _ _ _ _ _ _ _ _ _ _ _ _ (Sl.of_own HCA8.out) (Sl.of_own HCW8.out) (Sl.of_own HPA8.out) (Sl.of_own HPW8.out)).mono ?_; rintro e w9 ⟨rfl, hb9⟩; have HB9 := Lib.hid hb9; have hX := HX8.out.grow hb9; have hY := HY8.out.grow hb9; obtain ⟨x0, x1, y0, y1⟩ : w9.cell? ⟨w.heap.size, 0, none⟩ = some (.int .i64 n) ∧ w9.cell? ⟨w.heap.size, 1, none⟩ = some (.slice A bs.length cap) ∧ w9.cell? ⟨w2.heap.size, 0, none⟩ = some (.int .i64 n) ∧ w9.cell? ⟨w2.heap.size, 1, none⟩ = some (.slice A2 bs.length k2) := ⟨hX.cell 0, hX.cell 1, hY.cell 0, hY.cell 1⟩; clear hb9 hX hY)
      | (go_at_call 19; refine (stays_any n bs _ _ _ R _ ((HV3.out.grow HU8.out).grow HB9.out) ((HB.out.grow (HB3.out.trans (HU8.out.mono HB3.out.size))).grow HB9.out) HSM.out).mono ?_; rintro e w10 ⟨rfl, hb10⟩; have H8 := Lib.hid (HB9.out.trans (hb10.mono HB9.out.size)); clear hb10 HB9 x0 x1 y0 y1 a0 a1 a2 t0 t1 t2))
    have hPw := HPw8.out.grow H8.out
    have t2 : w10.cell? ⟨w7.heap.size, 2, none⟩ = some (.slice PW m pw) := hPw.cell 2
    have HPw10 := Lib.hid hPw
    clear hPw
    have hslw := (Sl.of_own HPW8.out).grow H8.out
    have HSLW := Lib.hid hslw
    clear hslw
    go_loop [10, 11] (fun s i => ∃ k : Nat, k ≤ m ∧ i = .int .i64 k ∧ s = .int .i64 (sumI (pl.take k))) (fun _ i => m - (intOf i).toNat)
    case atStart => exact ⟨0, Nat.zero_le _, rfl, rfl⟩
    case round =>
      obtain ⟨k, hk, rfl, rfl⟩ := hrel
      by_cases hlt : k < m
      · obtain ⟨bw, ow, xw, rfl, hbw, hxw, hcw⟩ := HSLW.out.int_at hlt
        have hst := sumI_take hxw
        have h1 := sumI_bd (pl.take k) (fun x hx => HPB.out x (List.mem_of_mem_take hx))
        have h2 := HPB.out xw (List.mem_of_getElem? hxw)
        have hkl : ((pl.take k).length : Int) ≤ k := by simp; omega
        have h3 : ((pl.take k).length : Int) * 9007199254740992 ≤ 40 * 9007199254740992 := Int.mul_le_mul_of_nonneg_right (by omega) (by omega)
        have hsum : IntKind.i64.wrap (sumI (pl.take k) + xw) = sumI (pl.take k) + xw := IntWalk.i64_in _ (by omega)
        have HST := Lib.hid hst
        have e1 : (0 : Int) ≤ (k : Int) := by omega
        have e2 : (k : Int) < (m : Int) := by omega
        clear hst h1 h2 h3 hkl hxw
        go_wp2_with fail
        go_round
        case rel => exact ⟨k + 1, by omega, by go_num, by rw [HST.out]⟩
        case measure => simp [intOf]; omega
      · have hkm : k = pl.length := by rw [HPL.out]; omega
        have hsum0 : sumI (pl.take k) = sumI pl := by rw [hkm, List.take_length]
        rw [hsum0]
        have hPa := HPa8.out.grow H8.out
        have a0 : w10.cell? ⟨w3.heap.size, 0, none⟩ = some (.slice CA m ca) := hPa.cell 0
        have a1 : w10.cell? ⟨w3.heap.size, 1, none⟩ = some (.int .i64 W0) := hPa.cell 1
        have a2 : w10.cell? ⟨w3.heap.size, 2, none⟩ = some (.slice PA m pa) := hPa.cell 2
        have HPa10 := Lib.hid hPa
        clear hPa hkm hsum0
        have hinc : Calls Try.prog 23 #[.agg #[.slice CA m ca, .int .i64 W0, .slice PA m pa]] w10 fun e w' => e = .returned (.int .i64 (sumI pl)) ∧ Below w10.heap.size w10 w' :=
          income_any W0 pl _ _ _ w10 (by rw [HPL.out]; exact (Sl.of_own HPA8.out).grow H8.out) HPB.out (by rw [HPL.out]; omega)
        have HINC := Lib.hid hinc
        clear hinc
        go_wp2_with fail
        refine HINC.out.mono ?_
        rintro e w11 ⟨rfl, hb11⟩
        have H11 := Lib.hid (H8.out.trans (hb11.mono H8.out.size))
        clear hb11 a0 a1 a2
        have hPa := HPa8.out.grow H11.out
        have a0 : w11.cell? ⟨w3.heap.size, 0, none⟩ = some (.slice CA m ca) := hPa.cell 0
        have a2 : w11.cell? ⟨w3.heap.size, 2, none⟩ = some (.slice PA m pa) := hPa.cell 2
        have HPa11 := Lib.hid hPa
        clear hPa
        go_wp2_with fail
        clear a0 a2
        go_loopw [12] (fun i wr => ∃ (k : Nat) (xs ys : List Value), k ≤ m ∧ i = .int .i64 k ∧ Mid u3.heap.size w3.heap.size w11 wr ∧ wr.ownsRow u3.heap.size 3 1 (.slice CA m ca) m xs ∧ wr.ownsRow u3.heap.size 2 1 (.slice PA m pa) m ys) (fun i _ => m - (intOf i).toNat)
        case atStart => exact ⟨0, _, _, Nat.zero_le _, rfl, Mid.refl _ _ _, own_grow HCA8.out H11.out, own_grow HPA8.out H11.out⟩
        case round =>
          obtain ⟨j2, xs, ys, hk2, rfl, hmid, ho1, ho2⟩ := hrel
          have hPa := hmid.blk HPa11.out (Nat.le_refl _)
          have a0 : wr.cell? ⟨w3.heap.size, 0, none⟩ = some (.slice CA m ca) := hPa.cell 0
          have a2 : wr.cell? ⟨w3.heap.size, 2, none⟩ = some (.slice PA m pa) := hPa.cell 2
          by_cases hlt2 : j2 < m
          · obtain ⟨gA, rfl, hA0, hA1, hA2, hA3, hA4⟩ := own_some ho1 (by omega)
            obtain ⟨gP, rfl, hP0, hP1, hP2, hP3, hP4⟩ := own_some ho2 (by omega)
            have hAlt := (HCA3.out.lt gA rfl).2
            have hPlt := (HPA3.out.lt gP rfl).2
            have hne : gA ≠ gP := fun e => own_ne ho1 ho2 (by decide) (g := gA) rfl (by simp [Value.ownBlock, e])
            obtain ⟨uA, _, cA⟩ := hA4 j2 hlt2
            obtain ⟨uP, _, cP⟩ := hP4 j2 hlt2
            have fA := hA3 j2
            have fP := hP3 j2
            have b0 : (wr.setCell ⟨gP, j2, none⟩ (.int .i64 (-9))).cell? ⟨w3.heap.size, 0, none⟩ = some (.slice (some ⟨gA, 0, none⟩) m ca) := (World.cell?_setCell_other wr ⟨gP, j2, none⟩ ⟨w3.heap.size, 0, none⟩ _ (fun e => by injection e with e; omega)).trans a0
            have b1 : (wr.setCell ⟨gP, j2, none⟩ (.int .i64 (-9))).cell? ⟨gA, j2, none⟩ = some uA := (World.cell?_setCell_other wr ⟨gP, j2, none⟩ ⟨gA, j2, none⟩ _ (fun e => by injection e with e; omega)).trans cA
            have b2 : (wr.setCell ⟨gP, j2, none⟩ (.int .i64 (-9))).frozen? ⟨gA, j2, none⟩ = false := by rw [World.frozen?_setCell]; exact fA
            have e1 : (0 : Int) ≤ (j2 : Int) := by omega
            have e2 : (j2 : Int) < (m : Int) := by omega
            have HMID := Lib.hid hmid
            have HO1 := Lib.hid ho1
            have HO2 := Lib.hid ho2
            clear hmid ho1 ho2 hPa hA3 hA4 hP3 hP4
            go_wp2_with fail
            go_roundw
            case rel =>
              have s1 := HO2.out.stored j2 (.int .i64 (-9))
              have s2 := (own_far HO1.out s1.2 (fun g e => by simp [Value.ownBlock] at e ⊢; omega)).stored j2 (.int .i64 (-9))
              refine ⟨j2 + 1, _, _, by omega, by go_num, (HMID.out.set (p := ⟨gP, j2, none⟩) hP0 hPlt _).set (p := ⟨gA, j2, none⟩) hA0 hAlt _, s2.1, own_far s1.1 s2.2 (fun g e => by simp [Value.ownBlock] at e ⊢; omega)⟩
            case measure => simp [intOf]; omega
          · have hPb := hmid.blk (HPb8.out.grow H11.out) (by have := H45.out.size; omega)
            have hPw := hmid.blk (HPw8.out.grow H11.out) (by omega)
            have q0 : wr.cell? ⟨w5.heap.size, 0, none⟩ = some (.slice CB m cb) := hPb.cell 0
            have q1 : wr.cell? ⟨w5.heap.size, 1, none⟩ = some (.int .i64 W0) := hPb.cell 1
            have q2 : wr.cell? ⟨w5.heap.size, 2, none⟩ = some (.slice PB m pb) := hPb.cell 2
            have t0 : wr.cell? ⟨w7.heap.size, 0, none⟩ = some (.slice CW m cw) := hPw.cell 0
            have t1 : wr.cell? ⟨w7.heap.size, 1, none⟩ = some (.int .i64 W0) := hPw.cell 1
            have t2 : wr.cell? ⟨w7.heap.size, 2, none⟩ = some (.slice PW m pw) := hPw.cell 2
            have hX := (HX8.out.grow H11.out).below hmid.1 (by have := HX3.out.lt; omega)
            have hY := (HY8.out.grow H11.out).below hmid.1 (by have := HY3.out.lt; omega)
            have x0 : wr.cell? ⟨w.heap.size, 0, none⟩ = some (.int .i64 n) := hX.cell 0
            have x1 : wr.cell? ⟨w.heap.size, 1, none⟩ = some (.slice A bs.length cap) := hX.cell 1
            have y0 : wr.cell? ⟨w2.heap.size, 0, none⟩ = some (.int .i64 n) := hY.cell 0
            have y1 : wr.cell? ⟨w2.heap.size, 1, none⟩ = some (.slice A2 bs.length k2) := hY.cell 1
            have HMID := Lib.hid hmid
            have hH11 := H11.out.size
            have hbC := HMID.out.sl ((Sl.own_from HCB8.out).grow H11.out) (fun i _ h => h)
            have hbP := HMID.out.sl ((Sl.own_from HPB8.out).grow H11.out) (fun i _ h => h)
            have hwC := HMID.out.sl ((Sl.own_from HCW8.out).grow H11.out) (fun i _ h => h)
            have hwP := HMID.out.sl ((Sl.own_from HPW8.out).grow H11.out) (fun i _ h => h)
            have hall : Below u3.heap.size u3 wr := (HU8.out.trans (H11.out.mono HU8.out.size)).trans (HMID.out.1.mono (Nat.le_refl _))
            have HALL := Lib.hid hall
            have HBC := Lib.hid hbC
            have HBP := Lib.hid hbP
            have HWC := Lib.hid hwC
            have HWP := Lib.hid hwP
            have HXr := Lib.hid hX
            have HYr := Lib.hid hY
            clear hmid hPb hPw hX hY hbC hbP hwC hwP hall ho1 ho2 a0 hPa
            go_wp2_with (first
              | (go_at_call 22; refine (HSAME.out _ _ _ _ _ _ _ _ _ _ _ _ _ HBC.out HWC.out HBP.out HWP.out).mono ?_; rintro e w12 ⟨rfl, hb12⟩; have H12 := Lib.hid hb12; have hX := HXr.out.grow hb12; have hY := HYr.out.grow hb12; obtain ⟨x0, x1, y0, y1⟩ : w12.cell? ⟨w.heap.size, 0, none⟩ = some (.int .i64 n) ∧ w12.cell? ⟨w.heap.size, 1, none⟩ = some (.slice A bs.length cap) ∧ w12.cell? ⟨w2.heap.size, 0, none⟩ = some (.int .i64 n) ∧ w12.cell? ⟨w2.heap.size, 1, none⟩ = some (.slice A2 bs.length k2) := ⟨hX.cell 0, hX.cell 1, hY.cell 0, hY.cell 1⟩; clear hb12 hX hY)
              | (go_at_call 19; refine (stays_any n bs _ _ _ R _ ((HV3.out.grow HALL.out).grow H12.out) ((HB.out.grow (HB3.out.trans (HALL.out.mono HB3.out.size))).grow H12.out) HSM.out).mono ?_; rintro e w13 ⟨rfl, hb13⟩; have H13 := Lib.hid (H12.out.trans (hb13.mono H12.out.size)); clear hb13 x0 x1 y0 y1 q0 q1 q2 t0 t1 t2)
              | (go_at_call 14; refine (works_any _).mono ?_; rintro e w14 ⟨rfl, hb14⟩; have H14 := Lib.hid (H13.out.trans (hb14.mono H13.out.size)); clear hb14))
            go_ret
            exact ⟨rfl, (HB3.out.trans (HALL.out.mono HB3.out.size)).trans (H14.out.mono (HB3.out.trans (HALL.out.mono HB3.out.size)).size)⟩
end Go.Proofs.Ytcigobiolbojhaa.Vb

/- Plain: what a winner costs the others; with more offered for what it wins a buyer wins that, and pays the same. -/
namespace Go.Proofs.Ytcigobiolbojhaa.Vb

def SubG (a b : Nat) : Prop := ∀ i, a.testBit i = true → b.testBit i = true
theorem compl_bit {b : Nat} (hb : b < 4294967296) (i : Nat) : (4294967295 - b).testBit i = (decide (i < 32) && !b.testBit i) := by
  have e : 4294967295 - b = 2 ^ 32 - (b + 1) := by omega
  rw [e, Nat.testBit_two_pow_sub_succ (by simpa using hb)]
theorem andNot_bit {a b : Nat} (hb : b < 4294967296) (i : Nat) : (andNot a b).testBit i = (a.testBit i && (decide (i < 32) && !b.testBit i)) := by
  unfold andNot
  rw [Nat.testBit_and, compl_bit hb]
theorem bit_lt {a i : Nat} (ha : a < 4294967296) (h : a.testBit i = true) : i < 32 := by
  rcases Nat.lt_or_ge i 32 with h1 | h1
  · exact h1
  · have : a.testBit i = false := Nat.testBit_lt_two_pow (Nat.lt_of_lt_of_le ha (by
      have : 2 ^ 32 ≤ 2 ^ i := Nat.pow_le_pow_right (by omega) h1
      simpa using this))
    rw [this] at h
    cases h
theorem andNot_sub {a b : Nat} (hb : b < 4294967296) : SubG (andNot a b) a := fun i h => by
  rw [andNot_bit hb] at h
  simp at h
  exact h.1
theorem andNot_zero_iff {a b : Nat} (ha : a < 4294967296) (hb : b < 4294967296) : andNot a b = 0 ↔ SubG a b := by
  constructor
  · intro h i hi
    have := andNot_bit (a := a) hb i
    rw [h, hi] at this
    simpa [bit_lt ha hi] using this.symm
  · intro h
    apply Nat.eq_of_testBit_eq
    intro i
    rw [andNot_bit hb]
    cases hi : a.testBit i with
    | false => simp
    | true => simp [h i hi]
theorem SubG.trans {a b c : Nat} (h : SubG a b) (k : SubG b c) : SubG a c := fun i hi => k i (h i hi)
theorem SubG.andNot {a b c : Nat} (hc : c < 4294967296) (h : SubG a b) : SubG (Vb.andNot a c) (Vb.andNot b c) := fun i hi => by
  rw [andNot_bit hc] at hi ⊢
  simp at hi ⊢
  exact ⟨h i hi.1, hi.2⟩
theorem andNot_lt {a b : Nat} (ha : a < 4294967296) : Vb.andNot a b < 4294967296 := Nat.lt_of_le_of_lt (andNot_le a b) ha

/-- every offer's set is a set of goods -/
def GoodL (bs : List (List Off)) : Prop := ∀ l ∈ bs, ∀ o ∈ l, o.g < 4294967296

theorem fold_mono2 {g g' : Nat → Int} {f f' : Nat} (hstep : ∀ (o : Off) (b b' : Int), o.g < 4294967296 → b ≤ b' → stepO g f b o ≤ stepO g' f' b' o) : ∀ (l : List Off) {b b' : Int}, (∀ o ∈ l, o.g < 4294967296) → b ≤ b' → l.foldl (stepO g f) b ≤ l.foldl (stepO g' f') b'
  | [], _, _, _, h => h
  | o :: l, _, _, hl, h => fold_mono2 hstep l (fun x hx => hl x (by simp [hx])) (hstep o _ _ (hl o (by simp)) h)
/-- fewer goods, less worth -/
theorem W_free : ∀ (bs : List (List Off)) (f f' : Nat), GoodL bs → f < 4294967296 → f' < 4294967296 → SubG f f' → W bs f ≤ W bs f'
  | [], _, _, _, _, _, _ => Int.le_refl _
  | l :: bs, f, f', hg, hf, hf', hs => by
    have hg' : GoodL bs := fun x hx => hg x (by simp [hx])
    refine fold_mono2 (fun o b b' ho hb => ?_) l (hg l (by simp)) (W_free bs f f' hg' hf hf' hs)
    unfold stepO
    by_cases h1 : andNot o.g f = 0
    · have h2 : andNot o.g f' = 0 := (andNot_zero_iff ho hf').2 (((andNot_zero_iff ho hf).1 h1).trans hs)
      rw [if_pos h1, if_pos h2]
      have := W_free bs (andNot f o.g) (andNot f' o.g) hg' (andNot_lt hf) (andNot_lt hf') (hs.andNot ho)
      omega
    · rw [if_neg h1]
      split <;> omega

theorem pickAt_get' {g : Nat → Int} {f : Nat} {left : Int} : ∀ {l : List Off} {j x : Nat}, pickAt g f left l = some (j, x) → ∃ o, l[j]? = some o ∧ o.g = x ∧ andNot o.g f = 0 ∧ o.c + g (andNot f o.g) = left ∧ ∀ i y, i < j → l[i]? = some y → pickB g f left y = false
  | o :: l, j, x, h => by
    simp only [pickAt] at h
    split at h
    · rename_i hb
      simp only [Option.some.injEq, Prod.mk.injEq] at h
      obtain ⟨rfl, rfl⟩ := h
      simp only [pickB, Bool.and_eq_true, decide_eq_true_eq] at hb
      exact ⟨o, rfl, rfl, hb.1, hb.2, fun i y hi => by omega⟩
    · rename_i hb
      cases hp : pickAt g f left l with
      | none => rw [hp] at h; cases h
      | some p =>
        rw [hp] at h
        simp only [Option.map_some, Option.some.injEq, Prod.mk.injEq] at h
        obtain ⟨rfl, rfl⟩ := h
        obtain ⟨o', h1, h2, h3, h4, h5⟩ := pickAt_get' (j := p.1) (x := p.2) hp
        refine ⟨o', by simpa using h1, h2, h3, h4, fun i y hi hy => ?_⟩
        cases i with
        | zero => simp at hy; subst hy; simpa using hb
        | succ i => exact h5 i y (by omega) (by simpa using hy)
theorem pickAt_none' {g : Nat → Int} {f : Nat} {left : Int} : ∀ {l : List Off}, pickAt g f left l = none → ∀ o ∈ l, pickB g f left o = false
  | [], _, o, h => by cases h
  | x :: l, h, o, ho => by
    simp only [pickAt] at h
    split at h
    · cases h
    · rename_i hb
      rcases List.mem_cons.1 ho with rfl | ho
      · simpa using hb
      · exact pickAt_none' (by simpa using h) o ho

/-- what the others have without a winner is at least all less what it offers -/
theorem W_win : ∀ (bs : List (List Off)) (k f j : Nat) (l : List Off) (o : Off), GoodL bs → f < 4294967296 → (choose bs f)[k]? = some (j : Int) → bs[k]? = some l → l[j]? = some o → W bs f ≤ W (bs.set k []) f + o.c
  | [], k, f, j, l, o, _, _, h, _, _ => by simp [choose] at h
  | l0 :: bs, 0, f, j, l, o, hg, hf, h, hl, ho => by
    simp only [List.getElem?_cons_zero, Option.some.injEq] at hl
    subst hl
    simp only [choose, List.getElem?_cons_zero, Option.some.injEq] at h
    unfold pickN at h
    cases hp : pickAt (W bs) f (W (l0 :: bs) f) l0 with
    | none => rw [hp] at h; simp only at h; omega
    | some p =>
      rw [hp] at h
      simp only at h
      obtain ⟨o', h1, h2, h3, h4, _⟩ := pickAt_get' (j := p.1) (x := p.2) hp
      have hj : p.1 = j := by omega
      rw [hj, ho] at h1
      have h1' := Option.some.inj h1
      subst h1'
      have hg' : GoodL bs := fun x hx => hg x (by simp [hx])
      have hog := hg l0 (by simp) o (List.mem_of_getElem? ho)
      have := W_free bs (andNot f o.g) f hg' (andNot_lt hf) hf (andNot_sub hog)
      simp only [List.set_cons_zero]
      show W (l0 :: bs) f ≤ W bs f + o.c
      omega
  | l0 :: bs, k + 1, f, j, l, o, hg, hf, h, hl, ho => by
    have hg' : GoodL bs := fun x hx => hg x (by simp [hx])
    simp only [choose, List.getElem?_cons_succ] at h hl
    simp only [List.set_cons_succ]
    unfold pickN at h
    cases hp : pickAt (W bs) f (W (l0 :: bs) f) l0 with
    | none =>
      rw [hp] at h
      have ih := W_win bs k f j l o hg' hf h hl ho
      rw [pick_none_W hp]
      have := fold_ge (W (bs.set k [])) f l0 (W (bs.set k []) f)
      show W bs f ≤ W (l0 :: bs.set k []) f + o.c
      simp only [W]
      omega
    | some p =>
      obtain ⟨j0, x⟩ := p
      rw [hp] at h
      obtain ⟨o0, ho0, rfl, hf0, he0⟩ := pickAt_att hp
      have ih := W_win bs k (andNot f o0.g) j l o hg' (andNot_lt hf) h hl ho
      have := fold_mem (g := W (bs.set k [])) (f := f) l0 (W (bs.set k []) f) o0 ho0 hf0
      show W (l0 :: bs) f ≤ W (l0 :: bs.set k []) f + o.c
      simp only [W] at he0 ⊢
      omega

/-- a list in which one offer is raised -/
def raiseL (l : List Off) (n : Nat) (more : Int) : List Off := l.modify n fun o => ⟨o.g, o.c + more⟩
def raiseB (bs : List (List Off)) (b n : Nat) (more : Int) : List (List Off) := bs.modify b fun l => raiseL l n more
theorem raiseL_get (l : List Off) (n : Nat) (more : Int) (i : Nat) : (raiseL l n more)[i]? = (l[i]?).map fun o => if i = n then ⟨o.g, o.c + more⟩ else o := by
  unfold raiseL
  rw [List.getElem?_modify]
  by_cases h : n = i
  · subst h; cases l[n]? <;> simp
  · have h' : ¬ i = n := fun e => h e.symm
    cases l[i]? <;> simp [h, h']
theorem fold_raise {g : Nat → Int} {f : Nat} {more : Int} (hm : 0 ≤ more) : ∀ (l : List Off) (n : Nat) {b b' : Int}, b' ≤ b + more → (raiseL l n more).foldl (stepO g f) b' ≤ l.foldl (stepO g f) b + more := by
  intro l n b b' hb
  refine fold_le g f _ _ _ (fun o ho hfe => ?_) (Int.le_trans hb (Int.add_le_add_right (fold_ge g f l b) _))
  obtain ⟨i, hi⟩ := List.getElem?_of_mem ho
  rw [raiseL_get] at hi
  cases hl : l[i]? with
  | none => rw [hl] at hi; cases hi
  | some x =>
    rw [hl] at hi
    simp only [Option.map_some, Option.some.injEq] at hi
    have hx : x ∈ l := List.mem_of_getElem? hl
    by_cases hin : i = n
    · rw [if_pos hin] at hi
      subst hi
      have := fold_mem (g := g) (f := f) l b x hx hfe
      simp only
      omega
    · rw [if_neg hin] at hi
      subst hi
      have := fold_mem (g := g) (f := f) l b x hx hfe
      omega
theorem W_raise_le {more : Int} (hm : 0 ≤ more) : ∀ (bs : List (List Off)) (b n f : Nat), W (raiseB bs b n more) f ≤ W bs f + more
  | [], b, n, f => by
    have : raiseB [] b n more = [] := by unfold raiseB; cases b <;> rfl
    rw [this]; simp only [W]; omega
  | l :: bs, 0, n, f => by
    show W (raiseL l n more :: bs) f ≤ W (l :: bs) f + more
    simp only [W]
    exact fold_raise hm l n (by omega)
  | l :: bs, b + 1, n, f => by
    have ih := W_raise_le hm bs b n
    show W (l :: raiseB bs b n more) f ≤ W (l :: bs) f + more
    simp only [W]
    refine fold_le _ _ _ _ _ (fun o ho hfe => ?_) (Int.le_trans (ih f) (Int.add_le_add_right (fold_ge _ _ _ _) _))
    have h1 := fold_mem (g := W bs) (f := f) l (W bs f) o ho hfe
    have h2 := ih (andNot f o.g)
    omega

theorem pickB_lt {g : Nat → Int} {f : Nat} {left : Int} {l : List Off} {b : Int} {o : Off} (hl : l.foldl (stepO g f) b = left) (ho : o ∈ l) (hp : pickB g f left o = false) (hfe : andNot o.g f = 0) : o.c + g (andNot f o.g) < left := by
  have h1 := fold_mem (g := g) (f := f) l b o ho hfe
  simp only [pickB, Bool.and_eq_false_iff, decide_eq_false_iff_not] at hp
  rcases hp with h | h
  · exact absurd hfe h
  · omega
theorem pickB_false_of {g : Nat → Int} {f : Nat} {left : Int} {o : Off} (h : andNot o.g f = 0 → o.c + g (andNot f o.g) < left) : pickB g f left o = false := by
  simp only [pickB, Bool.and_eq_false_iff, decide_eq_false_iff_not]
  by_cases hf : andNot o.g f = 0
  · exact .inr (by have := h hf; omega)
  · exact .inl hf

/-- with more offered for what it wins, all is worth that much more, and it wins the same -/
theorem choose_raise {more : Int} (hm : 0 < more) : ∀ (bs : List (List Off)) (b f n : Nat) (l : List Off) (o : Off), (choose bs f)[b]? = some (n : Int) → bs[b]? = some l → l[n]? = some o →
    W (raiseB bs b n more) f = W bs f + more ∧ (choose (raiseB bs b n more) f)[b]? = some (n : Int)
  | [], b, f, n, l, o, h, _, _ => by simp [choose] at h
  | l0 :: bs, 0, f, n, l, o, h, hl, ho => by
    simp only [List.getElem?_cons_zero, Option.some.injEq] at hl
    subst hl
    simp only [choose, List.getElem?_cons_zero, Option.some.injEq] at h
    unfold pickN at h
    cases hp : pickAt (W bs) f (W (l0 :: bs) f) l0 with
    | none => rw [hp] at h; simp only at h; omega
    | some p =>
      rw [hp] at h
      simp only at h
      obtain ⟨o', h1, h2, h3, h4, h5⟩ := pickAt_get' (j := p.1) (x := p.2) hp
      have hj : p.1 = n := by omega
      rw [hj, ho] at h1
      have h1' := Option.some.inj h1
      subst h1'
      rw [hj] at h5
      have hrn : (raiseL l0 n more)[n]? = some ⟨o.g, o.c + more⟩ := by rw [raiseL_get, ho]; simp
      have hW : W (raiseL l0 n more :: bs) f = W (l0 :: bs) f + more := by
        refine Int.le_antisymm (W_raise_le (by omega) (l0 :: bs) 0 n f) ?_
        have := fold_mem (g := W bs) (f := f) (raiseL l0 n more) (W bs f) ⟨o.g, o.c + more⟩ (List.mem_of_getElem? hrn) h3
        show W (l0 :: bs) f + more ≤ (raiseL l0 n more).foldl (stepO (W bs) f) (W bs f)
        simp only at this
        omega
      refine ⟨hW, ?_⟩
      show (choose (raiseL l0 n more :: bs) f)[0]? = some (n : Int)
      simp only [choose, List.getElem?_cons_zero, Option.some.injEq]
      rw [hW, pickN_some (o := ⟨o.g, o.c + more⟩) hrn ?_ ?_]
      · simp only [pickB, Bool.and_eq_true, decide_eq_true_eq]
        exact ⟨h3, by omega⟩
      · intro j x hjn hx
        rw [raiseL_get] at hx
        cases hl0 : l0[j]? with
        | none => rw [hl0] at hx; cases hx
        | some y =>
          rw [hl0] at hx
          simp only [Option.map_some, Option.some.injEq, if_neg (show ¬ j = n by omega)] at hx
          subst hx
          exact pickB_false_of fun hfe => by
            have := pickB_lt (g := W bs) (l := l0) (b := W bs f) rfl (List.mem_of_getElem? hl0) (h5 j y hjn hl0) hfe
            show _ < W (l0 :: bs) f + more
            simp only [W] at this ⊢
            omega
  | l0 :: bs, b + 1, f, n, l, o, h, hl, ho => by
    simp only [choose, List.getElem?_cons_succ] at h hl
    show W (l0 :: raiseB bs b n more) f = W (l0 :: bs) f + more ∧ (choose (l0 :: raiseB bs b n more) f)[b + 1]? = some (n : Int)
    have hle : W (l0 :: raiseB bs b n more) f ≤ W (l0 :: bs) f + more := W_raise_le (by omega) (l0 :: bs) (b + 1) n f
    have hlt : ∀ x ∈ l0, pickB (W bs) f (W (l0 :: bs) f) x = false → pickB (W (raiseB bs b n more)) f (W (l0 :: bs) f + more) x = false := fun x hx hp => pickB_false_of fun hfe => by
      have h1 := pickB_lt (g := W bs) (l := l0) (b := W bs f) rfl hx hp hfe
      have h2 := W_raise_le (Int.le_of_lt hm) bs b n (andNot f x.g)
      simp only [W] at h1 ⊢
      omega
    unfold pickN at h
    cases hp : pickAt (W bs) f (W (l0 :: bs) f) l0 with
    | none =>
      rw [hp] at h
      simp only at h
      obtain ⟨ih1, ih2⟩ := choose_raise hm bs b f n l o h hl ho
      have hW : W (l0 :: raiseB bs b n more) f = W (l0 :: bs) f + more := by
        refine Int.le_antisymm hle ?_
        rw [pick_none_W hp, ← ih1]
        exact fold_ge _ _ _ _
      refine ⟨hW, ?_⟩
      simp only [choose, List.getElem?_cons_succ]
      rw [hW]
      unfold pickN
      rw [pickAt_none (W (raiseB bs b n more)) f _ l0 (fun x hx => hlt x hx (pickAt_none' hp x hx))]
      exact ih2
    | some p =>
      obtain ⟨j0, x0⟩ := p
      rw [hp] at h
      simp only at h
      obtain ⟨o0, ho0, hx0, hf0, he0, hfirst⟩ := pickAt_get' hp
      subst hx0
      obtain ⟨ih1, ih2⟩ := choose_raise hm bs b (andNot f o0.g) n l o h hl ho
      have hW : W (l0 :: raiseB bs b n more) f = W (l0 :: bs) f + more := by
        refine Int.le_antisymm hle ?_
        have := fold_mem (g := W (raiseB bs b n more)) (f := f) l0 (W (raiseB bs b n more) f) o0 (List.mem_of_getElem? ho0) hf0
        show W (l0 :: bs) f + more ≤ l0.foldl (stepO (W (raiseB bs b n more)) f) (W (raiseB bs b n more) f)
        omega
      refine ⟨hW, ?_⟩
      simp only [choose, List.getElem?_cons_succ]
      rw [hW, pickN_some (o := o0) ho0 ?_ ?_]
      · exact ih2
      · simp only [pickB, Bool.and_eq_true, decide_eq_true_eq]
        exact ⟨hf0, by omega⟩
      · intro j x hjn hx
        exact hlt x (List.mem_of_getElem? hx) (hfirst j x hjn hx)
end Go.Proofs.Ytcigobiolbojhaa.Vb

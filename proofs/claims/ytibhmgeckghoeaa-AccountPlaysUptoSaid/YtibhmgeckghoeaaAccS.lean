/- Account: Bring. (Printed by tools/gen_bring.py.) -/
import Derived.Test.YtibhmgeckghoeaaAccR
namespace Go.Proofs.Ytibhmgeckghoeaa.Ac
open Go.RowKit Go.Shelf Go.Maps
open Go.Proofs.Ytibhmgeckghoeaa.Vb
attribute [local go_sem] Oper.semAt_some

def Acc.bringE (a : Acc) (v : Int) : Int := if coin v ∧ coin (a.bud + v) then 0 else 2

set_option maxRecDepth 100000 in
set_option maxHeartbeats 4000000 in
theorem bring_live {b m n : Nat} {a : Acc} {w : World} (h : AccAt w b m n a) (ho : coin a.bud) {v : Int} :
    Calls Try.prog 43 #[.pointer (some ⟨b, 0, none⟩), .int .i64 v] w fun e w' =>
      (a.bringE v ≠ 0 ∧ e = .returned (.int .i64 (a.bringE v)) ∧ Below w.heap.size w w') ∨ (a.bringE v = 0 ∧ e = .returned (.int .i64 0) ∧ AccAt w' b m n (a.bring v) ∧ Chg (· = b) w w') := by
  obtain ⟨U, hU⟩ : ∃ U, U = (w.alloc (.cells #[.pointer (some ⟨b, 0, none⟩)] 23)).alloc (.cells #[.int .i64 v] 2) := ⟨_, rfl⟩
  have hB : Below w.heap.size w U := by rw [hU]; exact ((Below.refl _ _).alloc (Nat.le_refl _) _).alloc (by simp) _
  have b0 : Blk U w.heap.size 23 #[.pointer (some ⟨b, 0, none⟩)] := by rw [hU]; exact (Blk.new w _ _).alloc _
  have b1 : Blk U (w.heap.size + 1) 2 #[.int .i64 v] := by rw [hU]; exact Blk.new' _ _ (by simp)
  have hAU := h.grow hB
  have hU1 : Below U.heap.size U U.drew := (Below.refl _ _).drew
  have may := fun right => may_live (w := U.drew) (hAU.grow hU1) right 64 65 #[] #[.pointer (some ⟨w.heap.size + 1, 0, none⟩)] #[.pointer (some ⟨w.heap.size, 0, none⟩), .pointer (some ⟨w.heap.size + 1, 0, none⟩)] v v
    (enters_of Try.func64 (by kernel_rfl) rfl) (enters_of Try.func65 (by kernel_rfl) rfl) (by rw [Array.empty_append]; exact (bring1_any (b1.grow hU1)).mono fun e w' ⟨h1, h2⟩ => ⟨h1, by rw [h2]; exact Below.refl _ _⟩)
    (fun W => AccAt W b m n (a.bring v) ∧ Chg (· = b) w W ∧ Chg (· = b) U W) (fun _ hc _ W hW => (bring2_any ((hAU.grow hU1).grow hW) ho hc ((b0.grow hU1).grow hW) ((b1.grow hU1).grow hW)).mono fun e w' ⟨h1, h2, h3⟩ => ⟨h1, h2, (((Chg.of _ hB).grow hU1).grow hW).step h3 fun _ _ h => h, ((Chg.of _ hU1).grow hW).step h3 fun _ _ h => h⟩)
  have k0 : U.cell? ⟨w.heap.size, 0, none⟩ = some (.pointer (some ⟨b, 0, none⟩)) := b0.cell 0
  have k1 : U.cell? ⟨w.heap.size + 1, 0, none⟩ = some (.int .i64 v) := b1.cell 0
  have k2 : U.cell? ⟨b, 0, none⟩ = some (.int .i64 a.bud) := hAU.blk.cell 0
  have hlb := h.ltb
  have k2' : U.drew.cell? ⟨b, 0, none⟩ = some (.int .i64 a.bud) := k2
  have l0 := b0.lt
  have l1 := b1.lt
  have l2 := hAU.blk.lt
  have HB := Lib.hid hB
  have HV := Lib.hid (show AtP U (.pointer (some ⟨b, 0, none⟩)) (.live a) from ⟨_, _, _, rfl, hAU⟩)
  have HT := Lib.hid (show (Fm.live a).there = true from rfl)
  have MAY := Lib.hid may
  have HE := Lib.hid (show a.bringE v = if coin v ∧ coin (a.bud + v) then 0 else 2 from rfl)
  obtain ⟨en, hen⟩ : ∃ z, z = a.bringE v := ⟨_, rfl⟩
  rw [← hen] at HE ⊢
  obtain ⟨x, hx⟩ : ∃ z, z = a.bud := ⟨_, rfl⟩
  rw [← hx] at HE k2 k2' ho
  have HO := Lib.hid ho
  have HU := Lib.hid hU
  clear h hU hB b0 b1 hAU hU1 may hen hx ho
  by_cases c1 : coin v
  · have hwr := add_wrap HO.out c1
    have HD1 := Lib.hid (decide_eq_true c1)
    by_cases c2 : coin (x + v)
    · have HD2 := Lib.hid (decide_eq_true c2)
      have HEE := Lib.hid (HE.out.trans (if_pos ⟨c1, c2⟩))
      clear c1 c2
      go_enter Try.func43, Try.ntmps43
      go_wp2_with fail
      rw [← HU.out]
      refine wp_region_F (Chg (· = b) U) [] (by kernel_rfl) ((Chg.refl _ _).grow (Below.refl _ _).drew) (fun hS => ?_)
      refine wpAnyF_take (i := 0) (oi := { dst := some 5, op := Go.Op.load 23 (Go.Operand.tmp 2), type := 23, pos := "account.go:76", after := #[], guard := none }) (v := ?_) rfl (by kernel_rfl) (by kernel_rfl) (by kernel_rfl) (by kernel_rfl) (fun _ _ _ h => h) (Or.inl ⟨by rfl, ?_⟩) hS ?_
      rotate_left
      · intro w' hSw; have q0 := (World.cell?_of_block (a := ⟨w.heap.size, 0, none⟩) (hSw.block w.heap.size l0 (by omega))).trans k0; have q1 := (World.cell?_of_block (a := ⟨w.heap.size + 1, 0, none⟩) (hSw.block (w.heap.size + 1) l1 (by omega))).trans k1; go_simp; try with_reducible rfl
      try simp only [Act.put, List.setIfInBounds_toArray, List.set_cons_zero, List.set_cons_succ]
      refine wpAnyF_take (i := 1) (oi := { dst := some 6, op := Go.Op.load 23 (Go.Operand.tmp 2), type := 23, pos := "account.go:76", after := #[], guard := none }) (v := ?_) rfl (by kernel_rfl) (by kernel_rfl) (by kernel_rfl) (by kernel_rfl) (fun _ _ _ h => h) (Or.inl ⟨by rfl, ?_⟩) hS ?_
      rotate_left
      · intro w' hSw; have q0 := (World.cell?_of_block (a := ⟨w.heap.size, 0, none⟩) (hSw.block w.heap.size l0 (by omega))).trans k0; have q1 := (World.cell?_of_block (a := ⟨w.heap.size + 1, 0, none⟩) (hSw.block (w.heap.size + 1) l1 (by omega))).trans k1; go_simp; try with_reducible rfl
      try simp only [Act.put, List.setIfInBounds_toArray, List.set_cons_zero, List.set_cons_succ]
      refine wpAnyF_take (i := 16) (oi := { dst := some 21, op := Go.Op.makeFunc (Go.Fn.func 64) #[] #[Go.Operand.tmp 3], type := 54, pos := "account.go:76", after := #[], guard := none }) (v := ?_) rfl (by kernel_rfl) (by kernel_rfl) (by kernel_rfl) (by kernel_rfl) (fun _ _ _ h => h) (Or.inl ⟨by rfl, ?_⟩) hS ?_
      rotate_left
      · intro w' hSw; have q0 := (World.cell?_of_block (a := ⟨w.heap.size, 0, none⟩) (hSw.block w.heap.size l0 (by omega))).trans k0; have q1 := (World.cell?_of_block (a := ⟨w.heap.size + 1, 0, none⟩) (hSw.block (w.heap.size + 1) l1 (by omega))).trans k1; go_simp; try with_reducible rfl
      try simp only [Act.put, List.setIfInBounds_toArray, List.set_cons_zero, List.set_cons_succ]
      refine wpAnyF_take (i := 17) (oi := { dst := some 22, op := Go.Op.load 2 (Go.Operand.tmp 3), type := 2, pos := "account.go:76", after := #[], guard := none }) (v := ?_) rfl (by kernel_rfl) (by kernel_rfl) (by kernel_rfl) (by kernel_rfl) (fun _ _ _ h => h) (Or.inl ⟨by rfl, ?_⟩) hS ?_
      rotate_left
      · intro w' hSw; have q0 := (World.cell?_of_block (a := ⟨w.heap.size, 0, none⟩) (hSw.block w.heap.size l0 (by omega))).trans k0; have q1 := (World.cell?_of_block (a := ⟨w.heap.size + 1, 0, none⟩) (hSw.block (w.heap.size + 1) l1 (by omega))).trans k1; go_simp; try with_reducible rfl
      try simp only [Act.put, List.setIfInBounds_toArray, List.set_cons_zero, List.set_cons_succ]
      refine wpAnyF_take (i := 18) (oi := { dst := some 23, op := Go.Op.makeFunc (Go.Fn.func 65) #[] #[Go.Operand.tmp 2, Go.Operand.tmp 3], type := 1, pos := "account.go:76", after := #[], guard := none }) (v := ?_) rfl (by kernel_rfl) (by kernel_rfl) (by kernel_rfl) (by kernel_rfl) (fun _ _ _ h => h) (Or.inl ⟨by rfl, ?_⟩) hS ?_
      rotate_left
      · intro w' hSw; have q0 := (World.cell?_of_block (a := ⟨w.heap.size, 0, none⟩) (hSw.block w.heap.size l0 (by omega))).trans k0; have q1 := (World.cell?_of_block (a := ⟨w.heap.size + 1, 0, none⟩) (hSw.block (w.heap.size + 1) l1 (by omega))).trans k1; go_simp; try with_reducible rfl
      try simp only [Act.put, List.setIfInBounds_toArray, List.set_cons_zero, List.set_cons_succ]
      refine wpAnyF_ready (rs := [2]) (by kernel_rfl) (by simp) ?_
      refine AllReadyF.cons (o := { dst := some 7, op := Go.Op.call { callee := Go.Callee.value (Go.Operand.func 38), args := #[Go.Operand.tmp 6], argTypes := #[23] }, type := 4, pos := "account.go:76", after := #[{ on := 1, ground := Go.Ground.data }], guard := none }) rfl (by rfl) (fun K hK => ?_) ?_
      · go_simp
        refine (there_any (HV.out.grow (Below.refl _ _).drew)).mono ?_
        rintro e w7 ⟨rfl, hw7⟩
        rw [hw7]
        clear hw7
        rw [HT.out]
        refine hK.out _ _ ?_ (fun hS => ?_)
        · exact hS
        clear hK K
        try simp only [Act.put, List.setIfInBounds_toArray, List.set_cons_zero, List.set_cons_succ]
        refine wpAnyF_take (i := 3) (oi := { dst := some 8, op := Go.Op.move (Go.Operand.tmp 7), type := 4, pos := "account.go:76", after := #[{ on := 2, ground := Go.Ground.data }, { on := 2, ground := Go.Ground.chain }], guard := none }) (v := ?_) rfl (by kernel_rfl) (by kernel_rfl) (by kernel_rfl) (by kernel_rfl) (fun _ _ _ h => h) (Or.inl ⟨by rfl, ?_⟩) hS ?_
        rotate_left
        · intro w' hSw; have q0 := (World.cell?_of_block (a := ⟨w.heap.size, 0, none⟩) (hSw.block w.heap.size l0 (by omega))).trans k0; have q1 := (World.cell?_of_block (a := ⟨w.heap.size + 1, 0, none⟩) (hSw.block (w.heap.size + 1) l1 (by omega))).trans k1; go_simp; try with_reducible rfl
        try simp only [Act.put, List.setIfInBounds_toArray, List.set_cons_zero, List.set_cons_succ]
        refine wpAnyF_take (i := 4) (oi := { dst := some 9, op := Go.Op.load 2 (Go.Operand.tmp 3), type := 2, pos := "account.go:76", after := #[{ on := 3, ground := Go.Ground.guard }], guard := some (3, true) }) (v := ?_) rfl (by kernel_rfl) (by kernel_rfl) (by kernel_rfl) (by kernel_rfl) (fun _ _ _ h => h) (Or.inl ⟨by rfl, ?_⟩) hS ?_
        rotate_left
        · intro w' hSw; have q0 := (World.cell?_of_block (a := ⟨w.heap.size, 0, none⟩) (hSw.block w.heap.size l0 (by omega))).trans k0; have q1 := (World.cell?_of_block (a := ⟨w.heap.size + 1, 0, none⟩) (hSw.block (w.heap.size + 1) l1 (by omega))).trans k1; go_simp; try with_reducible rfl
        try simp only [Act.put, List.setIfInBounds_toArray, List.set_cons_zero, List.set_cons_succ]
        refine wpAnyF_ready (rs := [5]) (by kernel_rfl) (by simp) ?_
        refine AllReadyF.cons (o := { dst := some 10, op := Go.Op.call { callee := Go.Callee.value (Go.Operand.func 40), args := #[Go.Operand.tmp 9], argTypes := #[2] }, type := 4, pos := "account.go:76", after := #[{ on := 4, ground := Go.Ground.data }, { on := 3, ground := Go.Ground.chain }, { on := 3, ground := Go.Ground.guard }], guard := some (3, true) }) rfl (by rfl) (fun K hK => ?_) ?_
        · go_simp
          refine (coins_any v _).mono ?_
          rintro e w7 ⟨rfl, hw7⟩
          rw [hw7]
          clear hw7
          rw [HD1.out]
          refine hK.out _ _ ?_ (fun hS => ?_)
          · exact hS
          clear hK K
          try simp only [Act.put, List.setIfInBounds_toArray, List.set_cons_zero, List.set_cons_succ]
          refine wpAnyF_take (i := 6) (oi := { dst := some 11, op := Go.Op.pick (Go.Operand.tmp 8) (Go.Operand.tmp 10) (Go.Operand.const (Go.Value.bool false)), type := 4, pos := "account.go:76", after := #[{ on := 3, ground := Go.Ground.data }, { on := 5, ground := Go.Ground.data }], guard := none }) (v := ?_) rfl (by kernel_rfl) (by kernel_rfl) (by kernel_rfl) (by kernel_rfl) (fun _ _ _ h => h) (Or.inl ⟨by rfl, ?_⟩) hS ?_
          rotate_left
          · intro w' hSw; have q0 := (World.cell?_of_block (a := ⟨w.heap.size, 0, none⟩) (hSw.block w.heap.size l0 (by omega))).trans k0; have q1 := (World.cell?_of_block (a := ⟨w.heap.size + 1, 0, none⟩) (hSw.block (w.heap.size + 1) l1 (by omega))).trans k1; go_simp; try with_reducible rfl
          try simp only [Act.put, List.setIfInBounds_toArray, List.set_cons_zero, List.set_cons_succ]
          refine wpAnyF_take (i := 7) (oi := { dst := some 12, op := Go.Op.move (Go.Operand.tmp 11), type := 4, pos := "account.go:76", after := #[{ on := 6, ground := Go.Ground.data }, { on := 5, ground := Go.Ground.chain }], guard := none }) (v := ?_) rfl (by kernel_rfl) (by kernel_rfl) (by kernel_rfl) (by kernel_rfl) (fun _ _ _ h => h) (Or.inl ⟨by rfl, ?_⟩) hS ?_
          rotate_left
          · intro w' hSw; have q0 := (World.cell?_of_block (a := ⟨w.heap.size, 0, none⟩) (hSw.block w.heap.size l0 (by omega))).trans k0; have q1 := (World.cell?_of_block (a := ⟨w.heap.size + 1, 0, none⟩) (hSw.block (w.heap.size + 1) l1 (by omega))).trans k1; go_simp; try with_reducible rfl
          try simp only [Act.put, List.setIfInBounds_toArray, List.set_cons_zero, List.set_cons_succ]
          refine wpAnyF_take (i := 8) (oi := { dst := some 13, op := Go.Op.load 23 (Go.Operand.tmp 2), type := 23, pos := "account.go:76", after := #[{ on := 7, ground := Go.Ground.guard }], guard := some (7, true) }) (v := ?_) rfl (by kernel_rfl) (by kernel_rfl) (by kernel_rfl) (by kernel_rfl) (fun _ _ _ h => h) (Or.inl ⟨by rfl, ?_⟩) hS ?_
          rotate_left
          · intro w' hSw; have q0 := (World.cell?_of_block (a := ⟨w.heap.size, 0, none⟩) (hSw.block w.heap.size l0 (by omega))).trans k0; have q1 := (World.cell?_of_block (a := ⟨w.heap.size + 1, 0, none⟩) (hSw.block (w.heap.size + 1) l1 (by omega))).trans k1; go_simp; try with_reducible rfl
          try simp only [Act.put, List.setIfInBounds_toArray, List.set_cons_zero, List.set_cons_succ]
          refine wpAnyF_take (i := 9) (oi := { dst := some 14, op := Go.Op.nilCheck (Go.Operand.tmp 13), type := 0, pos := "account.go:76", after := #[{ on := 8, ground := Go.Ground.data }, { on := 7, ground := Go.Ground.guard }], guard := some (7, true) }) (v := ?_) rfl (by kernel_rfl) (by kernel_rfl) (by kernel_rfl) (by kernel_rfl) (fun _ _ _ h => h) (Or.inl ⟨by rfl, ?_⟩) hS ?_
          rotate_left
          · intro w' hSw; have q0 := (World.cell?_of_block (a := ⟨w.heap.size, 0, none⟩) (hSw.block w.heap.size l0 (by omega))).trans k0; have q1 := (World.cell?_of_block (a := ⟨w.heap.size + 1, 0, none⟩) (hSw.block (w.heap.size + 1) l1 (by omega))).trans k1; go_simp; try with_reducible rfl
          try simp only [Act.put, List.setIfInBounds_toArray, List.set_cons_zero, List.set_cons_succ]
          refine wpAnyF_take (i := 10) (oi := { dst := some 15, op := Go.Op.fieldAddr 67 (Go.Operand.tmp 14) 0, type := 0, pos := "account.go:76", after := #[{ on := 9, ground := Go.Ground.data }, { on := 7, ground := Go.Ground.guard }], guard := some (7, true) }) (v := ?_) rfl (by kernel_rfl) (by kernel_rfl) (by kernel_rfl) (by kernel_rfl) (fun _ _ _ h => h) (Or.inl ⟨by rfl, ?_⟩) hS ?_
          rotate_left
          · intro w' hSw; have q0 := (World.cell?_of_block (a := ⟨w.heap.size, 0, none⟩) (hSw.block w.heap.size l0 (by omega))).trans k0; have q1 := (World.cell?_of_block (a := ⟨w.heap.size + 1, 0, none⟩) (hSw.block (w.heap.size + 1) l1 (by omega))).trans k1; go_simp; try with_reducible rfl
          try simp only [Act.put, List.setIfInBounds_toArray, List.set_cons_zero, List.set_cons_succ]
          refine wpAnyF_take (i := 12) (oi := { dst := some 17, op := Go.Op.load 2 (Go.Operand.tmp 3), type := 2, pos := "account.go:76", after := #[{ on := 7, ground := Go.Ground.guard }], guard := some (7, true) }) (v := ?_) rfl (by kernel_rfl) (by kernel_rfl) (by kernel_rfl) (by kernel_rfl) (fun _ _ _ h => h) (Or.inl ⟨by rfl, ?_⟩) hS ?_
          rotate_left
          · intro w' hSw; have q0 := (World.cell?_of_block (a := ⟨w.heap.size, 0, none⟩) (hSw.block w.heap.size l0 (by omega))).trans k0; have q1 := (World.cell?_of_block (a := ⟨w.heap.size + 1, 0, none⟩) (hSw.block (w.heap.size + 1) l1 (by omega))).trans k1; go_simp; try with_reducible rfl
          try simp only [Act.put, List.setIfInBounds_toArray, List.set_cons_zero, List.set_cons_succ]
          refine wpAnyF_ready (rs := [11]) (by kernel_rfl) (by simp) ?_
          refine AllReadyF.cons (o := { dst := some 16, op := Go.Op.load 2 (Go.Operand.tmp 15), type := 2, pos := "account.go:76", after := #[{ on := 10, ground := Go.Ground.data }, { on := 7, ground := Go.Ground.guard }], guard := some (7, true) }) rfl (by rfl) (fun K hK => ?_) ?_
          · go_simp
            refine hK.out _ _ ?_ (fun hS => ?_)
            · exact hS
            clear hK K
            try simp only [Act.put, List.setIfInBounds_toArray, List.set_cons_zero, List.set_cons_succ]
            refine wpAnyF_take (i := 13) (oi := { dst := some 18, op := Go.Op.binOp Go.BinOp.add 2 (Go.Operand.tmp 16) (Go.Operand.tmp 17) 2, type := 2, pos := "account.go:76", after := #[{ on := 11, ground := Go.Ground.data }, { on := 12, ground := Go.Ground.data }, { on := 7, ground := Go.Ground.guard }], guard := some (7, true) }) (v := ?_) rfl (by kernel_rfl) (by kernel_rfl) (by kernel_rfl) (by kernel_rfl) (fun _ _ _ h => h) (Or.inl ⟨by rfl, ?_⟩) hS ?_
            rotate_left
            · intro w' hSw; have q0 := (World.cell?_of_block (a := ⟨w.heap.size, 0, none⟩) (hSw.block w.heap.size l0 (by omega))).trans k0; have q1 := (World.cell?_of_block (a := ⟨w.heap.size + 1, 0, none⟩) (hSw.block (w.heap.size + 1) l1 (by omega))).trans k1; go_simp; try with_reducible rfl
            try simp only [Act.put, List.setIfInBounds_toArray, List.set_cons_zero, List.set_cons_succ]
            refine wpAnyF_ready (rs := [14]) (by kernel_rfl) (by simp) ?_
            refine AllReadyF.cons (o := { dst := some 19, op := Go.Op.call { callee := Go.Callee.value (Go.Operand.func 40), args := #[Go.Operand.tmp 18], argTypes := #[2] }, type := 4, pos := "account.go:76", after := #[{ on := 13, ground := Go.Ground.data }, { on := 7, ground := Go.Ground.chain }, { on := 7, ground := Go.Ground.guard }], guard := some (7, true) }) rfl (by rfl) (fun K hK => ?_) ?_
            · go_simp
              refine (coins_any (x + v) _).mono ?_
              rintro e w7 ⟨rfl, hw7⟩
              rw [hw7]
              clear hw7
              rw [HD2.out]
              refine hK.out _ _ ?_ (fun hS => ?_)
              · exact hS
              clear hK K
              try simp only [Act.put, List.setIfInBounds_toArray, List.set_cons_zero, List.set_cons_succ]
              refine wpAnyF_take (i := 15) (oi := { dst := some 20, op := Go.Op.pick (Go.Operand.tmp 12) (Go.Operand.tmp 19) (Go.Operand.const (Go.Value.bool false)), type := 4, pos := "account.go:76", after := #[{ on := 7, ground := Go.Ground.data }, { on := 14, ground := Go.Ground.data }], guard := none }) (v := ?_) rfl (by kernel_rfl) (by kernel_rfl) (by kernel_rfl) (by kernel_rfl) (fun _ _ _ h => h) (Or.inl ⟨by rfl, ?_⟩) hS ?_
              rotate_left
              · intro w' hSw; have q0 := (World.cell?_of_block (a := ⟨w.heap.size, 0, none⟩) (hSw.block w.heap.size l0 (by omega))).trans k0; have q1 := (World.cell?_of_block (a := ⟨w.heap.size + 1, 0, none⟩) (hSw.block (w.heap.size + 1) l1 (by omega))).trans k1; go_simp; try with_reducible rfl
              try simp only [Act.put, List.setIfInBounds_toArray, List.set_cons_zero, List.set_cons_succ]
              refine wpAnyF_ready (rs := [19]) (by kernel_rfl) (by simp) ?_
              refine AllReadyF.cons (o := { dst := some 24, op := Go.Op.call { callee := Go.Callee.value (Go.Operand.func 34), args := #[Go.Operand.tmp 5, Go.Operand.tmp 20, Go.Operand.tmp 21, Go.Operand.tmp 22, Go.Operand.tmp 23], argTypes := #[23, 4, 54, 2, 1] }, type := 24, pos := "account.go:76", after := #[{ on := 0, ground := Go.Ground.data }, { on := 15, ground := Go.Ground.data }, { on := 16, ground := Go.Ground.data }, { on := 17, ground := Go.Ground.data }, { on := 18, ground := Go.Ground.data }, { on := 14, ground := Go.Ground.chain }], guard := none }) rfl (by rfl) (fun K hK => ?_) ?_
              · go_simp
                refine (MAY.out true).mono ?_
                rintro e w7 (⟨hr, rfl, hq⟩ | ⟨_, _, hlt, _, _⟩ | ⟨_, hc, hle, rfl, hq1, hq2, hq3⟩)
                · exact absurd HD1.out (by simp [hr.resolve_left (by simp)])
                · omega
                have HQ1 := Lib.hid hq1
                have HQ2 := Lib.hid hq2
                clear hc hle hq1 hq2
                refine hK.out _ _ ?_ (fun hS => ?_)
                · exact hq3
                clear hK K
                try simp only [Act.put, List.setIfInBounds_toArray, List.set_cons_zero, List.set_cons_succ]
                refine wpAnyF_take (i := 20) (oi := { dst := some 4, op := Go.Op.assign (Go.Operand.tmp 24), type := 24, pos := "account.go:76", after := #[{ on := 19, ground := Go.Ground.data }, { on := 19, ground := Go.Ground.chain }, { on := 0, ground := Go.Ground.phase }, { on := 1, ground := Go.Ground.phase }, { on := 2, ground := Go.Ground.phase }, { on := 3, ground := Go.Ground.phase }, { on := 4, ground := Go.Ground.phase }, { on := 5, ground := Go.Ground.phase }, { on := 6, ground := Go.Ground.phase }, { on := 7, ground := Go.Ground.phase }, { on := 8, ground := Go.Ground.phase }, { on := 9, ground := Go.Ground.phase }, { on := 10, ground := Go.Ground.phase }, { on := 11, ground := Go.Ground.phase }, { on := 12, ground := Go.Ground.phase }, { on := 13, ground := Go.Ground.phase }, { on := 14, ground := Go.Ground.phase }, { on := 15, ground := Go.Ground.phase }, { on := 16, ground := Go.Ground.phase }, { on := 17, ground := Go.Ground.phase }, { on := 18, ground := Go.Ground.phase }, { on := 19, ground := Go.Ground.phase }], guard := none }) (v := ?_) rfl (by kernel_rfl) (by kernel_rfl) (by kernel_rfl) (by kernel_rfl) (fun _ _ _ h => h) (Or.inl ⟨by rfl, ?_⟩) hS ?_
                rotate_left
                · intro w' hSw; have q0 := (World.cell?_of_block (a := ⟨w.heap.size, 0, none⟩) (hSw.block w.heap.size l0 (by omega))).trans k0; have q1 := (World.cell?_of_block (a := ⟨w.heap.size + 1, 0, none⟩) (hSw.block (w.heap.size + 1) l1 (by omega))).trans k1; go_simp; try with_reducible rfl
                try simp only [Act.put, List.setIfInBounds_toArray, List.set_cons_zero, List.set_cons_succ]
                refine wpAnyF_done (by kernel_rfl) ?_ _
                go_wp2_with fail
                go_ret
                exact .inr ⟨HEE.out, rfl, HQ1.out, HQ2.out⟩
              exact AllReadyF.nil
            exact AllReadyF.nil
          exact AllReadyF.nil
        exact AllReadyF.nil
      exact AllReadyF.nil

    · have HD2 := Lib.hid (decide_eq_false c2)
      have HEE := Lib.hid (HE.out.trans (if_neg (fun h => c2 h.2)))
      clear c1 c2
      go_enter Try.func43, Try.ntmps43
      go_wp2_with fail
      rw [← HU.out]
      refine wp_region_F (Below U.heap.size U) [] (by kernel_rfl) ((Below.refl _ _).drew) (fun hS => ?_)
      refine wpAnyF_take (i := 0) (oi := { dst := some 5, op := Go.Op.load 23 (Go.Operand.tmp 2), type := 23, pos := "account.go:76", after := #[], guard := none }) (v := ?_) rfl (by kernel_rfl) (by kernel_rfl) (by kernel_rfl) (by kernel_rfl) (fun _ _ _ h => h) (Or.inl ⟨by rfl, ?_⟩) hS ?_
      rotate_left
      · intro w' hSw; have q0 := (hSw.cell (p := ⟨w.heap.size, 0, none⟩) l0).trans k0; have q1 := (hSw.cell (p := ⟨w.heap.size + 1, 0, none⟩) l1).trans k1; have q2 := (hSw.cell (p := ⟨b, 0, none⟩) l2).trans k2; go_simp; try with_reducible rfl
      try simp only [Act.put, List.setIfInBounds_toArray, List.set_cons_zero, List.set_cons_succ]
      refine wpAnyF_take (i := 1) (oi := { dst := some 6, op := Go.Op.load 23 (Go.Operand.tmp 2), type := 23, pos := "account.go:76", after := #[], guard := none }) (v := ?_) rfl (by kernel_rfl) (by kernel_rfl) (by kernel_rfl) (by kernel_rfl) (fun _ _ _ h => h) (Or.inl ⟨by rfl, ?_⟩) hS ?_
      rotate_left
      · intro w' hSw; have q0 := (hSw.cell (p := ⟨w.heap.size, 0, none⟩) l0).trans k0; have q1 := (hSw.cell (p := ⟨w.heap.size + 1, 0, none⟩) l1).trans k1; have q2 := (hSw.cell (p := ⟨b, 0, none⟩) l2).trans k2; go_simp; try with_reducible rfl
      try simp only [Act.put, List.setIfInBounds_toArray, List.set_cons_zero, List.set_cons_succ]
      refine wpAnyF_take (i := 16) (oi := { dst := some 21, op := Go.Op.makeFunc (Go.Fn.func 64) #[] #[Go.Operand.tmp 3], type := 54, pos := "account.go:76", after := #[], guard := none }) (v := ?_) rfl (by kernel_rfl) (by kernel_rfl) (by kernel_rfl) (by kernel_rfl) (fun _ _ _ h => h) (Or.inl ⟨by rfl, ?_⟩) hS ?_
      rotate_left
      · intro w' hSw; have q0 := (hSw.cell (p := ⟨w.heap.size, 0, none⟩) l0).trans k0; have q1 := (hSw.cell (p := ⟨w.heap.size + 1, 0, none⟩) l1).trans k1; have q2 := (hSw.cell (p := ⟨b, 0, none⟩) l2).trans k2; go_simp; try with_reducible rfl
      try simp only [Act.put, List.setIfInBounds_toArray, List.set_cons_zero, List.set_cons_succ]
      refine wpAnyF_take (i := 17) (oi := { dst := some 22, op := Go.Op.load 2 (Go.Operand.tmp 3), type := 2, pos := "account.go:76", after := #[], guard := none }) (v := ?_) rfl (by kernel_rfl) (by kernel_rfl) (by kernel_rfl) (by kernel_rfl) (fun _ _ _ h => h) (Or.inl ⟨by rfl, ?_⟩) hS ?_
      rotate_left
      · intro w' hSw; have q0 := (hSw.cell (p := ⟨w.heap.size, 0, none⟩) l0).trans k0; have q1 := (hSw.cell (p := ⟨w.heap.size + 1, 0, none⟩) l1).trans k1; have q2 := (hSw.cell (p := ⟨b, 0, none⟩) l2).trans k2; go_simp; try with_reducible rfl
      try simp only [Act.put, List.setIfInBounds_toArray, List.set_cons_zero, List.set_cons_succ]
      refine wpAnyF_take (i := 18) (oi := { dst := some 23, op := Go.Op.makeFunc (Go.Fn.func 65) #[] #[Go.Operand.tmp 2, Go.Operand.tmp 3], type := 1, pos := "account.go:76", after := #[], guard := none }) (v := ?_) rfl (by kernel_rfl) (by kernel_rfl) (by kernel_rfl) (by kernel_rfl) (fun _ _ _ h => h) (Or.inl ⟨by rfl, ?_⟩) hS ?_
      rotate_left
      · intro w' hSw; have q0 := (hSw.cell (p := ⟨w.heap.size, 0, none⟩) l0).trans k0; have q1 := (hSw.cell (p := ⟨w.heap.size + 1, 0, none⟩) l1).trans k1; have q2 := (hSw.cell (p := ⟨b, 0, none⟩) l2).trans k2; go_simp; try with_reducible rfl
      try simp only [Act.put, List.setIfInBounds_toArray, List.set_cons_zero, List.set_cons_succ]
      refine wpAnyF_ready (rs := [2]) (by kernel_rfl) (by simp) ?_
      refine AllReadyF.cons (o := { dst := some 7, op := Go.Op.call { callee := Go.Callee.value (Go.Operand.func 38), args := #[Go.Operand.tmp 6], argTypes := #[23] }, type := 4, pos := "account.go:76", after := #[{ on := 1, ground := Go.Ground.data }], guard := none }) rfl (by rfl) (fun K hK => ?_) ?_
      · go_simp
        refine (there_any (HV.out.grow hS)).mono ?_
        rintro e w7 ⟨rfl, hw7⟩
        rw [hw7]
        clear hw7
        rw [HT.out]
        refine hK.out _ _ ?_ (fun hS => ?_)
        · exact hS
        clear hK K
        try simp only [Act.put, List.setIfInBounds_toArray, List.set_cons_zero, List.set_cons_succ]
        refine wpAnyF_take (i := 3) (oi := { dst := some 8, op := Go.Op.move (Go.Operand.tmp 7), type := 4, pos := "account.go:76", after := #[{ on := 2, ground := Go.Ground.data }, { on := 2, ground := Go.Ground.chain }], guard := none }) (v := ?_) rfl (by kernel_rfl) (by kernel_rfl) (by kernel_rfl) (by kernel_rfl) (fun _ _ _ h => h) (Or.inl ⟨by rfl, ?_⟩) hS ?_
        rotate_left
        · intro w' hSw; have q0 := (hSw.cell (p := ⟨w.heap.size, 0, none⟩) l0).trans k0; have q1 := (hSw.cell (p := ⟨w.heap.size + 1, 0, none⟩) l1).trans k1; have q2 := (hSw.cell (p := ⟨b, 0, none⟩) l2).trans k2; go_simp; try with_reducible rfl
        try simp only [Act.put, List.setIfInBounds_toArray, List.set_cons_zero, List.set_cons_succ]
        refine wpAnyF_take (i := 4) (oi := { dst := some 9, op := Go.Op.load 2 (Go.Operand.tmp 3), type := 2, pos := "account.go:76", after := #[{ on := 3, ground := Go.Ground.guard }], guard := some (3, true) }) (v := ?_) rfl (by kernel_rfl) (by kernel_rfl) (by kernel_rfl) (by kernel_rfl) (fun _ _ _ h => h) (Or.inl ⟨by rfl, ?_⟩) hS ?_
        rotate_left
        · intro w' hSw; have q0 := (hSw.cell (p := ⟨w.heap.size, 0, none⟩) l0).trans k0; have q1 := (hSw.cell (p := ⟨w.heap.size + 1, 0, none⟩) l1).trans k1; have q2 := (hSw.cell (p := ⟨b, 0, none⟩) l2).trans k2; go_simp; try with_reducible rfl
        try simp only [Act.put, List.setIfInBounds_toArray, List.set_cons_zero, List.set_cons_succ]
        refine wpAnyF_ready (rs := [5]) (by kernel_rfl) (by simp) ?_
        refine AllReadyF.cons (o := { dst := some 10, op := Go.Op.call { callee := Go.Callee.value (Go.Operand.func 40), args := #[Go.Operand.tmp 9], argTypes := #[2] }, type := 4, pos := "account.go:76", after := #[{ on := 4, ground := Go.Ground.data }, { on := 3, ground := Go.Ground.chain }, { on := 3, ground := Go.Ground.guard }], guard := some (3, true) }) rfl (by rfl) (fun K hK => ?_) ?_
        · go_simp
          refine (coins_any v _).mono ?_
          rintro e w7 ⟨rfl, hw7⟩
          rw [hw7]
          clear hw7
          rw [HD1.out]
          refine hK.out _ _ ?_ (fun hS => ?_)
          · exact hS
          clear hK K
          try simp only [Act.put, List.setIfInBounds_toArray, List.set_cons_zero, List.set_cons_succ]
          refine wpAnyF_take (i := 6) (oi := { dst := some 11, op := Go.Op.pick (Go.Operand.tmp 8) (Go.Operand.tmp 10) (Go.Operand.const (Go.Value.bool false)), type := 4, pos := "account.go:76", after := #[{ on := 3, ground := Go.Ground.data }, { on := 5, ground := Go.Ground.data }], guard := none }) (v := ?_) rfl (by kernel_rfl) (by kernel_rfl) (by kernel_rfl) (by kernel_rfl) (fun _ _ _ h => h) (Or.inl ⟨by rfl, ?_⟩) hS ?_
          rotate_left
          · intro w' hSw; have q0 := (hSw.cell (p := ⟨w.heap.size, 0, none⟩) l0).trans k0; have q1 := (hSw.cell (p := ⟨w.heap.size + 1, 0, none⟩) l1).trans k1; have q2 := (hSw.cell (p := ⟨b, 0, none⟩) l2).trans k2; go_simp; try with_reducible rfl
          try simp only [Act.put, List.setIfInBounds_toArray, List.set_cons_zero, List.set_cons_succ]
          refine wpAnyF_take (i := 7) (oi := { dst := some 12, op := Go.Op.move (Go.Operand.tmp 11), type := 4, pos := "account.go:76", after := #[{ on := 6, ground := Go.Ground.data }, { on := 5, ground := Go.Ground.chain }], guard := none }) (v := ?_) rfl (by kernel_rfl) (by kernel_rfl) (by kernel_rfl) (by kernel_rfl) (fun _ _ _ h => h) (Or.inl ⟨by rfl, ?_⟩) hS ?_
          rotate_left
          · intro w' hSw; have q0 := (hSw.cell (p := ⟨w.heap.size, 0, none⟩) l0).trans k0; have q1 := (hSw.cell (p := ⟨w.heap.size + 1, 0, none⟩) l1).trans k1; have q2 := (hSw.cell (p := ⟨b, 0, none⟩) l2).trans k2; go_simp; try with_reducible rfl
          try simp only [Act.put, List.setIfInBounds_toArray, List.set_cons_zero, List.set_cons_succ]
          refine wpAnyF_take (i := 8) (oi := { dst := some 13, op := Go.Op.load 23 (Go.Operand.tmp 2), type := 23, pos := "account.go:76", after := #[{ on := 7, ground := Go.Ground.guard }], guard := some (7, true) }) (v := ?_) rfl (by kernel_rfl) (by kernel_rfl) (by kernel_rfl) (by kernel_rfl) (fun _ _ _ h => h) (Or.inl ⟨by rfl, ?_⟩) hS ?_
          rotate_left
          · intro w' hSw; have q0 := (hSw.cell (p := ⟨w.heap.size, 0, none⟩) l0).trans k0; have q1 := (hSw.cell (p := ⟨w.heap.size + 1, 0, none⟩) l1).trans k1; have q2 := (hSw.cell (p := ⟨b, 0, none⟩) l2).trans k2; go_simp; try with_reducible rfl
          try simp only [Act.put, List.setIfInBounds_toArray, List.set_cons_zero, List.set_cons_succ]
          refine wpAnyF_take (i := 9) (oi := { dst := some 14, op := Go.Op.nilCheck (Go.Operand.tmp 13), type := 0, pos := "account.go:76", after := #[{ on := 8, ground := Go.Ground.data }, { on := 7, ground := Go.Ground.guard }], guard := some (7, true) }) (v := ?_) rfl (by kernel_rfl) (by kernel_rfl) (by kernel_rfl) (by kernel_rfl) (fun _ _ _ h => h) (Or.inl ⟨by rfl, ?_⟩) hS ?_
          rotate_left
          · intro w' hSw; have q0 := (hSw.cell (p := ⟨w.heap.size, 0, none⟩) l0).trans k0; have q1 := (hSw.cell (p := ⟨w.heap.size + 1, 0, none⟩) l1).trans k1; have q2 := (hSw.cell (p := ⟨b, 0, none⟩) l2).trans k2; go_simp; try with_reducible rfl
          try simp only [Act.put, List.setIfInBounds_toArray, List.set_cons_zero, List.set_cons_succ]
          refine wpAnyF_take (i := 10) (oi := { dst := some 15, op := Go.Op.fieldAddr 67 (Go.Operand.tmp 14) 0, type := 0, pos := "account.go:76", after := #[{ on := 9, ground := Go.Ground.data }, { on := 7, ground := Go.Ground.guard }], guard := some (7, true) }) (v := ?_) rfl (by kernel_rfl) (by kernel_rfl) (by kernel_rfl) (by kernel_rfl) (fun _ _ _ h => h) (Or.inl ⟨by rfl, ?_⟩) hS ?_
          rotate_left
          · intro w' hSw; have q0 := (hSw.cell (p := ⟨w.heap.size, 0, none⟩) l0).trans k0; have q1 := (hSw.cell (p := ⟨w.heap.size + 1, 0, none⟩) l1).trans k1; have q2 := (hSw.cell (p := ⟨b, 0, none⟩) l2).trans k2; go_simp; try with_reducible rfl
          try simp only [Act.put, List.setIfInBounds_toArray, List.set_cons_zero, List.set_cons_succ]
          refine wpAnyF_take (i := 11) (oi := { dst := some 16, op := Go.Op.load 2 (Go.Operand.tmp 15), type := 2, pos := "account.go:76", after := #[{ on := 10, ground := Go.Ground.data }, { on := 7, ground := Go.Ground.guard }], guard := some (7, true) }) (v := ?_) rfl (by kernel_rfl) (by kernel_rfl) (by kernel_rfl) (by kernel_rfl) (fun _ _ _ h => h) (Or.inl ⟨by rfl, ?_⟩) hS ?_
          rotate_left
          · intro w' hSw; have q0 := (hSw.cell (p := ⟨w.heap.size, 0, none⟩) l0).trans k0; have q1 := (hSw.cell (p := ⟨w.heap.size + 1, 0, none⟩) l1).trans k1; have q2 := (hSw.cell (p := ⟨b, 0, none⟩) l2).trans k2; go_simp; try with_reducible rfl
          try simp only [Act.put, List.setIfInBounds_toArray, List.set_cons_zero, List.set_cons_succ]
          refine wpAnyF_take (i := 12) (oi := { dst := some 17, op := Go.Op.load 2 (Go.Operand.tmp 3), type := 2, pos := "account.go:76", after := #[{ on := 7, ground := Go.Ground.guard }], guard := some (7, true) }) (v := ?_) rfl (by kernel_rfl) (by kernel_rfl) (by kernel_rfl) (by kernel_rfl) (fun _ _ _ h => h) (Or.inl ⟨by rfl, ?_⟩) hS ?_
          rotate_left
          · intro w' hSw; have q0 := (hSw.cell (p := ⟨w.heap.size, 0, none⟩) l0).trans k0; have q1 := (hSw.cell (p := ⟨w.heap.size + 1, 0, none⟩) l1).trans k1; have q2 := (hSw.cell (p := ⟨b, 0, none⟩) l2).trans k2; go_simp; try with_reducible rfl
          try simp only [Act.put, List.setIfInBounds_toArray, List.set_cons_zero, List.set_cons_succ]
          refine wpAnyF_take (i := 13) (oi := { dst := some 18, op := Go.Op.binOp Go.BinOp.add 2 (Go.Operand.tmp 16) (Go.Operand.tmp 17) 2, type := 2, pos := "account.go:76", after := #[{ on := 11, ground := Go.Ground.data }, { on := 12, ground := Go.Ground.data }, { on := 7, ground := Go.Ground.guard }], guard := some (7, true) }) (v := ?_) rfl (by kernel_rfl) (by kernel_rfl) (by kernel_rfl) (by kernel_rfl) (fun _ _ _ h => h) (Or.inl ⟨by rfl, ?_⟩) hS ?_
          rotate_left
          · intro w' hSw; have q0 := (hSw.cell (p := ⟨w.heap.size, 0, none⟩) l0).trans k0; have q1 := (hSw.cell (p := ⟨w.heap.size + 1, 0, none⟩) l1).trans k1; have q2 := (hSw.cell (p := ⟨b, 0, none⟩) l2).trans k2; go_simp; try with_reducible rfl
          try simp only [Act.put, List.setIfInBounds_toArray, List.set_cons_zero, List.set_cons_succ]
          refine wpAnyF_ready (rs := [14]) (by kernel_rfl) (by simp) ?_
          refine AllReadyF.cons (o := { dst := some 19, op := Go.Op.call { callee := Go.Callee.value (Go.Operand.func 40), args := #[Go.Operand.tmp 18], argTypes := #[2] }, type := 4, pos := "account.go:76", after := #[{ on := 13, ground := Go.Ground.data }, { on := 7, ground := Go.Ground.chain }, { on := 7, ground := Go.Ground.guard }], guard := some (7, true) }) rfl (by rfl) (fun K hK => ?_) ?_
          · go_simp
            refine (coins_any (x + v) _).mono ?_
            rintro e w7 ⟨rfl, hw7⟩
            rw [hw7]
            clear hw7
            rw [HD2.out]
            refine hK.out _ _ ?_ (fun hS => ?_)
            · exact hS
            clear hK K
            try simp only [Act.put, List.setIfInBounds_toArray, List.set_cons_zero, List.set_cons_succ]
            refine wpAnyF_take (i := 15) (oi := { dst := some 20, op := Go.Op.pick (Go.Operand.tmp 12) (Go.Operand.tmp 19) (Go.Operand.const (Go.Value.bool false)), type := 4, pos := "account.go:76", after := #[{ on := 7, ground := Go.Ground.data }, { on := 14, ground := Go.Ground.data }], guard := none }) (v := ?_) rfl (by kernel_rfl) (by kernel_rfl) (by kernel_rfl) (by kernel_rfl) (fun _ _ _ h => h) (Or.inl ⟨by rfl, ?_⟩) hS ?_
            rotate_left
            · intro w' hSw; have q0 := (hSw.cell (p := ⟨w.heap.size, 0, none⟩) l0).trans k0; have q1 := (hSw.cell (p := ⟨w.heap.size + 1, 0, none⟩) l1).trans k1; have q2 := (hSw.cell (p := ⟨b, 0, none⟩) l2).trans k2; go_simp; try with_reducible rfl
            try simp only [Act.put, List.setIfInBounds_toArray, List.set_cons_zero, List.set_cons_succ]
            refine wpAnyF_ready (rs := [19]) (by kernel_rfl) (by simp) ?_
            refine AllReadyF.cons (o := { dst := some 24, op := Go.Op.call { callee := Go.Callee.value (Go.Operand.func 34), args := #[Go.Operand.tmp 5, Go.Operand.tmp 20, Go.Operand.tmp 21, Go.Operand.tmp 22, Go.Operand.tmp 23], argTypes := #[23, 4, 54, 2, 1] }, type := 24, pos := "account.go:76", after := #[{ on := 0, ground := Go.Ground.data }, { on := 15, ground := Go.Ground.data }, { on := 16, ground := Go.Ground.data }, { on := 17, ground := Go.Ground.data }, { on := 18, ground := Go.Ground.data }, { on := 14, ground := Go.Ground.chain }], guard := none }) rfl (by rfl) (fun K hK => ?_) ?_
            · go_simp
              refine (MAY.out false).mono ?_
              rintro e w7 (⟨hr, rfl, hq⟩ | ⟨hf, _⟩ | ⟨hf, _⟩)
              rotate_left
              · cases hf
              · cases hf
              rw [hq]
              clear hq hr
              refine hK.out _ _ ?_ (fun hS => ?_)
              · exact hS
              clear hK K
              try simp only [Act.put, List.setIfInBounds_toArray, List.set_cons_zero, List.set_cons_succ]
              refine wpAnyF_take (i := 20) (oi := { dst := some 4, op := Go.Op.assign (Go.Operand.tmp 24), type := 24, pos := "account.go:76", after := #[{ on := 19, ground := Go.Ground.data }, { on := 19, ground := Go.Ground.chain }, { on := 0, ground := Go.Ground.phase }, { on := 1, ground := Go.Ground.phase }, { on := 2, ground := Go.Ground.phase }, { on := 3, ground := Go.Ground.phase }, { on := 4, ground := Go.Ground.phase }, { on := 5, ground := Go.Ground.phase }, { on := 6, ground := Go.Ground.phase }, { on := 7, ground := Go.Ground.phase }, { on := 8, ground := Go.Ground.phase }, { on := 9, ground := Go.Ground.phase }, { on := 10, ground := Go.Ground.phase }, { on := 11, ground := Go.Ground.phase }, { on := 12, ground := Go.Ground.phase }, { on := 13, ground := Go.Ground.phase }, { on := 14, ground := Go.Ground.phase }, { on := 15, ground := Go.Ground.phase }, { on := 16, ground := Go.Ground.phase }, { on := 17, ground := Go.Ground.phase }, { on := 18, ground := Go.Ground.phase }, { on := 19, ground := Go.Ground.phase }], guard := none }) (v := ?_) rfl (by kernel_rfl) (by kernel_rfl) (by kernel_rfl) (by kernel_rfl) (fun _ _ _ h => h) (Or.inl ⟨by rfl, ?_⟩) hS ?_
              rotate_left
              · intro w' hSw; have q0 := (hSw.cell (p := ⟨w.heap.size, 0, none⟩) l0).trans k0; have q1 := (hSw.cell (p := ⟨w.heap.size + 1, 0, none⟩) l1).trans k1; have q2 := (hSw.cell (p := ⟨b, 0, none⟩) l2).trans k2; go_simp; try with_reducible rfl
              try simp only [Act.put, List.setIfInBounds_toArray, List.set_cons_zero, List.set_cons_succ]
              refine wpAnyF_done (by kernel_rfl) ?_ _
              go_wp2_with fail
              go_ret
              exact .inl ⟨by rw [HEE.out]; decide, by rw [HEE.out]; rfl, HB.out.trans (hS.mono HB.out.size)⟩
            exact AllReadyF.nil
          exact AllReadyF.nil
        exact AllReadyF.nil
      exact AllReadyF.nil

  · have HD1 := Lib.hid (decide_eq_false c1)
    have HEE := Lib.hid (HE.out.trans (if_neg (fun h => c1 h.1)))
    clear c1
    go_enter Try.func43, Try.ntmps43
    go_wp2_with fail
    rw [← HU.out]
    refine wp_region_F (Below U.heap.size U) [] (by kernel_rfl) ((Below.refl _ _).drew) (fun hS => ?_)
    refine wpAnyF_take (i := 0) (oi := { dst := some 5, op := Go.Op.load 23 (Go.Operand.tmp 2), type := 23, pos := "account.go:76", after := #[], guard := none }) (v := ?_) rfl (by kernel_rfl) (by kernel_rfl) (by kernel_rfl) (by kernel_rfl) (fun _ _ _ h => h) (Or.inl ⟨by rfl, ?_⟩) hS ?_
    rotate_left
    · intro w' hSw; have q0 := (hSw.cell (p := ⟨w.heap.size, 0, none⟩) l0).trans k0; have q1 := (hSw.cell (p := ⟨w.heap.size + 1, 0, none⟩) l1).trans k1; have q2 := (hSw.cell (p := ⟨b, 0, none⟩) l2).trans k2; go_simp; try with_reducible rfl
    try simp only [Act.put, List.setIfInBounds_toArray, List.set_cons_zero, List.set_cons_succ]
    refine wpAnyF_take (i := 1) (oi := { dst := some 6, op := Go.Op.load 23 (Go.Operand.tmp 2), type := 23, pos := "account.go:76", after := #[], guard := none }) (v := ?_) rfl (by kernel_rfl) (by kernel_rfl) (by kernel_rfl) (by kernel_rfl) (fun _ _ _ h => h) (Or.inl ⟨by rfl, ?_⟩) hS ?_
    rotate_left
    · intro w' hSw; have q0 := (hSw.cell (p := ⟨w.heap.size, 0, none⟩) l0).trans k0; have q1 := (hSw.cell (p := ⟨w.heap.size + 1, 0, none⟩) l1).trans k1; have q2 := (hSw.cell (p := ⟨b, 0, none⟩) l2).trans k2; go_simp; try with_reducible rfl
    try simp only [Act.put, List.setIfInBounds_toArray, List.set_cons_zero, List.set_cons_succ]
    refine wpAnyF_take (i := 16) (oi := { dst := some 21, op := Go.Op.makeFunc (Go.Fn.func 64) #[] #[Go.Operand.tmp 3], type := 54, pos := "account.go:76", after := #[], guard := none }) (v := ?_) rfl (by kernel_rfl) (by kernel_rfl) (by kernel_rfl) (by kernel_rfl) (fun _ _ _ h => h) (Or.inl ⟨by rfl, ?_⟩) hS ?_
    rotate_left
    · intro w' hSw; have q0 := (hSw.cell (p := ⟨w.heap.size, 0, none⟩) l0).trans k0; have q1 := (hSw.cell (p := ⟨w.heap.size + 1, 0, none⟩) l1).trans k1; have q2 := (hSw.cell (p := ⟨b, 0, none⟩) l2).trans k2; go_simp; try with_reducible rfl
    try simp only [Act.put, List.setIfInBounds_toArray, List.set_cons_zero, List.set_cons_succ]
    refine wpAnyF_take (i := 17) (oi := { dst := some 22, op := Go.Op.load 2 (Go.Operand.tmp 3), type := 2, pos := "account.go:76", after := #[], guard := none }) (v := ?_) rfl (by kernel_rfl) (by kernel_rfl) (by kernel_rfl) (by kernel_rfl) (fun _ _ _ h => h) (Or.inl ⟨by rfl, ?_⟩) hS ?_
    rotate_left
    · intro w' hSw; have q0 := (hSw.cell (p := ⟨w.heap.size, 0, none⟩) l0).trans k0; have q1 := (hSw.cell (p := ⟨w.heap.size + 1, 0, none⟩) l1).trans k1; have q2 := (hSw.cell (p := ⟨b, 0, none⟩) l2).trans k2; go_simp; try with_reducible rfl
    try simp only [Act.put, List.setIfInBounds_toArray, List.set_cons_zero, List.set_cons_succ]
    refine wpAnyF_take (i := 18) (oi := { dst := some 23, op := Go.Op.makeFunc (Go.Fn.func 65) #[] #[Go.Operand.tmp 2, Go.Operand.tmp 3], type := 1, pos := "account.go:76", after := #[], guard := none }) (v := ?_) rfl (by kernel_rfl) (by kernel_rfl) (by kernel_rfl) (by kernel_rfl) (fun _ _ _ h => h) (Or.inl ⟨by rfl, ?_⟩) hS ?_
    rotate_left
    · intro w' hSw; have q0 := (hSw.cell (p := ⟨w.heap.size, 0, none⟩) l0).trans k0; have q1 := (hSw.cell (p := ⟨w.heap.size + 1, 0, none⟩) l1).trans k1; have q2 := (hSw.cell (p := ⟨b, 0, none⟩) l2).trans k2; go_simp; try with_reducible rfl
    try simp only [Act.put, List.setIfInBounds_toArray, List.set_cons_zero, List.set_cons_succ]
    refine wpAnyF_ready (rs := [2]) (by kernel_rfl) (by simp) ?_
    refine AllReadyF.cons (o := { dst := some 7, op := Go.Op.call { callee := Go.Callee.value (Go.Operand.func 38), args := #[Go.Operand.tmp 6], argTypes := #[23] }, type := 4, pos := "account.go:76", after := #[{ on := 1, ground := Go.Ground.data }], guard := none }) rfl (by rfl) (fun K hK => ?_) ?_
    · go_simp
      refine (there_any (HV.out.grow hS)).mono ?_
      rintro e w7 ⟨rfl, hw7⟩
      rw [hw7]
      clear hw7
      rw [HT.out]
      refine hK.out _ _ ?_ (fun hS => ?_)
      · exact hS
      clear hK K
      try simp only [Act.put, List.setIfInBounds_toArray, List.set_cons_zero, List.set_cons_succ]
      refine wpAnyF_take (i := 3) (oi := { dst := some 8, op := Go.Op.move (Go.Operand.tmp 7), type := 4, pos := "account.go:76", after := #[{ on := 2, ground := Go.Ground.data }, { on := 2, ground := Go.Ground.chain }], guard := none }) (v := ?_) rfl (by kernel_rfl) (by kernel_rfl) (by kernel_rfl) (by kernel_rfl) (fun _ _ _ h => h) (Or.inl ⟨by rfl, ?_⟩) hS ?_
      rotate_left
      · intro w' hSw; have q0 := (hSw.cell (p := ⟨w.heap.size, 0, none⟩) l0).trans k0; have q1 := (hSw.cell (p := ⟨w.heap.size + 1, 0, none⟩) l1).trans k1; have q2 := (hSw.cell (p := ⟨b, 0, none⟩) l2).trans k2; go_simp; try with_reducible rfl
      try simp only [Act.put, List.setIfInBounds_toArray, List.set_cons_zero, List.set_cons_succ]
      refine wpAnyF_take (i := 4) (oi := { dst := some 9, op := Go.Op.load 2 (Go.Operand.tmp 3), type := 2, pos := "account.go:76", after := #[{ on := 3, ground := Go.Ground.guard }], guard := some (3, true) }) (v := ?_) rfl (by kernel_rfl) (by kernel_rfl) (by kernel_rfl) (by kernel_rfl) (fun _ _ _ h => h) (Or.inl ⟨by rfl, ?_⟩) hS ?_
      rotate_left
      · intro w' hSw; have q0 := (hSw.cell (p := ⟨w.heap.size, 0, none⟩) l0).trans k0; have q1 := (hSw.cell (p := ⟨w.heap.size + 1, 0, none⟩) l1).trans k1; have q2 := (hSw.cell (p := ⟨b, 0, none⟩) l2).trans k2; go_simp; try with_reducible rfl
      try simp only [Act.put, List.setIfInBounds_toArray, List.set_cons_zero, List.set_cons_succ]
      refine wpAnyF_ready (rs := [5]) (by kernel_rfl) (by simp) ?_
      refine AllReadyF.cons (o := { dst := some 10, op := Go.Op.call { callee := Go.Callee.value (Go.Operand.func 40), args := #[Go.Operand.tmp 9], argTypes := #[2] }, type := 4, pos := "account.go:76", after := #[{ on := 4, ground := Go.Ground.data }, { on := 3, ground := Go.Ground.chain }, { on := 3, ground := Go.Ground.guard }], guard := some (3, true) }) rfl (by rfl) (fun K hK => ?_) ?_
      · go_simp
        refine (coins_any v _).mono ?_
        rintro e w7 ⟨rfl, hw7⟩
        rw [hw7]
        clear hw7
        rw [HD1.out]
        refine hK.out _ _ ?_ (fun hS => ?_)
        · exact hS
        clear hK K
        try simp only [Act.put, List.setIfInBounds_toArray, List.set_cons_zero, List.set_cons_succ]
        refine wpAnyF_take (i := 6) (oi := { dst := some 11, op := Go.Op.pick (Go.Operand.tmp 8) (Go.Operand.tmp 10) (Go.Operand.const (Go.Value.bool false)), type := 4, pos := "account.go:76", after := #[{ on := 3, ground := Go.Ground.data }, { on := 5, ground := Go.Ground.data }], guard := none }) (v := ?_) rfl (by kernel_rfl) (by kernel_rfl) (by kernel_rfl) (by kernel_rfl) (fun _ _ _ h => h) (Or.inl ⟨by rfl, ?_⟩) hS ?_
        rotate_left
        · intro w' hSw; have q0 := (hSw.cell (p := ⟨w.heap.size, 0, none⟩) l0).trans k0; have q1 := (hSw.cell (p := ⟨w.heap.size + 1, 0, none⟩) l1).trans k1; have q2 := (hSw.cell (p := ⟨b, 0, none⟩) l2).trans k2; go_simp; try with_reducible rfl
        try simp only [Act.put, List.setIfInBounds_toArray, List.set_cons_zero, List.set_cons_succ]
        refine wpAnyF_take (i := 7) (oi := { dst := some 12, op := Go.Op.move (Go.Operand.tmp 11), type := 4, pos := "account.go:76", after := #[{ on := 6, ground := Go.Ground.data }, { on := 5, ground := Go.Ground.chain }], guard := none }) (v := ?_) rfl (by kernel_rfl) (by kernel_rfl) (by kernel_rfl) (by kernel_rfl) (fun _ _ _ h => h) (Or.inl ⟨by rfl, ?_⟩) hS ?_
        rotate_left
        · intro w' hSw; have q0 := (hSw.cell (p := ⟨w.heap.size, 0, none⟩) l0).trans k0; have q1 := (hSw.cell (p := ⟨w.heap.size + 1, 0, none⟩) l1).trans k1; have q2 := (hSw.cell (p := ⟨b, 0, none⟩) l2).trans k2; go_simp; try with_reducible rfl
        try simp only [Act.put, List.setIfInBounds_toArray, List.set_cons_zero, List.set_cons_succ]
        refine wpAnyF_take (i := 8) (oi := { dst := some 13, op := Go.Op.load 23 (Go.Operand.tmp 2), type := 23, pos := "account.go:76", after := #[{ on := 7, ground := Go.Ground.guard }], guard := some (7, true) }) (v := undef) rfl (by kernel_rfl) (by kernel_rfl) (by kernel_rfl) (by kernel_rfl) (fun _ _ _ h => h) (Or.inr ⟨by rfl, rfl⟩) hS ?_
        try simp only [Act.put, List.setIfInBounds_toArray, List.set_cons_zero, List.set_cons_succ]
        refine wpAnyF_take (i := 9) (oi := { dst := some 14, op := Go.Op.nilCheck (Go.Operand.tmp 13), type := 0, pos := "account.go:76", after := #[{ on := 8, ground := Go.Ground.data }, { on := 7, ground := Go.Ground.guard }], guard := some (7, true) }) (v := undef) rfl (by kernel_rfl) (by kernel_rfl) (by kernel_rfl) (by kernel_rfl) (fun _ _ _ h => h) (Or.inr ⟨by rfl, rfl⟩) hS ?_
        try simp only [Act.put, List.setIfInBounds_toArray, List.set_cons_zero, List.set_cons_succ]
        refine wpAnyF_take (i := 10) (oi := { dst := some 15, op := Go.Op.fieldAddr 67 (Go.Operand.tmp 14) 0, type := 0, pos := "account.go:76", after := #[{ on := 9, ground := Go.Ground.data }, { on := 7, ground := Go.Ground.guard }], guard := some (7, true) }) (v := undef) rfl (by kernel_rfl) (by kernel_rfl) (by kernel_rfl) (by kernel_rfl) (fun _ _ _ h => h) (Or.inr ⟨by rfl, rfl⟩) hS ?_
        try simp only [Act.put, List.setIfInBounds_toArray, List.set_cons_zero, List.set_cons_succ]
        refine wpAnyF_take (i := 11) (oi := { dst := some 16, op := Go.Op.load 2 (Go.Operand.tmp 15), type := 2, pos := "account.go:76", after := #[{ on := 10, ground := Go.Ground.data }, { on := 7, ground := Go.Ground.guard }], guard := some (7, true) }) (v := undef) rfl (by kernel_rfl) (by kernel_rfl) (by kernel_rfl) (by kernel_rfl) (fun _ _ _ h => h) (Or.inr ⟨by rfl, rfl⟩) hS ?_
        try simp only [Act.put, List.setIfInBounds_toArray, List.set_cons_zero, List.set_cons_succ]
        refine wpAnyF_take (i := 12) (oi := { dst := some 17, op := Go.Op.load 2 (Go.Operand.tmp 3), type := 2, pos := "account.go:76", after := #[{ on := 7, ground := Go.Ground.guard }], guard := some (7, true) }) (v := undef) rfl (by kernel_rfl) (by kernel_rfl) (by kernel_rfl) (by kernel_rfl) (fun _ _ _ h => h) (Or.inr ⟨by rfl, rfl⟩) hS ?_
        try simp only [Act.put, List.setIfInBounds_toArray, List.set_cons_zero, List.set_cons_succ]
        refine wpAnyF_take (i := 13) (oi := { dst := some 18, op := Go.Op.binOp Go.BinOp.add 2 (Go.Operand.tmp 16) (Go.Operand.tmp 17) 2, type := 2, pos := "account.go:76", after := #[{ on := 11, ground := Go.Ground.data }, { on := 12, ground := Go.Ground.data }, { on := 7, ground := Go.Ground.guard }], guard := some (7, true) }) (v := undef) rfl (by kernel_rfl) (by kernel_rfl) (by kernel_rfl) (by kernel_rfl) (fun _ _ _ h => h) (Or.inr ⟨by rfl, rfl⟩) hS ?_
        try simp only [Act.put, List.setIfInBounds_toArray, List.set_cons_zero, List.set_cons_succ]
        refine wpAnyF_take (i := 14) (oi := { dst := some 19, op := Go.Op.call { callee := Go.Callee.value (Go.Operand.func 40), args := #[Go.Operand.tmp 18], argTypes := #[2] }, type := 4, pos := "account.go:76", after := #[{ on := 13, ground := Go.Ground.data }, { on := 7, ground := Go.Ground.chain }, { on := 7, ground := Go.Ground.guard }], guard := some (7, true) }) (v := undef) rfl (by kernel_rfl) (by kernel_rfl) (by kernel_rfl) (by kernel_rfl) (fun _ _ _ h => h) (Or.inr ⟨by rfl, rfl⟩) hS ?_
        try simp only [Act.put, List.setIfInBounds_toArray, List.set_cons_zero, List.set_cons_succ]
        refine wpAnyF_take (i := 15) (oi := { dst := some 20, op := Go.Op.pick (Go.Operand.tmp 12) (Go.Operand.tmp 19) (Go.Operand.const (Go.Value.bool false)), type := 4, pos := "account.go:76", after := #[{ on := 7, ground := Go.Ground.data }, { on := 14, ground := Go.Ground.data }], guard := none }) (v := ?_) rfl (by kernel_rfl) (by kernel_rfl) (by kernel_rfl) (by kernel_rfl) (fun _ _ _ h => h) (Or.inl ⟨by rfl, ?_⟩) hS ?_
        rotate_left
        · intro w' hSw; have q0 := (hSw.cell (p := ⟨w.heap.size, 0, none⟩) l0).trans k0; have q1 := (hSw.cell (p := ⟨w.heap.size + 1, 0, none⟩) l1).trans k1; have q2 := (hSw.cell (p := ⟨b, 0, none⟩) l2).trans k2; go_simp; try with_reducible rfl
        try simp only [Act.put, List.setIfInBounds_toArray, List.set_cons_zero, List.set_cons_succ]
        refine wpAnyF_ready (rs := [19]) (by kernel_rfl) (by simp) ?_
        refine AllReadyF.cons (o := { dst := some 24, op := Go.Op.call { callee := Go.Callee.value (Go.Operand.func 34), args := #[Go.Operand.tmp 5, Go.Operand.tmp 20, Go.Operand.tmp 21, Go.Operand.tmp 22, Go.Operand.tmp 23], argTypes := #[23, 4, 54, 2, 1] }, type := 24, pos := "account.go:76", after := #[{ on := 0, ground := Go.Ground.data }, { on := 15, ground := Go.Ground.data }, { on := 16, ground := Go.Ground.data }, { on := 17, ground := Go.Ground.data }, { on := 18, ground := Go.Ground.data }, { on := 14, ground := Go.Ground.chain }], guard := none }) rfl (by rfl) (fun K hK => ?_) ?_
        · go_simp
          refine (MAY.out false).mono ?_
          rintro e w7 (⟨hr, rfl, hq⟩ | ⟨hf, _⟩ | ⟨hf, _⟩)
          rotate_left
          · cases hf
          · cases hf
          rw [hq]
          clear hq hr
          refine hK.out _ _ ?_ (fun hS => ?_)
          · exact hS
          clear hK K
          try simp only [Act.put, List.setIfInBounds_toArray, List.set_cons_zero, List.set_cons_succ]
          refine wpAnyF_take (i := 20) (oi := { dst := some 4, op := Go.Op.assign (Go.Operand.tmp 24), type := 24, pos := "account.go:76", after := #[{ on := 19, ground := Go.Ground.data }, { on := 19, ground := Go.Ground.chain }, { on := 0, ground := Go.Ground.phase }, { on := 1, ground := Go.Ground.phase }, { on := 2, ground := Go.Ground.phase }, { on := 3, ground := Go.Ground.phase }, { on := 4, ground := Go.Ground.phase }, { on := 5, ground := Go.Ground.phase }, { on := 6, ground := Go.Ground.phase }, { on := 7, ground := Go.Ground.phase }, { on := 8, ground := Go.Ground.phase }, { on := 9, ground := Go.Ground.phase }, { on := 10, ground := Go.Ground.phase }, { on := 11, ground := Go.Ground.phase }, { on := 12, ground := Go.Ground.phase }, { on := 13, ground := Go.Ground.phase }, { on := 14, ground := Go.Ground.phase }, { on := 15, ground := Go.Ground.phase }, { on := 16, ground := Go.Ground.phase }, { on := 17, ground := Go.Ground.phase }, { on := 18, ground := Go.Ground.phase }, { on := 19, ground := Go.Ground.phase }], guard := none }) (v := ?_) rfl (by kernel_rfl) (by kernel_rfl) (by kernel_rfl) (by kernel_rfl) (fun _ _ _ h => h) (Or.inl ⟨by rfl, ?_⟩) hS ?_
          rotate_left
          · intro w' hSw; have q0 := (hSw.cell (p := ⟨w.heap.size, 0, none⟩) l0).trans k0; have q1 := (hSw.cell (p := ⟨w.heap.size + 1, 0, none⟩) l1).trans k1; have q2 := (hSw.cell (p := ⟨b, 0, none⟩) l2).trans k2; go_simp; try with_reducible rfl
          try simp only [Act.put, List.setIfInBounds_toArray, List.set_cons_zero, List.set_cons_succ]
          refine wpAnyF_done (by kernel_rfl) ?_ _
          go_wp2_with fail
          go_ret
          exact .inl ⟨by rw [HEE.out]; decide, by rw [HEE.out]; rfl, HB.out.trans (hS.mono HB.out.size)⟩
        exact AllReadyF.nil
      exact AllReadyF.nil
    exact AllReadyF.nil
end Go.Proofs.Ytibhmgeckghoeaa.Ac

/- Account: AccountOrders. -/
import Derived.Test.YtibhmgeckghoeaaAccU
namespace Go.Proofs.Ytibhmgeckghoeaa.Ac
open Go.RowKit Go.Shelf Go.Maps
open Go.Proofs.Ytibhmgeckghoeaa.Vb
attribute [local go_sem] Oper.semAt_some

theorem nodup_snoc {l : HM} {k : Nat} {p : Int × Int} (h : l[k]? = some p) (hn : ((l.take k).map (·.1)).Nodup) (hne : ∀ (j : Nat) (q : Int × Int), j < k → l[j]? = some q → q.1 ≠ p.1) : ((l.take (k + 1)).map (·.1)).Nodup := by
  rw [take_snoc h, List.map_append, List.nodup_append]
  refine ⟨hn, by simp, ?_⟩
  intro a ha b hb
  obtain ⟨q, hq, rfl⟩ := List.mem_map.1 ha
  simp at hb
  subst hb
  obtain ⟨j, hj, rfl⟩ := List.getElem_of_mem hq
  simp only [List.length_take] at hj
  exact hne j _ (by omega) (by rw [List.getElem?_eq_getElem (by omega), List.getElem_take])

set_option maxRecDepth 100000 in
set_option maxHeartbeats 8000000 in
theorem accountOrders_walk {budget : Int} {l : HM} {v : Value} {R : Nat → Prop} {w : World} (h : Helds w R v l) :
    Calls Try.prog 3 #[.int .i64 budget, v] w fun e w' => e = .returned (.bool true) ∧ Below w.heap.size w w' := by
  have HL := Lib.hid h
  have HWF := Lib.hid h.2
  obtain ⟨⟨_, A, cap, rfl, hncap, hcap, _⟩, _⟩ := h
  unfold maxLen at hcap
  go_enter Try.func3, Try.ntmps3
  go_wp2_with fail
  refine (new_any budget w).mono ?_
  rintro e w1 ⟨hb1, (⟨hc, rfl⟩ | ⟨hc, rfl, hA1⟩)⟩
  · have HC := Lib.hid hc
    have HB1 := Lib.hid hb1
    clear hc hb1
    go_wp2_with fail
    refine (new_any budget w1).mono ?_
    rintro e w2 ⟨hb2, (⟨_, rfl⟩ | ⟨hc, _⟩)⟩
    rotate_left
    · exact absurd hc HC.out
    have HB2 := Lib.hid (HB1.out.trans (hb2.mono HB1.out.size))
    clear hb2
    go_wp2_with fail
    refine (known_any w2).mono ?_
    rintro e w3 ⟨rfl, hb3⟩
    have HB3 := Lib.hid (HB2.out.trans (hb3.mono HB2.out.size))
    clear hb3
    go_wp2_with fail
    go_ret
    exact ⟨rfl, HB3.out⟩
  · have HC := Lib.hid hc
    have HB1 := Lib.hid hb1
    have HA1 := Lib.hid hA1
    have hs1 := hA1.ltb
    clear hc hb1 hA1
    go_wp2_with fail
    refine (new_any budget w1).mono ?_
    rintro e w2 ⟨hb2, (⟨hc, _⟩ | ⟨_, rfl, hN2⟩)⟩
    · exact absurd HC.out hc
    have HB2 := Lib.hid (HB1.out.trans (hb2.mono HB1.out.size))
    have HA2 := Lib.hid (HA1.out.grow hb2)
    have HN2 := Lib.hid hN2
    have hs2 := hN2.ltb
    clear hb2 hN2
    go_wp2_with fail
    refine (known_any w2).mono ?_
    rintro e w3 ⟨rfl, hb3⟩
    have HB3 := Lib.hid (HB2.out.trans (hb3.mono HB2.out.size))
    have HA3 := Lib.hid (HA2.out.grow hb3)
    have HN3 := Lib.hid (HN2.out.grow hb3)
    have hs3 := hb3.size
    clear hb3
    go_wp2_with fail
    go_loopw [9] (fun i wr => ∃ k : Nat, k ≤ l.length ∧ i = .int .i64 k ∧ AccAt wr (w.heap.size + 1) w.heap.size k ⟨budget, 0, heldR (l.take k).reverse⟩ ∧ AccAt wr (w1.heap.size + 1) w1.heap.size 0 (newA budget) ∧
        (Acc.mk budget 0 (heldR (l.take k).reverse)).Ok ∧ (Acc.mk budget 0 (heldR (l.take k).reverse)).Fine ∧ ((l.take k).map (·.1)).Nodup ∧ (∀ (j : Nat) (p : Int × Int), j < k → l[j]? = some p → holdE budget 0 (heldR (l.take j).reverse) p.1 p.2 = 0) ∧ Below w.heap.size w wr) (fun i _ => l.length - (intOf i).toNat)
    case atStart =>
      obtain ⟨o1, o2⟩ := new_ok HC.out
      exact ⟨0, Nat.zero_le _, rfl, HA3.out, HN3.out, o1, o2, List.nodup_nil, fun j p hj => absurd hj (by omega), HB3.out⟩
    case round =>
      obtain ⟨k, hk, rfl, ha, hn, ho, hf, hnd, hall, hb⟩ := hrel
      by_cases hlt : k < l.length
      · obtain ⟨o, ho'⟩ : ∃ o, l[k]? = some o := ⟨_, List.getElem?_eq_getElem hlt⟩
        obtain ⟨bq, off, rfl, hbq, q0, q1⟩ := HL.out.at_ ho'
        have HLK := Lib.hid ho'
        have HA := Lib.hid ha
        have HN := Lib.hid hn
        have HO := Lib.hid ho
        have HF := Lib.hid hf
        have HND := Lib.hid hnd
        have HALL := Lib.hid hall
        have HB := Lib.hid hb
        have hsz := hb.size
        obtain ⟨⟨ob1, ob2⟩, ob3, ob4⟩ := HWF.out o (List.mem_of_getElem? ho')
        obtain ⟨ol, oc⟩ := o
        simp only at q0 q1 ob1 ob2 ob3 ob4
        have Q0 := Lib.hid q0
        have Q1 := Lib.hid q1
        clear ha hn ho hf hnd hall hb ho' q0 q1
        obtain ⟨wo, hwo⟩ : ∃ wo : World, wo = wr := ⟨_, rfl⟩
        rw [← hwo] at HA HN HB hsz ⊢
        clear hwo
        go_wp2_with fail
        go_loopw [10] (fun i wi => ∃ j : Nat, j ≤ k ∧ i = .int .i64 j ∧ (∀ (j' : Nat) (q : Int × Int), j' < j → l[j']? = some q → q.1 ≠ ol) ∧ Below wo.heap.size wo wi) (fun i _ => k - (intOf i).toNat)
        case atStart => exact ⟨0, Nat.zero_le _, rfl, fun j q hj => absurd hj (by omega), Below.refl _ _⟩
        case round =>
          obtain ⟨j, hj, rfl, hne, hbi⟩ := hrel
          have HBI := Lib.hid (HB.out.trans (hbi.mono HB.out.size))
          have HBJ := Lib.hid hbi
          have HNE := Lib.hid hne
          have hsi := hbi.size
          clear hne hbi
          by_cases hjk : j < k
          · obtain ⟨q, hq⟩ : ∃ q, l[j]? = some q := ⟨_, List.getElem?_eq_getElem (by omega)⟩
            obtain ⟨bp, off', hbp, hbp2, p0, _⟩ := HL.out.at_ hq
            injection hbp with hbp
            injection hbp with hbp hof _
            subst hbp hof
            have HQ := Lib.hid hq
            have c0 : wr.cell? ⟨bq, off + j * 2, none⟩ = some (.int .i64 q.1) := (HBI.out.cell (p := ⟨bq, off + j * 2, none⟩) hbq).trans p0
            have c1 : wr.cell? ⟨bq, off + k * 2, none⟩ = some (.int .i64 ol) := (HBI.out.cell (p := ⟨bq, off + k * 2, none⟩) hbq).trans Q0.out
            obtain ⟨ql, qc⟩ := q
            simp only at c0
            have e1 : (0 : Int) ≤ (k : Int) := by omega
            have e2 : (k : Int) < (l.length : Int) := by omega
            have e3 : (0 : Int) ≤ (j : Int) := by omega
            have e4 : (j : Int) < (l.length : Int) := by omega
            clear hq p0
            by_cases heq : ql = ol
            · have hd : (ql == ol) = true := by simpa using heq
              have hd' : decide (ql = ol) = true := by simpa using heq
              clear heq
              go_wp2_with fail
              go_quiet (fail)
              go_wp2_with fail
              go_ret
              exact ⟨rfl, below_drewN HBI.out _⟩
            · have hd : (ql == ol) = false := by simpa using heq
              have hd' : decide (ql = ol) = false := by simpa using heq
              have HEQ := Lib.hid heq
              clear heq
              go_wp2_with fail
              go_quiet (fail)
              go_wp2_with fail
              go_roundw
              case rel =>
                refine ⟨j + 1, by omega, by go_num, fun j' q' hj' hq' => ?_, below_drewN HBJ.out _⟩
                rcases Nat.lt_or_ge j' j with h1 | h1
                · exact HNE.out j' q' h1 hq'
                · obtain rfl : j' = j := by omega
                  rw [HQ.out] at hq'
                  injection hq' with hq'
                  subst hq'
                  exact HEQ.out
              case measure => simp [intOf]; omega
          · obtain rfl : j = k := by omega
            have e1 : (0 : Int) ≤ (j : Int) := by omega
            have e2 : (j : Int) < (l.length : Int) := by omega
            have c0 : wr.cell? ⟨bq, off + j * 2, none⟩ = some (.int .i64 ol) := (HBI.out.cell (p := ⟨bq, off + j * 2, none⟩) hbq).trans Q0.out
            have c1 : wr.cell? ⟨bq, off + j * 2 + 1, none⟩ = some (.int .i64 oc) := (HBI.out.cell (p := ⟨bq, off + j * 2 + 1, none⟩) hbq).trans Q1.out
            have HAI := Lib.hid (HA.out.grow HBJ.out)
            have HNI := Lib.hid (HN.out.grow HBJ.out)
            have hne1 : bq ≠ w.heap.size := by omega
            have hlq : bq < wr.heap.size := by have := HBI.out.size; omega
            obtain ⟨en, hen⟩ : ∃ z, z = (Acc.mk budget 0 (heldR (l.take j).reverse)).holdE ol oc := ⟨_, rfl⟩
            have HEN := Lib.hid hen
            clear hen
            go_wp2_with fail
            refine wp_region_F (Chg (· = w.heap.size) wr) [] (by kernel_rfl) ((Chg.refl _ _).grow (Below.refl _ _).drew) (fun hS => ?_)
            refine wpAnyF_take (i := 0) (oi := { dst := some 62, op := Go.Op.move (Go.Operand.tmp 5), type := 23, pos := "law.go:241", after := #[], guard := none }) (v := ?_) rfl (by kernel_rfl) (by kernel_rfl) (by kernel_rfl) (by kernel_rfl) (fun _ _ _ h => h) (Or.inl ⟨by rfl, ?_⟩) hS ?_
            rotate_left
            · intro w' hSw; have q0 := (World.cell?_of_block (a := ⟨bq, off + j * 2, none⟩) (hSw.block bq hlq hne1)).trans c0; have q1 := (World.cell?_of_block (a := ⟨bq, off + j * 2 + 1, none⟩) (hSw.block bq hlq hne1)).trans c1; go_simp; try with_reducible rfl
            try simp only [Act.put, List.setIfInBounds_toArray, List.set_cons_zero, List.set_cons_succ]
            refine wpAnyF_take (i := 1) (oi := { dst := some 63, op := Go.Op.move (Go.Operand.tmp 1), type := 22, pos := "law.go:241", after := #[], guard := none }) (v := ?_) rfl (by kernel_rfl) (by kernel_rfl) (by kernel_rfl) (by kernel_rfl) (fun _ _ _ h => h) (Or.inl ⟨by rfl, ?_⟩) hS ?_
            rotate_left
            · intro w' hSw; have q0 := (World.cell?_of_block (a := ⟨bq, off + j * 2, none⟩) (hSw.block bq hlq hne1)).trans c0; have q1 := (World.cell?_of_block (a := ⟨bq, off + j * 2 + 1, none⟩) (hSw.block bq hlq hne1)).trans c1; go_simp; try with_reducible rfl
            try simp only [Act.put, List.setIfInBounds_toArray, List.set_cons_zero, List.set_cons_succ]
            refine wpAnyF_take (i := 2) (oi := { dst := some 64, op := Go.Op.move (Go.Operand.tmp 9), type := 3, pos := "law.go:241", after := #[], guard := none }) (v := ?_) rfl (by kernel_rfl) (by kernel_rfl) (by kernel_rfl) (by kernel_rfl) (fun _ _ _ h => h) (Or.inl ⟨by rfl, ?_⟩) hS ?_
            rotate_left
            · intro w' hSw; have q0 := (World.cell?_of_block (a := ⟨bq, off + j * 2, none⟩) (hSw.block bq hlq hne1)).trans c0; have q1 := (World.cell?_of_block (a := ⟨bq, off + j * 2 + 1, none⟩) (hSw.block bq hlq hne1)).trans c1; go_simp; try with_reducible rfl
            try simp only [Act.put, List.setIfInBounds_toArray, List.set_cons_zero, List.set_cons_succ]
            refine wpAnyF_take (i := 3) (oi := { dst := some 65, op := Go.Op.indexAddr 22 (Go.Operand.tmp 63) (Go.Operand.tmp 64), type := 0, pos := "law.go:241", after := #[{ on := 1, ground := Go.Ground.data }, { on := 2, ground := Go.Ground.data }], guard := none }) (v := ?_) rfl (by kernel_rfl) (by kernel_rfl) (by kernel_rfl) (by kernel_rfl) (fun _ _ _ h => h) (Or.inl ⟨by rfl, ?_⟩) hS ?_
            rotate_left
            · intro w' hSw; have q0 := (World.cell?_of_block (a := ⟨bq, off + j * 2, none⟩) (hSw.block bq hlq hne1)).trans c0; have q1 := (World.cell?_of_block (a := ⟨bq, off + j * 2 + 1, none⟩) (hSw.block bq hlq hne1)).trans c1; go_simp; try with_reducible rfl
            try simp only [Act.put, List.setIfInBounds_toArray, List.set_cons_zero, List.set_cons_succ]
            refine wpAnyF_take (i := 4) (oi := { dst := some 66, op := Go.Op.fieldAddr 29 (Go.Operand.tmp 65) 0, type := 0, pos := "law.go:241", after := #[{ on := 3, ground := Go.Ground.data }], guard := none }) (v := ?_) rfl (by kernel_rfl) (by kernel_rfl) (by kernel_rfl) (by kernel_rfl) (fun _ _ _ h => h) (Or.inl ⟨by rfl, ?_⟩) hS ?_
            rotate_left
            · intro w' hSw; have q0 := (World.cell?_of_block (a := ⟨bq, off + j * 2, none⟩) (hSw.block bq hlq hne1)).trans c0; have q1 := (World.cell?_of_block (a := ⟨bq, off + j * 2 + 1, none⟩) (hSw.block bq hlq hne1)).trans c1; go_simp; try with_reducible rfl
            try simp only [Act.put, List.setIfInBounds_toArray, List.set_cons_zero, List.set_cons_succ]
            refine wpAnyF_take (i := 5) (oi := { dst := some 67, op := Go.Op.load 3 (Go.Operand.tmp 66), type := 3, pos := "law.go:241", after := #[{ on := 4, ground := Go.Ground.data }], guard := none }) (v := ?_) rfl (by kernel_rfl) (by kernel_rfl) (by kernel_rfl) (by kernel_rfl) (fun _ _ _ h => h) (Or.inl ⟨by rfl, ?_⟩) hS ?_
            rotate_left
            · intro w' hSw; have q0 := (World.cell?_of_block (a := ⟨bq, off + j * 2, none⟩) (hSw.block bq hlq hne1)).trans c0; have q1 := (World.cell?_of_block (a := ⟨bq, off + j * 2 + 1, none⟩) (hSw.block bq hlq hne1)).trans c1; go_simp; try with_reducible rfl
            try simp only [Act.put, List.setIfInBounds_toArray, List.set_cons_zero, List.set_cons_succ]
            refine wpAnyF_take (i := 6) (oi := { dst := some 68, op := Go.Op.move (Go.Operand.tmp 1), type := 22, pos := "law.go:241", after := #[], guard := none }) (v := ?_) rfl (by kernel_rfl) (by kernel_rfl) (by kernel_rfl) (by kernel_rfl) (fun _ _ _ h => h) (Or.inl ⟨by rfl, ?_⟩) hS ?_
            rotate_left
            · intro w' hSw; have q0 := (World.cell?_of_block (a := ⟨bq, off + j * 2, none⟩) (hSw.block bq hlq hne1)).trans c0; have q1 := (World.cell?_of_block (a := ⟨bq, off + j * 2 + 1, none⟩) (hSw.block bq hlq hne1)).trans c1; go_simp; try with_reducible rfl
            try simp only [Act.put, List.setIfInBounds_toArray, List.set_cons_zero, List.set_cons_succ]
            refine wpAnyF_take (i := 7) (oi := { dst := some 69, op := Go.Op.move (Go.Operand.tmp 9), type := 3, pos := "law.go:241", after := #[], guard := none }) (v := ?_) rfl (by kernel_rfl) (by kernel_rfl) (by kernel_rfl) (by kernel_rfl) (fun _ _ _ h => h) (Or.inl ⟨by rfl, ?_⟩) hS ?_
            rotate_left
            · intro w' hSw; have q0 := (World.cell?_of_block (a := ⟨bq, off + j * 2, none⟩) (hSw.block bq hlq hne1)).trans c0; have q1 := (World.cell?_of_block (a := ⟨bq, off + j * 2 + 1, none⟩) (hSw.block bq hlq hne1)).trans c1; go_simp; try with_reducible rfl
            try simp only [Act.put, List.setIfInBounds_toArray, List.set_cons_zero, List.set_cons_succ]
            refine wpAnyF_take (i := 8) (oi := { dst := some 70, op := Go.Op.indexAddr 22 (Go.Operand.tmp 68) (Go.Operand.tmp 69), type := 0, pos := "law.go:241", after := #[{ on := 6, ground := Go.Ground.data }, { on := 7, ground := Go.Ground.data }], guard := none }) (v := ?_) rfl (by kernel_rfl) (by kernel_rfl) (by kernel_rfl) (by kernel_rfl) (fun _ _ _ h => h) (Or.inl ⟨by rfl, ?_⟩) hS ?_
            rotate_left
            · intro w' hSw; have q0 := (World.cell?_of_block (a := ⟨bq, off + j * 2, none⟩) (hSw.block bq hlq hne1)).trans c0; have q1 := (World.cell?_of_block (a := ⟨bq, off + j * 2 + 1, none⟩) (hSw.block bq hlq hne1)).trans c1; go_simp; try with_reducible rfl
            try simp only [Act.put, List.setIfInBounds_toArray, List.set_cons_zero, List.set_cons_succ]
            refine wpAnyF_take (i := 9) (oi := { dst := some 71, op := Go.Op.fieldAddr 29 (Go.Operand.tmp 70) 1, type := 0, pos := "law.go:241", after := #[{ on := 8, ground := Go.Ground.data }], guard := none }) (v := ?_) rfl (by kernel_rfl) (by kernel_rfl) (by kernel_rfl) (by kernel_rfl) (fun _ _ _ h => h) (Or.inl ⟨by rfl, ?_⟩) hS ?_
            rotate_left
            · intro w' hSw; have q0 := (World.cell?_of_block (a := ⟨bq, off + j * 2, none⟩) (hSw.block bq hlq hne1)).trans c0; have q1 := (World.cell?_of_block (a := ⟨bq, off + j * 2 + 1, none⟩) (hSw.block bq hlq hne1)).trans c1; go_simp; try with_reducible rfl
            try simp only [Act.put, List.setIfInBounds_toArray, List.set_cons_zero, List.set_cons_succ]
            refine wpAnyF_take (i := 10) (oi := { dst := some 72, op := Go.Op.load 2 (Go.Operand.tmp 71), type := 2, pos := "law.go:241", after := #[{ on := 9, ground := Go.Ground.data }], guard := none }) (v := ?_) rfl (by kernel_rfl) (by kernel_rfl) (by kernel_rfl) (by kernel_rfl) (fun _ _ _ h => h) (Or.inl ⟨by rfl, ?_⟩) hS ?_
            rotate_left
            · intro w' hSw; have q0 := (World.cell?_of_block (a := ⟨bq, off + j * 2, none⟩) (hSw.block bq hlq hne1)).trans c0; have q1 := (World.cell?_of_block (a := ⟨bq, off + j * 2 + 1, none⟩) (hSw.block bq hlq hne1)).trans c1; go_simp; try with_reducible rfl
            try simp only [Act.put, List.setIfInBounds_toArray, List.set_cons_zero, List.set_cons_succ]
            refine wpAnyF_ready (rs := [11]) (by kernel_rfl) (by simp) ?_
            refine AllReadyF.cons (o := { dst := some 73, op := Go.Op.call { callee := Go.Callee.value (Go.Operand.func 9), args := #[Go.Operand.tmp 62, Go.Operand.tmp 67, Go.Operand.tmp 72], argTypes := #[23, 3, 2] }, type := 24, pos := "law.go:241", after := #[{ on := 0, ground := Go.Ground.data }, { on := 5, ground := Go.Ground.data }, { on := 10, ground := Go.Ground.data }], guard := none }) rfl (by rfl) (fun K hK => ?_) ?_
            · go_simp
              refine (hold_one (HAI.out.grow (Below.refl wr.heap.size wr).drew) HO.out (by unfold maxLen; omega) ⟨ob1, ob2⟩ ⟨ob3, ob4⟩).mono ?_
              rintro e w7 ⟨rfl, hc7, hn7, hz7⟩
              rw [← HEN.out]
              refine hK.out _ _ ?_ (fun hS => ?_)
              · exact ((Chg.refl _ _).grow (Below.refl _ _).drew).step hc7 fun _ _ h => h
              clear hK K
              try simp only [Act.put, List.setIfInBounds_toArray, List.set_cons_zero, List.set_cons_succ]
              have HC7 := Lib.hid hS
              have HB7 := Lib.hid (hS.below (B := w.heap.size) (by omega) (fun k hk e => by omega))
              have HN7 := Lib.hid hn7
              have HZ7 := Lib.hid hz7
              clear hc7 hn7 hz7
              refine wpAnyF_take (i := 12) (oi := { dst := some 74, op := Go.Op.binOp Go.BinOp.neq 3 (Go.Operand.tmp 73) (Go.Operand.const (Go.Value.int Go.IntKind.i64 0)) 3, type := 4, pos := "law.go:241", after := #[{ on := 11, ground := Go.Ground.data }], guard := none }) (v := ?_) rfl (by kernel_rfl) (by kernel_rfl) (by kernel_rfl) (by kernel_rfl) (fun _ _ _ h => h) (Or.inl ⟨by rfl, ?_⟩) hS ?_
              rotate_left
              · intro w' hSw; have q0 := (World.cell?_of_block (a := ⟨bq, off + j * 2, none⟩) (hSw.block bq hlq hne1)).trans c0; have q1 := (World.cell?_of_block (a := ⟨bq, off + j * 2 + 1, none⟩) (hSw.block bq hlq hne1)).trans c1; go_simp; try with_reducible rfl
              try simp only [Act.put, List.setIfInBounds_toArray, List.set_cons_zero, List.set_cons_succ]
              refine wpAnyF_done (by kernel_rfl) ?_ _
              by_cases hz : en = 0
              · have hd : (en == 0) = true := (by simpa using hz)
                have HZ := Lib.hid hz
                clear hz
                go_wp2_with fail
                go_roundw
                case rel =>
                  have hz0 : (Acc.mk budget 0 (heldR (l.take j).reverse)).holdE ol oc = 0 := by rw [← HEN.out, HZ.out]
                  have htr := take_rev HLK.out
                  have hA := HZ7.out hz0
                  obtain ⟨o1, o2⟩ := hold_keeps HO.out HF.out ob2 hz0
                  refine ⟨j + 1, by omega, by go_num, ?_, ?_, ?_, ?_, nodup_snoc HLK.out HND.out HNE.out, ?_, HBI.out.trans HB7.out⟩
                  · rw [htr]; exact hA
                  · exact HNI.out.chg HC7.out (by omega) (by omega)
                  · rw [htr]; exact o1
                  · rw [htr]; exact o2
                  · intro j' p' hj' hp'
                    rcases Nat.lt_or_ge j' j with h1 | h1
                    · exact HALL.out j' p' h1 hp'
                    · obtain rfl : j' = j := by omega
                      rw [HLK.out] at hp'
                      injection hp' with hp'
                      subst hp'
                      exact hz0
                case measure => simp [intOf]; omega
              · have hd : (en == 0) = false := (by simpa using hz)
                clear hz
                go_wp2_with fail
                go_ret
                exact ⟨rfl, HBI.out.trans HB7.out⟩
            exact AllReadyF.nil
      · obtain rfl : k = l.length := by omega
        rw [List.take_length] at ha ho hf hnd
        have HN := Lib.hid hn
        have HA := Lib.hid ha
        have HO := Lib.hid ho
        have HND := Lib.hid hnd
        have HALL := Lib.hid (fun (i : Nat) (p : Int × Int) (hp : l[i]? = some p) => hall i p (List.getElem?_eq_some_iff.1 hp).1 hp)
        have HB := Lib.hid hb
        have hsz := hb.size
        have hwr : IntKind.i64.wrap ((l.length : Int) - 1) = (l.length : Int) - 1 := IntWalk.i64_in _ (by omega)
        have hsn := HN3.out.ltb
        clear ha ho hf hnd hall hb hn
        obtain ⟨wo, hwo⟩ : ∃ wo : World, wo = wr := ⟨_, rfl⟩
        rw [← hwo] at HA HN HB hsz ⊢
        clear hwo
        go_wp2_with fail
        go_loopw [11] (fun i wr => ∃ k : Nat, k ≤ l.length ∧ i = .int .i64 ((k : Int) - 1) ∧ AccAt wr (w.heap.size + 1) w.heap.size l.length ⟨budget, 0, heldR l.reverse⟩ ∧ AccAt wr (w1.heap.size + 1) w1.heap.size (l.length - k) ⟨budget, 0, heldR (l.drop k)⟩ ∧
          (Acc.mk budget 0 (heldR (l.drop k))).Ok ∧ (Acc.mk budget 0 (heldR (l.drop k))).Fine ∧ Below w.heap.size w wr) (fun i _ => (intOf i + 1).toNat)
        case atStart =>
          obtain ⟨o1, o2⟩ := new_ok HC.out
          refine ⟨l.length, Nat.le_refl _, rfl, HA.out, ?_, ?_, ?_, HB.out⟩
          · rw [List.drop_length, Nat.sub_self]; exact HN.out
          · rw [List.drop_length]; exact o1
          · rw [List.drop_length]; exact o2
        case round =>
          obtain ⟨k, hk, rfl, ha, hn, ho, hf, hb⟩ := hrel
          have HA2 := Lib.hid ha
          have HN2 := Lib.hid hn
          have HO2 := Lib.hid ho
          have HF2 := Lib.hid hf
          have HBR := Lib.hid hb
          have hsr := hb.size
          have hlb := hn.ltb
          clear ha hn ho hf hb
          rcases k with _ | k
          · have HEQ := Lib.hid (held_reverse HND.out)
            have HZ := Lib.hid (show l.drop 0 = l from rfl)
            have hneg : ¬ (0 : Int) ≤ ((0 : Nat) : Int) - 1 := by omega
            have hneg2 : decide (((0 : Nat) : Int) - 1 ≥ 0) = false := by simp
            go_wp2_with fail
            refine (same_live HA2.out HN2.out HO.out.rise HO2.out.rise).mono ?_
            rintro e w8 ⟨rfl, hb8⟩
            rw [show sameB ⟨budget, 0, heldR l.reverse⟩ ⟨budget, 0, heldR (l.drop 0)⟩ = true from by rw [same_eq, HZ.out, HEQ.out]]
            have HA8 := Lib.hid (HA2.out.grow hb8)
            have HN8 := Lib.hid (HN2.out.grow hb8)
            have HB8 := Lib.hid (HBR.out.trans (hb8.mono hsr))
            clear hb8
            go_wp2_with fail
            refine (same_live HN8.out HA8.out HO2.out.rise HO.out.rise).mono ?_
            rintro e w9 ⟨rfl, hb9⟩
            rw [show sameB ⟨budget, 0, heldR (l.drop 0)⟩ ⟨budget, 0, heldR l.reverse⟩ = true from by rw [same_eq, HZ.out, HEQ.out]]
            have HB9 := Lib.hid (HB8.out.trans (hb9.mono HB8.out.size))
            clear hb9
            go_wp2_with fail
            go_ret
            exact ⟨rfl, HB9.out⟩
          · obtain ⟨o, ho'⟩ : ∃ o, l[k]? = some o := ⟨_, List.getElem?_eq_getElem (by omega)⟩
            obtain ⟨bq, off, rfl, hbq, q0, q1⟩ := HL.out.at_ ho'
            have hback := orders_back HC.out HND.out HALL.out ho'
            have hdrop := drop_at ho'
            obtain ⟨⟨ob1, ob2⟩, ob3, ob4⟩ := HWF.out o (List.mem_of_getElem? ho')
            obtain ⟨ol, oc⟩ := o
            simp only at q0 q1 ob1 ob2 ob3 ob4
            rw [show (((k + 1 : Nat) : Int) - 1) = (k : Int) from by omega]
            have c0 : wr.cell? ⟨bq, off + k * 2, none⟩ = some (.int .i64 ol) := (HBR.out.cell (p := ⟨bq, off + k * 2, none⟩) hbq).trans q0
            have c1 : wr.cell? ⟨bq, off + k * 2 + 1, none⟩ = some (.int .i64 oc) := (HBR.out.cell (p := ⟨bq, off + k * 2 + 1, none⟩) hbq).trans q1
            have hne1 : bq ≠ w1.heap.size := by omega
            have hlq : bq < wr.heap.size := by omega
            have e1 : (0 : Int) ≤ (k : Int) := by omega
            have e2 : (k : Int) < (l.length : Int) := by omega
            have hwk : IntKind.i64.wrap ((k : Int) - 1) = (k : Int) - 1 := IntWalk.i64_in _ (by omega)
            have HBK := Lib.hid hback
            have HDR := Lib.hid hdrop
            clear hback hdrop q0 q1 ho'
            go_wp2_with fail
            refine wp_region_F (Chg (· = w1.heap.size) wr) [] (by kernel_rfl) ((Chg.refl _ _).grow (Below.refl _ _).drew) (fun hS => ?_)
            refine wpAnyF_take (i := 0) (oi := { dst := some 82, op := Go.Op.move (Go.Operand.tmp 7), type := 23, pos := "law.go:246", after := #[], guard := none }) (v := ?_) rfl (by kernel_rfl) (by kernel_rfl) (by kernel_rfl) (by kernel_rfl) (fun _ _ _ h => h) (Or.inl ⟨by rfl, ?_⟩) hS ?_
            rotate_left
            · intro w' hSw; have q0 := (World.cell?_of_block (a := ⟨bq, off + k * 2, none⟩) (hSw.block bq hlq hne1)).trans c0; have q1 := (World.cell?_of_block (a := ⟨bq, off + k * 2 + 1, none⟩) (hSw.block bq hlq hne1)).trans c1; go_simp; try with_reducible rfl
            try simp only [Act.put, List.setIfInBounds_toArray, List.set_cons_zero, List.set_cons_succ]
            refine wpAnyF_take (i := 1) (oi := { dst := some 83, op := Go.Op.move (Go.Operand.tmp 1), type := 22, pos := "law.go:246", after := #[], guard := none }) (v := ?_) rfl (by kernel_rfl) (by kernel_rfl) (by kernel_rfl) (by kernel_rfl) (fun _ _ _ h => h) (Or.inl ⟨by rfl, ?_⟩) hS ?_
            rotate_left
            · intro w' hSw; have q0 := (World.cell?_of_block (a := ⟨bq, off + k * 2, none⟩) (hSw.block bq hlq hne1)).trans c0; have q1 := (World.cell?_of_block (a := ⟨bq, off + k * 2 + 1, none⟩) (hSw.block bq hlq hne1)).trans c1; go_simp; try with_reducible rfl
            try simp only [Act.put, List.setIfInBounds_toArray, List.set_cons_zero, List.set_cons_succ]
            refine wpAnyF_take (i := 2) (oi := { dst := some 84, op := Go.Op.move (Go.Operand.tmp 11), type := 3, pos := "law.go:246", after := #[], guard := none }) (v := ?_) rfl (by kernel_rfl) (by kernel_rfl) (by kernel_rfl) (by kernel_rfl) (fun _ _ _ h => h) (Or.inl ⟨by rfl, ?_⟩) hS ?_
            rotate_left
            · intro w' hSw; have q0 := (World.cell?_of_block (a := ⟨bq, off + k * 2, none⟩) (hSw.block bq hlq hne1)).trans c0; have q1 := (World.cell?_of_block (a := ⟨bq, off + k * 2 + 1, none⟩) (hSw.block bq hlq hne1)).trans c1; go_simp; try with_reducible rfl
            try simp only [Act.put, List.setIfInBounds_toArray, List.set_cons_zero, List.set_cons_succ]
            refine wpAnyF_take (i := 3) (oi := { dst := some 85, op := Go.Op.indexAddr 22 (Go.Operand.tmp 83) (Go.Operand.tmp 84), type := 0, pos := "law.go:246", after := #[{ on := 1, ground := Go.Ground.data }, { on := 2, ground := Go.Ground.data }], guard := none }) (v := ?_) rfl (by kernel_rfl) (by kernel_rfl) (by kernel_rfl) (by kernel_rfl) (fun _ _ _ h => h) (Or.inl ⟨by rfl, ?_⟩) hS ?_
            rotate_left
            · intro w' hSw; have q0 := (World.cell?_of_block (a := ⟨bq, off + k * 2, none⟩) (hSw.block bq hlq hne1)).trans c0; have q1 := (World.cell?_of_block (a := ⟨bq, off + k * 2 + 1, none⟩) (hSw.block bq hlq hne1)).trans c1; go_simp; try with_reducible rfl
            try simp only [Act.put, List.setIfInBounds_toArray, List.set_cons_zero, List.set_cons_succ]
            refine wpAnyF_take (i := 4) (oi := { dst := some 86, op := Go.Op.fieldAddr 29 (Go.Operand.tmp 85) 0, type := 0, pos := "law.go:246", after := #[{ on := 3, ground := Go.Ground.data }], guard := none }) (v := ?_) rfl (by kernel_rfl) (by kernel_rfl) (by kernel_rfl) (by kernel_rfl) (fun _ _ _ h => h) (Or.inl ⟨by rfl, ?_⟩) hS ?_
            rotate_left
            · intro w' hSw; have q0 := (World.cell?_of_block (a := ⟨bq, off + k * 2, none⟩) (hSw.block bq hlq hne1)).trans c0; have q1 := (World.cell?_of_block (a := ⟨bq, off + k * 2 + 1, none⟩) (hSw.block bq hlq hne1)).trans c1; go_simp; try with_reducible rfl
            try simp only [Act.put, List.setIfInBounds_toArray, List.set_cons_zero, List.set_cons_succ]
            refine wpAnyF_take (i := 5) (oi := { dst := some 87, op := Go.Op.load 3 (Go.Operand.tmp 86), type := 3, pos := "law.go:246", after := #[{ on := 4, ground := Go.Ground.data }], guard := none }) (v := ?_) rfl (by kernel_rfl) (by kernel_rfl) (by kernel_rfl) (by kernel_rfl) (fun _ _ _ h => h) (Or.inl ⟨by rfl, ?_⟩) hS ?_
            rotate_left
            · intro w' hSw; have q0 := (World.cell?_of_block (a := ⟨bq, off + k * 2, none⟩) (hSw.block bq hlq hne1)).trans c0; have q1 := (World.cell?_of_block (a := ⟨bq, off + k * 2 + 1, none⟩) (hSw.block bq hlq hne1)).trans c1; go_simp; try with_reducible rfl
            try simp only [Act.put, List.setIfInBounds_toArray, List.set_cons_zero, List.set_cons_succ]
            refine wpAnyF_take (i := 6) (oi := { dst := some 88, op := Go.Op.move (Go.Operand.tmp 1), type := 22, pos := "law.go:246", after := #[], guard := none }) (v := ?_) rfl (by kernel_rfl) (by kernel_rfl) (by kernel_rfl) (by kernel_rfl) (fun _ _ _ h => h) (Or.inl ⟨by rfl, ?_⟩) hS ?_
            rotate_left
            · intro w' hSw; have q0 := (World.cell?_of_block (a := ⟨bq, off + k * 2, none⟩) (hSw.block bq hlq hne1)).trans c0; have q1 := (World.cell?_of_block (a := ⟨bq, off + k * 2 + 1, none⟩) (hSw.block bq hlq hne1)).trans c1; go_simp; try with_reducible rfl
            try simp only [Act.put, List.setIfInBounds_toArray, List.set_cons_zero, List.set_cons_succ]
            refine wpAnyF_take (i := 7) (oi := { dst := some 89, op := Go.Op.move (Go.Operand.tmp 11), type := 3, pos := "law.go:246", after := #[], guard := none }) (v := ?_) rfl (by kernel_rfl) (by kernel_rfl) (by kernel_rfl) (by kernel_rfl) (fun _ _ _ h => h) (Or.inl ⟨by rfl, ?_⟩) hS ?_
            rotate_left
            · intro w' hSw; have q0 := (World.cell?_of_block (a := ⟨bq, off + k * 2, none⟩) (hSw.block bq hlq hne1)).trans c0; have q1 := (World.cell?_of_block (a := ⟨bq, off + k * 2 + 1, none⟩) (hSw.block bq hlq hne1)).trans c1; go_simp; try with_reducible rfl
            try simp only [Act.put, List.setIfInBounds_toArray, List.set_cons_zero, List.set_cons_succ]
            refine wpAnyF_take (i := 8) (oi := { dst := some 90, op := Go.Op.indexAddr 22 (Go.Operand.tmp 88) (Go.Operand.tmp 89), type := 0, pos := "law.go:246", after := #[{ on := 6, ground := Go.Ground.data }, { on := 7, ground := Go.Ground.data }], guard := none }) (v := ?_) rfl (by kernel_rfl) (by kernel_rfl) (by kernel_rfl) (by kernel_rfl) (fun _ _ _ h => h) (Or.inl ⟨by rfl, ?_⟩) hS ?_
            rotate_left
            · intro w' hSw; have q0 := (World.cell?_of_block (a := ⟨bq, off + k * 2, none⟩) (hSw.block bq hlq hne1)).trans c0; have q1 := (World.cell?_of_block (a := ⟨bq, off + k * 2 + 1, none⟩) (hSw.block bq hlq hne1)).trans c1; go_simp; try with_reducible rfl
            try simp only [Act.put, List.setIfInBounds_toArray, List.set_cons_zero, List.set_cons_succ]
            refine wpAnyF_take (i := 9) (oi := { dst := some 91, op := Go.Op.fieldAddr 29 (Go.Operand.tmp 90) 1, type := 0, pos := "law.go:246", after := #[{ on := 8, ground := Go.Ground.data }], guard := none }) (v := ?_) rfl (by kernel_rfl) (by kernel_rfl) (by kernel_rfl) (by kernel_rfl) (fun _ _ _ h => h) (Or.inl ⟨by rfl, ?_⟩) hS ?_
            rotate_left
            · intro w' hSw; have q0 := (World.cell?_of_block (a := ⟨bq, off + k * 2, none⟩) (hSw.block bq hlq hne1)).trans c0; have q1 := (World.cell?_of_block (a := ⟨bq, off + k * 2 + 1, none⟩) (hSw.block bq hlq hne1)).trans c1; go_simp; try with_reducible rfl
            try simp only [Act.put, List.setIfInBounds_toArray, List.set_cons_zero, List.set_cons_succ]
            refine wpAnyF_take (i := 10) (oi := { dst := some 92, op := Go.Op.load 2 (Go.Operand.tmp 91), type := 2, pos := "law.go:246", after := #[{ on := 9, ground := Go.Ground.data }], guard := none }) (v := ?_) rfl (by kernel_rfl) (by kernel_rfl) (by kernel_rfl) (by kernel_rfl) (fun _ _ _ h => h) (Or.inl ⟨by rfl, ?_⟩) hS ?_
            rotate_left
            · intro w' hSw; have q0 := (World.cell?_of_block (a := ⟨bq, off + k * 2, none⟩) (hSw.block bq hlq hne1)).trans c0; have q1 := (World.cell?_of_block (a := ⟨bq, off + k * 2 + 1, none⟩) (hSw.block bq hlq hne1)).trans c1; go_simp; try with_reducible rfl
            try simp only [Act.put, List.setIfInBounds_toArray, List.set_cons_zero, List.set_cons_succ]
            refine wpAnyF_ready (rs := [11]) (by kernel_rfl) (by simp) ?_
            refine AllReadyF.cons (o := { dst := some 93, op := Go.Op.call { callee := Go.Callee.value (Go.Operand.func 9), args := #[Go.Operand.tmp 82, Go.Operand.tmp 87, Go.Operand.tmp 92], argTypes := #[23, 3, 2] }, type := 24, pos := "law.go:246", after := #[{ on := 0, ground := Go.Ground.data }, { on := 5, ground := Go.Ground.data }, { on := 10, ground := Go.Ground.data }], guard := none }) rfl (by rfl) (fun K hK => ?_) ?_
            · go_simp
              refine (hold_one (HN2.out.grow (Below.refl wr.heap.size wr).drew) HO2.out (by unfold maxLen; omega) ⟨ob1, ob2⟩ ⟨ob3, ob4⟩).mono ?_
              rintro e w7 ⟨rfl, hc7, _, hz7⟩
              rw [show (Acc.mk budget 0 (heldR (l.drop (k + 1)))).holdE ol oc = 0 from HBK.out]
              refine hK.out _ _ ?_ (fun hS => ?_)
              · exact ((Chg.refl _ _).grow (Below.refl _ _).drew).step hc7 fun _ _ h => h
              clear hK K
              try simp only [Act.put, List.setIfInBounds_toArray, List.set_cons_zero, List.set_cons_succ]
              have HC7 := Lib.hid hS
              have HB7 := Lib.hid (hS.below (B := w.heap.size) (by omega) (fun k hk e => by omega))
              have HZ7 := Lib.hid (hz7 HBK.out)
              clear hc7 hz7
              refine wpAnyF_take (i := 12) (oi := { dst := some 94, op := Go.Op.binOp Go.BinOp.neq 3 (Go.Operand.tmp 93) (Go.Operand.const (Go.Value.int Go.IntKind.i64 0)) 3, type := 4, pos := "law.go:246", after := #[{ on := 11, ground := Go.Ground.data }], guard := none }) (v := ?_) rfl (by kernel_rfl) (by kernel_rfl) (by kernel_rfl) (by kernel_rfl) (fun _ _ _ h => h) (Or.inl ⟨by rfl, ?_⟩) hS ?_
              rotate_left
              · intro w' hSw; have q0 := (World.cell?_of_block (a := ⟨bq, off + k * 2, none⟩) (hSw.block bq hlq hne1)).trans c0; have q1 := (World.cell?_of_block (a := ⟨bq, off + k * 2 + 1, none⟩) (hSw.block bq hlq hne1)).trans c1; go_simp; try with_reducible rfl
              try simp only [Act.put, List.setIfInBounds_toArray, List.set_cons_zero, List.set_cons_succ]
              refine wpAnyF_done (by kernel_rfl) ?_ _
              go_wp2_with fail
              go_roundw
              case rel =>
                obtain ⟨o1, o2⟩ := hold_keeps HO2.out HF2.out ob2 HBK.out
                refine ⟨k, by omega, rfl, HA2.out.chg HC7.out (by omega) (by omega), ?_, ?_, ?_, HBR.out.trans HB7.out⟩
                · rw [HDR.out, show l.length - k = l.length - (k + 1) + 1 from by omega]; exact HZ7.out
                · rw [HDR.out]; exact o1
                · rw [HDR.out]; exact o2
              case measure => simp [intOf]
            exact AllReadyF.nil
end Go.Proofs.Ytibhmgeckghoeaa.Ac

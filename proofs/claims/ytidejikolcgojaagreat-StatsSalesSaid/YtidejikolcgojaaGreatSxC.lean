/- Stats: the document's sums by bidders, by lots. (Printed by tools/gen_sxc.py.) -/
import Derived.Test.YtidejikolcgojaaGreatSxB
namespace Go.Proofs.YtidejikolcgojaaGreat.St
open Go.RowKit Go.Shelf
open Go.Proofs.YtidejikolcgojaaGreat.Vb Go.Proofs.YtidejikolcgojaaGreat.Ac

/-- a list of sums of the call's own; nil where it is empty -/
def OwnP (w : World) (lo : Nat) (v : Value) (M : HM) : Prop := (∃ A c, v = .slice A M.length c) ∧ w.ownsRow lo PairT 2 v M.length (pcells M) ∧ (M = [] → v = .slice none 0 0)
theorem OwnP.grow {w w' : World} {lo : Nat} {v : Value} {M : HM} (h : OwnP w lo v M) (hb : Below w.heap.size w w') : OwnP w' lo v M := ⟨h.1, own_grow h.2.1 hb, h.2.2⟩
theorem addP_nil {M : HM} {n c : Int} {A : Option Addr} {k : Nat} : addP M n c = [] → Value.slice A (addP M n c).length k = .slice none 0 0 := fun h => absurd h (addP_ne n c)
set_option maxRecDepth 100000 in
set_option maxHeartbeats 8000000 in
theorem refByBidder_any {l : List Sale} {v : Value} {R : Nat → Prop} {w : World} (h : Sals w R v l) (hle : l.length ≤ 1000) :
    Calls Tryz.prog 40 #[v] w fun e w' => ∃ v', e = .returned v' ∧ OwnP w' w.heap.size v' (sumsM Sale.bidder l) ∧ Below w.heap.size w w' := by
  obtain ⟨A, cap, rfl, hnc, hcap⟩ := h.form
  have HL := Lib.hid h
  clear h
  go_enter Tryz.func40, Tryz.ntmps40
  go_wp2_with fail
  go_loopw [3, 4] (fun o i wr => ∃ k : Nat, k ≤ l.length ∧ i = .int .i64 k ∧ OwnP wr w.heap.size o (sumsM Sale.bidder (l.take k)) ∧ Below w.heap.size w wr) (fun _ i _ => l.length - (intOf i).toNat)
  case atStart => exact ⟨0, Nat.zero_le _, rfl, ⟨⟨none, 0, rfl⟩, World.ownsRow_nil _ _ _ _, fun _ => rfl⟩, Below.refl _ _⟩
  case round =>
    obtain ⟨k, hk, rfl, ho, hb⟩ := hrel
    have HB := Lib.hid hb
    have HO := Lib.hid ho
    obtain ⟨⟨B1, c1, rfl⟩, _, _⟩ := ho
    by_cases hlt : k < l.length
    · obtain ⟨s, hs⟩ : ∃ s, l[k]? = some s := ⟨_, List.getElem?_eq_getElem hlt⟩
      obtain ⟨bq, off, rfl, _, hbq, hc⟩ := HL.out.at_ hs
      have c2 := hc 2 _ rfl
      have c3 := hc 3 _ rfl
      have HSN := Lib.hid (show sumsM Sale.bidder (l.take (k + 1)) = addP (sumsM Sale.bidder (l.take k)) s.bidder s.coins from sumsM_snoc hs)
      obtain ⟨hr1, hr2, _⟩ := sumsM_all Sale.bidder (l.take k) (fun s hs => (HL.out.2 s (List.mem_of_mem_take hs)).bidder)
      have HRI := Lib.hid hr1
      have HCO := Lib.hid (HL.out.2 s (List.mem_of_getElem? hs)).coins
      rw [List.length_take] at hr2
      have HLN := Lib.hid (show (sumsM Sale.bidder (l.take k)).length ≤ 1000 by omega)
      obtain ⟨M, hM⟩ : ∃ M, M = sumsM Sale.bidder (l.take k) := ⟨_, rfl⟩
      rw [← hM] at HO HSN HRI HLN ⊢
      have e1 : (0 : Int) ≤ (k : Int) := by omega
      have e2 : (k : Int) < (l.length : Int) := by omega
      obtain ⟨sn, sl, sb, sc, sg, sct, st⟩ := s
      dsimp only at c2 c3 HSN HCO
      clear hs hc hb hr1 hr2 hM
      go_wp2_with fail
      refine wp_region_F (Below w.heap.size w) [] (by kernel_rfl) HB.out.drew (fun hS => ?_)
      refine wpAnyF_take (i := 0) (oi := { dst := some 11, op := Go.Op.move (Go.Operand.tmp 3), type := 67, pos := "ref.go:250", after := #[], guard := none }) (v := ?_) rfl (by kernel_rfl) (by kernel_rfl) (by kernel_rfl) (by kernel_rfl) (fun _ _ _ h => h) (Or.inl ⟨by rfl, ?_⟩) hS ?_
      rotate_left
      · intro w' hSw; have q2 := (hSw.cell (p := ⟨bq, off + k * 7 + 2, none⟩) hbq).trans c2; have q3 := (hSw.cell (p := ⟨bq, off + k * 7 + 3, none⟩) hbq).trans c3; go_simp; try with_reducible rfl
      try simp only [Act.put, List.setIfInBounds_toArray, List.set_cons_zero, List.set_cons_succ]
      refine wpAnyF_take (i := 1) (oi := { dst := some 12, op := Go.Op.move (Go.Operand.tmp 0), type := 53, pos := "ref.go:250", after := #[], guard := none }) (v := ?_) rfl (by kernel_rfl) (by kernel_rfl) (by kernel_rfl) (by kernel_rfl) (fun _ _ _ h => h) (Or.inl ⟨by rfl, ?_⟩) hS ?_
      rotate_left
      · intro w' hSw; have q2 := (hSw.cell (p := ⟨bq, off + k * 7 + 2, none⟩) hbq).trans c2; have q3 := (hSw.cell (p := ⟨bq, off + k * 7 + 3, none⟩) hbq).trans c3; go_simp; try with_reducible rfl
      try simp only [Act.put, List.setIfInBounds_toArray, List.set_cons_zero, List.set_cons_succ]
      refine wpAnyF_take (i := 2) (oi := { dst := some 13, op := Go.Op.move (Go.Operand.tmp 4), type := 3, pos := "ref.go:250", after := #[], guard := none }) (v := ?_) rfl (by kernel_rfl) (by kernel_rfl) (by kernel_rfl) (by kernel_rfl) (fun _ _ _ h => h) (Or.inl ⟨by rfl, ?_⟩) hS ?_
      rotate_left
      · intro w' hSw; have q2 := (hSw.cell (p := ⟨bq, off + k * 7 + 2, none⟩) hbq).trans c2; have q3 := (hSw.cell (p := ⟨bq, off + k * 7 + 3, none⟩) hbq).trans c3; go_simp; try with_reducible rfl
      try simp only [Act.put, List.setIfInBounds_toArray, List.set_cons_zero, List.set_cons_succ]
      refine wpAnyF_take (i := 3) (oi := { dst := some 14, op := Go.Op.indexAddr 53 (Go.Operand.tmp 12) (Go.Operand.tmp 13), type := 0, pos := "ref.go:250", after := #[{ on := 1, ground := Go.Ground.data }, { on := 2, ground := Go.Ground.data }], guard := none }) (v := ?_) rfl (by kernel_rfl) (by kernel_rfl) (by kernel_rfl) (by kernel_rfl) (fun _ _ _ h => h) (Or.inl ⟨by rfl, ?_⟩) hS ?_
      rotate_left
      · intro w' hSw; have q2 := (hSw.cell (p := ⟨bq, off + k * 7 + 2, none⟩) hbq).trans c2; have q3 := (hSw.cell (p := ⟨bq, off + k * 7 + 3, none⟩) hbq).trans c3; go_simp; try with_reducible rfl
      try simp only [Act.put, List.setIfInBounds_toArray, List.set_cons_zero, List.set_cons_succ]
      refine wpAnyF_take (i := 4) (oi := { dst := some 15, op := Go.Op.fieldAddr 66 (Go.Operand.tmp 14) 2, type := 0, pos := "ref.go:250", after := #[{ on := 3, ground := Go.Ground.data }], guard := none }) (v := ?_) rfl (by kernel_rfl) (by kernel_rfl) (by kernel_rfl) (by kernel_rfl) (fun _ _ _ h => h) (Or.inl ⟨by rfl, ?_⟩) hS ?_
      rotate_left
      · intro w' hSw; have q2 := (hSw.cell (p := ⟨bq, off + k * 7 + 2, none⟩) hbq).trans c2; have q3 := (hSw.cell (p := ⟨bq, off + k * 7 + 3, none⟩) hbq).trans c3; go_simp; try with_reducible rfl
      try simp only [Act.put, List.setIfInBounds_toArray, List.set_cons_zero, List.set_cons_succ]
      refine wpAnyF_take (i := 5) (oi := { dst := some 16, op := Go.Op.load 3 (Go.Operand.tmp 15), type := 3, pos := "ref.go:250", after := #[{ on := 4, ground := Go.Ground.data }], guard := none }) (v := ?_) rfl (by kernel_rfl) (by kernel_rfl) (by kernel_rfl) (by kernel_rfl) (fun _ _ _ h => h) (Or.inl ⟨by rfl, ?_⟩) hS ?_
      rotate_left
      · intro w' hSw; have q2 := (hSw.cell (p := ⟨bq, off + k * 7 + 2, none⟩) hbq).trans c2; have q3 := (hSw.cell (p := ⟨bq, off + k * 7 + 3, none⟩) hbq).trans c3; go_simp; try with_reducible rfl
      try simp only [Act.put, List.setIfInBounds_toArray, List.set_cons_zero, List.set_cons_succ]
      refine wpAnyF_take (i := 6) (oi := { dst := some 17, op := Go.Op.move (Go.Operand.tmp 0), type := 53, pos := "ref.go:250", after := #[], guard := none }) (v := ?_) rfl (by kernel_rfl) (by kernel_rfl) (by kernel_rfl) (by kernel_rfl) (fun _ _ _ h => h) (Or.inl ⟨by rfl, ?_⟩) hS ?_
      rotate_left
      · intro w' hSw; have q2 := (hSw.cell (p := ⟨bq, off + k * 7 + 2, none⟩) hbq).trans c2; have q3 := (hSw.cell (p := ⟨bq, off + k * 7 + 3, none⟩) hbq).trans c3; go_simp; try with_reducible rfl
      try simp only [Act.put, List.setIfInBounds_toArray, List.set_cons_zero, List.set_cons_succ]
      refine wpAnyF_take (i := 7) (oi := { dst := some 18, op := Go.Op.move (Go.Operand.tmp 4), type := 3, pos := "ref.go:250", after := #[], guard := none }) (v := ?_) rfl (by kernel_rfl) (by kernel_rfl) (by kernel_rfl) (by kernel_rfl) (fun _ _ _ h => h) (Or.inl ⟨by rfl, ?_⟩) hS ?_
      rotate_left
      · intro w' hSw; have q2 := (hSw.cell (p := ⟨bq, off + k * 7 + 2, none⟩) hbq).trans c2; have q3 := (hSw.cell (p := ⟨bq, off + k * 7 + 3, none⟩) hbq).trans c3; go_simp; try with_reducible rfl
      try simp only [Act.put, List.setIfInBounds_toArray, List.set_cons_zero, List.set_cons_succ]
      refine wpAnyF_take (i := 8) (oi := { dst := some 19, op := Go.Op.indexAddr 53 (Go.Operand.tmp 17) (Go.Operand.tmp 18), type := 0, pos := "ref.go:250", after := #[{ on := 6, ground := Go.Ground.data }, { on := 7, ground := Go.Ground.data }], guard := none }) (v := ?_) rfl (by kernel_rfl) (by kernel_rfl) (by kernel_rfl) (by kernel_rfl) (fun _ _ _ h => h) (Or.inl ⟨by rfl, ?_⟩) hS ?_
      rotate_left
      · intro w' hSw; have q2 := (hSw.cell (p := ⟨bq, off + k * 7 + 2, none⟩) hbq).trans c2; have q3 := (hSw.cell (p := ⟨bq, off + k * 7 + 3, none⟩) hbq).trans c3; go_simp; try with_reducible rfl
      try simp only [Act.put, List.setIfInBounds_toArray, List.set_cons_zero, List.set_cons_succ]
      refine wpAnyF_take (i := 9) (oi := { dst := some 20, op := Go.Op.fieldAddr 66 (Go.Operand.tmp 19) 3, type := 0, pos := "ref.go:250", after := #[{ on := 8, ground := Go.Ground.data }], guard := none }) (v := ?_) rfl (by kernel_rfl) (by kernel_rfl) (by kernel_rfl) (by kernel_rfl) (fun _ _ _ h => h) (Or.inl ⟨by rfl, ?_⟩) hS ?_
      rotate_left
      · intro w' hSw; have q2 := (hSw.cell (p := ⟨bq, off + k * 7 + 2, none⟩) hbq).trans c2; have q3 := (hSw.cell (p := ⟨bq, off + k * 7 + 3, none⟩) hbq).trans c3; go_simp; try with_reducible rfl
      try simp only [Act.put, List.setIfInBounds_toArray, List.set_cons_zero, List.set_cons_succ]
      refine wpAnyF_take (i := 10) (oi := { dst := some 21, op := Go.Op.load 2 (Go.Operand.tmp 20), type := 2, pos := "ref.go:250", after := #[{ on := 9, ground := Go.Ground.data }], guard := none }) (v := ?_) rfl (by kernel_rfl) (by kernel_rfl) (by kernel_rfl) (by kernel_rfl) (fun _ _ _ h => h) (Or.inl ⟨by rfl, ?_⟩) hS ?_
      rotate_left
      · intro w' hSw; have q2 := (hSw.cell (p := ⟨bq, off + k * 7 + 2, none⟩) hbq).trans c2; have q3 := (hSw.cell (p := ⟨bq, off + k * 7 + 3, none⟩) hbq).trans c3; go_simp; try with_reducible rfl
      try simp only [Act.put, List.setIfInBounds_toArray, List.set_cons_zero, List.set_cons_succ]
      refine wpAnyF_ready (rs := [11]) (by kernel_rfl) (by simp) ?_
      refine AllReadyF.cons (o := { dst := some 22, op := Go.Op.call { callee := Go.Callee.value (Go.Operand.func 76), args := #[Go.Operand.tmp 11, Go.Operand.tmp 16, Go.Operand.tmp 21], argTypes := #[67, 3, 2] }, type := 67, pos := "ref.go:250", after := #[{ on := 0, ground := Go.Ground.data }, { on := 5, ground := Go.Ground.data }, { on := 10, ground := Go.Ground.data }], guard := none }) rfl (by rfl) (fun K hK => ?_) ?_
      · go_simp
        refine (refadd_any (w := wr.drew) (M := M) (lo := w.heap.size) HO.out.2.1 HO.out.2.2 HRI.out HLN.out hS.size HCO.out).mono ?_
        rintro e w5 ⟨A5, c5, rfl, ho5, hb5⟩
        have HO5 := Lib.hid ho5
        have HB5 := Lib.hid hb5
        clear ho5 hb5
        refine hK.out _ _ ?_ (fun hS => ?_)
        · exact hS.trans HB5.out
        clear hK K
        try simp only [Act.put, List.setIfInBounds_toArray, List.set_cons_zero, List.set_cons_succ]
        refine wpAnyF_take (i := 12) (oi := { dst := some 3, op := Go.Op.assign (Go.Operand.tmp 22), type := 67, pos := "ref.go:250", after := #[{ on := 11, ground := Go.Ground.data }, { on := 11, ground := Go.Ground.chain }, { on := 0, ground := Go.Ground.phase }, { on := 1, ground := Go.Ground.phase }, { on := 2, ground := Go.Ground.phase }, { on := 3, ground := Go.Ground.phase }, { on := 4, ground := Go.Ground.phase }, { on := 5, ground := Go.Ground.phase }, { on := 6, ground := Go.Ground.phase }, { on := 7, ground := Go.Ground.phase }, { on := 8, ground := Go.Ground.phase }, { on := 9, ground := Go.Ground.phase }, { on := 10, ground := Go.Ground.phase }, { on := 11, ground := Go.Ground.phase }], guard := none }) (v := ?_) rfl (by kernel_rfl) (by kernel_rfl) (by kernel_rfl) (by kernel_rfl) (fun _ _ _ h => h) (Or.inl ⟨by rfl, ?_⟩) hS ?_
        rotate_left
        · intro w' hSw; have q2 := (hSw.cell (p := ⟨bq, off + k * 7 + 2, none⟩) hbq).trans c2; have q3 := (hSw.cell (p := ⟨bq, off + k * 7 + 3, none⟩) hbq).trans c3; go_simp; try with_reducible rfl
        try simp only [Act.put, List.setIfInBounds_toArray, List.set_cons_zero, List.set_cons_succ]
        refine wpAnyF_done (by kernel_rfl) ?_ _
        have HS9 := Lib.hid hS
        clear hS
        go_wp2_with fail
        go_roundw
        case rel => exact ⟨k + 1, by omega, by go_num, by rw [HSN.out]; exact ⟨⟨A5, c5, rfl⟩, HO5.out, addP_nil⟩, HS9.out⟩
        case measure => simp [intOf]; omega
      exact AllReadyF.nil
    · obtain rfl : k = l.length := by omega
      rw [List.take_length] at HO ⊢
      clear hb
      go_wp2_with fail
      go_ret
      exact ⟨_, rfl, HO.out, HB.out⟩
set_option maxRecDepth 100000 in
set_option maxHeartbeats 8000000 in
theorem refByLot_any {l : List Sale} {v : Value} {R : Nat → Prop} {w : World} (h : Sals w R v l) (hle : l.length ≤ 1000) :
    Calls Tryz.prog 41 #[v] w fun e w' => ∃ v', e = .returned v' ∧ OwnP w' w.heap.size v' (sumsM Sale.lot l) ∧ Below w.heap.size w w' := by
  obtain ⟨A, cap, rfl, hnc, hcap⟩ := h.form
  have HL := Lib.hid h
  clear h
  go_enter Tryz.func41, Tryz.ntmps41
  go_wp2_with fail
  go_loopw [3, 4] (fun o i wr => ∃ k : Nat, k ≤ l.length ∧ i = .int .i64 k ∧ OwnP wr w.heap.size o (sumsM Sale.lot (l.take k)) ∧ Below w.heap.size w wr) (fun _ i _ => l.length - (intOf i).toNat)
  case atStart => exact ⟨0, Nat.zero_le _, rfl, ⟨⟨none, 0, rfl⟩, World.ownsRow_nil _ _ _ _, fun _ => rfl⟩, Below.refl _ _⟩
  case round =>
    obtain ⟨k, hk, rfl, ho, hb⟩ := hrel
    have HB := Lib.hid hb
    have HO := Lib.hid ho
    obtain ⟨⟨B1, c1, rfl⟩, _, _⟩ := ho
    by_cases hlt : k < l.length
    · obtain ⟨s, hs⟩ : ∃ s, l[k]? = some s := ⟨_, List.getElem?_eq_getElem hlt⟩
      obtain ⟨bq, off, rfl, _, hbq, hc⟩ := HL.out.at_ hs
      have c2 := hc 1 _ rfl
      have c3 := hc 3 _ rfl
      have HSN := Lib.hid (show sumsM Sale.lot (l.take (k + 1)) = addP (sumsM Sale.lot (l.take k)) s.lot s.coins from sumsM_snoc hs)
      obtain ⟨hr1, hr2, _⟩ := sumsM_all Sale.lot (l.take k) (fun s hs => (HL.out.2 s (List.mem_of_mem_take hs)).lot)
      have HRI := Lib.hid hr1
      have HCO := Lib.hid (HL.out.2 s (List.mem_of_getElem? hs)).coins
      rw [List.length_take] at hr2
      have HLN := Lib.hid (show (sumsM Sale.lot (l.take k)).length ≤ 1000 by omega)
      obtain ⟨M, hM⟩ : ∃ M, M = sumsM Sale.lot (l.take k) := ⟨_, rfl⟩
      rw [← hM] at HO HSN HRI HLN ⊢
      have e1 : (0 : Int) ≤ (k : Int) := by omega
      have e2 : (k : Int) < (l.length : Int) := by omega
      obtain ⟨sn, sl, sb, sc, sg, sct, st⟩ := s
      dsimp only at c2 c3 HSN HCO
      clear hs hc hb hr1 hr2 hM
      go_wp2_with fail
      refine wp_region_F (Below w.heap.size w) [] (by kernel_rfl) HB.out.drew (fun hS => ?_)
      refine wpAnyF_take (i := 0) (oi := { dst := some 11, op := Go.Op.move (Go.Operand.tmp 3), type := 67, pos := "ref.go:259", after := #[], guard := none }) (v := ?_) rfl (by kernel_rfl) (by kernel_rfl) (by kernel_rfl) (by kernel_rfl) (fun _ _ _ h => h) (Or.inl ⟨by rfl, ?_⟩) hS ?_
      rotate_left
      · intro w' hSw; have q2 := (hSw.cell (p := ⟨bq, off + k * 7 + 1, none⟩) hbq).trans c2; have q3 := (hSw.cell (p := ⟨bq, off + k * 7 + 3, none⟩) hbq).trans c3; go_simp; try with_reducible rfl
      try simp only [Act.put, List.setIfInBounds_toArray, List.set_cons_zero, List.set_cons_succ]
      refine wpAnyF_take (i := 1) (oi := { dst := some 12, op := Go.Op.move (Go.Operand.tmp 0), type := 53, pos := "ref.go:259", after := #[], guard := none }) (v := ?_) rfl (by kernel_rfl) (by kernel_rfl) (by kernel_rfl) (by kernel_rfl) (fun _ _ _ h => h) (Or.inl ⟨by rfl, ?_⟩) hS ?_
      rotate_left
      · intro w' hSw; have q2 := (hSw.cell (p := ⟨bq, off + k * 7 + 1, none⟩) hbq).trans c2; have q3 := (hSw.cell (p := ⟨bq, off + k * 7 + 3, none⟩) hbq).trans c3; go_simp; try with_reducible rfl
      try simp only [Act.put, List.setIfInBounds_toArray, List.set_cons_zero, List.set_cons_succ]
      refine wpAnyF_take (i := 2) (oi := { dst := some 13, op := Go.Op.move (Go.Operand.tmp 4), type := 3, pos := "ref.go:259", after := #[], guard := none }) (v := ?_) rfl (by kernel_rfl) (by kernel_rfl) (by kernel_rfl) (by kernel_rfl) (fun _ _ _ h => h) (Or.inl ⟨by rfl, ?_⟩) hS ?_
      rotate_left
      · intro w' hSw; have q2 := (hSw.cell (p := ⟨bq, off + k * 7 + 1, none⟩) hbq).trans c2; have q3 := (hSw.cell (p := ⟨bq, off + k * 7 + 3, none⟩) hbq).trans c3; go_simp; try with_reducible rfl
      try simp only [Act.put, List.setIfInBounds_toArray, List.set_cons_zero, List.set_cons_succ]
      refine wpAnyF_take (i := 3) (oi := { dst := some 14, op := Go.Op.indexAddr 53 (Go.Operand.tmp 12) (Go.Operand.tmp 13), type := 0, pos := "ref.go:259", after := #[{ on := 1, ground := Go.Ground.data }, { on := 2, ground := Go.Ground.data }], guard := none }) (v := ?_) rfl (by kernel_rfl) (by kernel_rfl) (by kernel_rfl) (by kernel_rfl) (fun _ _ _ h => h) (Or.inl ⟨by rfl, ?_⟩) hS ?_
      rotate_left
      · intro w' hSw; have q2 := (hSw.cell (p := ⟨bq, off + k * 7 + 1, none⟩) hbq).trans c2; have q3 := (hSw.cell (p := ⟨bq, off + k * 7 + 3, none⟩) hbq).trans c3; go_simp; try with_reducible rfl
      try simp only [Act.put, List.setIfInBounds_toArray, List.set_cons_zero, List.set_cons_succ]
      refine wpAnyF_take (i := 4) (oi := { dst := some 15, op := Go.Op.fieldAddr 66 (Go.Operand.tmp 14) 1, type := 0, pos := "ref.go:259", after := #[{ on := 3, ground := Go.Ground.data }], guard := none }) (v := ?_) rfl (by kernel_rfl) (by kernel_rfl) (by kernel_rfl) (by kernel_rfl) (fun _ _ _ h => h) (Or.inl ⟨by rfl, ?_⟩) hS ?_
      rotate_left
      · intro w' hSw; have q2 := (hSw.cell (p := ⟨bq, off + k * 7 + 1, none⟩) hbq).trans c2; have q3 := (hSw.cell (p := ⟨bq, off + k * 7 + 3, none⟩) hbq).trans c3; go_simp; try with_reducible rfl
      try simp only [Act.put, List.setIfInBounds_toArray, List.set_cons_zero, List.set_cons_succ]
      refine wpAnyF_take (i := 5) (oi := { dst := some 16, op := Go.Op.load 3 (Go.Operand.tmp 15), type := 3, pos := "ref.go:259", after := #[{ on := 4, ground := Go.Ground.data }], guard := none }) (v := ?_) rfl (by kernel_rfl) (by kernel_rfl) (by kernel_rfl) (by kernel_rfl) (fun _ _ _ h => h) (Or.inl ⟨by rfl, ?_⟩) hS ?_
      rotate_left
      · intro w' hSw; have q2 := (hSw.cell (p := ⟨bq, off + k * 7 + 1, none⟩) hbq).trans c2; have q3 := (hSw.cell (p := ⟨bq, off + k * 7 + 3, none⟩) hbq).trans c3; go_simp; try with_reducible rfl
      try simp only [Act.put, List.setIfInBounds_toArray, List.set_cons_zero, List.set_cons_succ]
      refine wpAnyF_take (i := 6) (oi := { dst := some 17, op := Go.Op.move (Go.Operand.tmp 0), type := 53, pos := "ref.go:259", after := #[], guard := none }) (v := ?_) rfl (by kernel_rfl) (by kernel_rfl) (by kernel_rfl) (by kernel_rfl) (fun _ _ _ h => h) (Or.inl ⟨by rfl, ?_⟩) hS ?_
      rotate_left
      · intro w' hSw; have q2 := (hSw.cell (p := ⟨bq, off + k * 7 + 1, none⟩) hbq).trans c2; have q3 := (hSw.cell (p := ⟨bq, off + k * 7 + 3, none⟩) hbq).trans c3; go_simp; try with_reducible rfl
      try simp only [Act.put, List.setIfInBounds_toArray, List.set_cons_zero, List.set_cons_succ]
      refine wpAnyF_take (i := 7) (oi := { dst := some 18, op := Go.Op.move (Go.Operand.tmp 4), type := 3, pos := "ref.go:259", after := #[], guard := none }) (v := ?_) rfl (by kernel_rfl) (by kernel_rfl) (by kernel_rfl) (by kernel_rfl) (fun _ _ _ h => h) (Or.inl ⟨by rfl, ?_⟩) hS ?_
      rotate_left
      · intro w' hSw; have q2 := (hSw.cell (p := ⟨bq, off + k * 7 + 1, none⟩) hbq).trans c2; have q3 := (hSw.cell (p := ⟨bq, off + k * 7 + 3, none⟩) hbq).trans c3; go_simp; try with_reducible rfl
      try simp only [Act.put, List.setIfInBounds_toArray, List.set_cons_zero, List.set_cons_succ]
      refine wpAnyF_take (i := 8) (oi := { dst := some 19, op := Go.Op.indexAddr 53 (Go.Operand.tmp 17) (Go.Operand.tmp 18), type := 0, pos := "ref.go:259", after := #[{ on := 6, ground := Go.Ground.data }, { on := 7, ground := Go.Ground.data }], guard := none }) (v := ?_) rfl (by kernel_rfl) (by kernel_rfl) (by kernel_rfl) (by kernel_rfl) (fun _ _ _ h => h) (Or.inl ⟨by rfl, ?_⟩) hS ?_
      rotate_left
      · intro w' hSw; have q2 := (hSw.cell (p := ⟨bq, off + k * 7 + 1, none⟩) hbq).trans c2; have q3 := (hSw.cell (p := ⟨bq, off + k * 7 + 3, none⟩) hbq).trans c3; go_simp; try with_reducible rfl
      try simp only [Act.put, List.setIfInBounds_toArray, List.set_cons_zero, List.set_cons_succ]
      refine wpAnyF_take (i := 9) (oi := { dst := some 20, op := Go.Op.fieldAddr 66 (Go.Operand.tmp 19) 3, type := 0, pos := "ref.go:259", after := #[{ on := 8, ground := Go.Ground.data }], guard := none }) (v := ?_) rfl (by kernel_rfl) (by kernel_rfl) (by kernel_rfl) (by kernel_rfl) (fun _ _ _ h => h) (Or.inl ⟨by rfl, ?_⟩) hS ?_
      rotate_left
      · intro w' hSw; have q2 := (hSw.cell (p := ⟨bq, off + k * 7 + 1, none⟩) hbq).trans c2; have q3 := (hSw.cell (p := ⟨bq, off + k * 7 + 3, none⟩) hbq).trans c3; go_simp; try with_reducible rfl
      try simp only [Act.put, List.setIfInBounds_toArray, List.set_cons_zero, List.set_cons_succ]
      refine wpAnyF_take (i := 10) (oi := { dst := some 21, op := Go.Op.load 2 (Go.Operand.tmp 20), type := 2, pos := "ref.go:259", after := #[{ on := 9, ground := Go.Ground.data }], guard := none }) (v := ?_) rfl (by kernel_rfl) (by kernel_rfl) (by kernel_rfl) (by kernel_rfl) (fun _ _ _ h => h) (Or.inl ⟨by rfl, ?_⟩) hS ?_
      rotate_left
      · intro w' hSw; have q2 := (hSw.cell (p := ⟨bq, off + k * 7 + 1, none⟩) hbq).trans c2; have q3 := (hSw.cell (p := ⟨bq, off + k * 7 + 3, none⟩) hbq).trans c3; go_simp; try with_reducible rfl
      try simp only [Act.put, List.setIfInBounds_toArray, List.set_cons_zero, List.set_cons_succ]
      refine wpAnyF_ready (rs := [11]) (by kernel_rfl) (by simp) ?_
      refine AllReadyF.cons (o := { dst := some 22, op := Go.Op.call { callee := Go.Callee.value (Go.Operand.func 76), args := #[Go.Operand.tmp 11, Go.Operand.tmp 16, Go.Operand.tmp 21], argTypes := #[67, 3, 2] }, type := 67, pos := "ref.go:259", after := #[{ on := 0, ground := Go.Ground.data }, { on := 5, ground := Go.Ground.data }, { on := 10, ground := Go.Ground.data }], guard := none }) rfl (by rfl) (fun K hK => ?_) ?_
      · go_simp
        refine (refadd_any (w := wr.drew) (M := M) (lo := w.heap.size) HO.out.2.1 HO.out.2.2 HRI.out HLN.out hS.size HCO.out).mono ?_
        rintro e w5 ⟨A5, c5, rfl, ho5, hb5⟩
        have HO5 := Lib.hid ho5
        have HB5 := Lib.hid hb5
        clear ho5 hb5
        refine hK.out _ _ ?_ (fun hS => ?_)
        · exact hS.trans HB5.out
        clear hK K
        try simp only [Act.put, List.setIfInBounds_toArray, List.set_cons_zero, List.set_cons_succ]
        refine wpAnyF_take (i := 12) (oi := { dst := some 3, op := Go.Op.assign (Go.Operand.tmp 22), type := 67, pos := "ref.go:259", after := #[{ on := 11, ground := Go.Ground.data }, { on := 11, ground := Go.Ground.chain }, { on := 0, ground := Go.Ground.phase }, { on := 1, ground := Go.Ground.phase }, { on := 2, ground := Go.Ground.phase }, { on := 3, ground := Go.Ground.phase }, { on := 4, ground := Go.Ground.phase }, { on := 5, ground := Go.Ground.phase }, { on := 6, ground := Go.Ground.phase }, { on := 7, ground := Go.Ground.phase }, { on := 8, ground := Go.Ground.phase }, { on := 9, ground := Go.Ground.phase }, { on := 10, ground := Go.Ground.phase }, { on := 11, ground := Go.Ground.phase }], guard := none }) (v := ?_) rfl (by kernel_rfl) (by kernel_rfl) (by kernel_rfl) (by kernel_rfl) (fun _ _ _ h => h) (Or.inl ⟨by rfl, ?_⟩) hS ?_
        rotate_left
        · intro w' hSw; have q2 := (hSw.cell (p := ⟨bq, off + k * 7 + 1, none⟩) hbq).trans c2; have q3 := (hSw.cell (p := ⟨bq, off + k * 7 + 3, none⟩) hbq).trans c3; go_simp; try with_reducible rfl
        try simp only [Act.put, List.setIfInBounds_toArray, List.set_cons_zero, List.set_cons_succ]
        refine wpAnyF_done (by kernel_rfl) ?_ _
        have HS9 := Lib.hid hS
        clear hS
        go_wp2_with fail
        go_roundw
        case rel => exact ⟨k + 1, by omega, by go_num, by rw [HSN.out]; exact ⟨⟨A5, c5, rfl⟩, HO5.out, addP_nil⟩, HS9.out⟩
        case measure => simp [intOf]; omega
      exact AllReadyF.nil
    · obtain rfl : k = l.length := by omega
      rw [List.take_length] at HO ⊢
      clear hb
      go_wp2_with fail
      go_ret
      exact ⟨_, rfl, HO.out, HB.out⟩
end Go.Proofs.YtidejikolcgojaaGreat.St

/- Account: AccountBudget. (Printed by tools/gen_budget.py.) -/
import Derived.Test.YtibhmgeckghoeaaAccApp
import Derived.Test.YtibhmgeckghoeaaAccV
namespace Go.Proofs.Ytibhmgeckghoeaa.Ac
open Go.RowKit Go.Shelf Go.Maps
open Go.Proofs.Ytibhmgeckghoeaa.Vb
attribute [local go_sem] Oper.semAt_some

set_option maxRecDepth 100000 in
set_option maxHeartbeats 16000000 in
theorem accountBudget_walk {budget : Int} {l : List St} {v : Value} {R : Nat → Prop} {w : World} (h : Steps w R v l) :
    Calls Try.prog 5 #[.int .i64 budget, v] w fun e w' => e = .returned (.bool true) ∧ Below w.heap.size w w' := by
  have HL := Lib.hid h
  have HWF := Lib.hid h.2
  obtain ⟨⟨_, A, cap, rfl, hncap, hcap, _⟩, _⟩ := h
  unfold maxLen at hcap
  refine (callsIn_wide (n := 3)).1 (callsIn_of_wp_marks Try.func5 rfl trivial ((wpIn_wide (n := 3)).2 ?_))
  simp only [Try.ntmps5, List.size_toArray, List.length_cons, List.length_nil, Nat.reduceAdd, Nat.reduceSub, Array.replicate_succ, Array.replicate_zero, List.push_toArray, List.append_toArray, List.nil_append, List.cons_append]
  go_wp2_with fail
  refine (known_any _).mono ?_
  rintro e w1 ⟨rfl, hb1⟩
  have HR1 := Lib.hid ((Blk.new w 4 #[.bool false]).grow hb1)
  have HB1 := Lib.hid (((Below.refl w.heap.size w).alloc (Nat.le_refl _) (.cells #[.bool false] 4)).trans (hb1.mono (by simp)))
  have hs1 := hb1.size
  simp at hs1
  clear hb1
  go_wp2_with fail
  refine (new_any budget w1).mono ?_
  rintro e w2 ⟨hb2, (⟨hc, rfl⟩ | ⟨hc, rfl, hA2⟩)⟩
  · obtain ⟨U, hU⟩ : ∃ U, U = w2.alloc (.cells #[.pointer none] 23) := ⟨_, rfl⟩
    have hBU : Below w2.heap.size w2 U := by rw [hU]; exact (Below.refl _ _).alloc (Nat.le_refl _) _
    have hR := (HR1.out.grow hb2).grow hBU
    have hx : Blk U w2.heap.size 23 #[.pointer none] := by rw [hU]; exact Blk.new w2 _ _
    have HB2 := Lib.hid (HB1.out.trans ((hb2.mono HB1.out.size).trans (hBU.mono (by have := HB1.out.size; have := hb2.size; omega))))
    have r0 : U.cell? ⟨w.heap.size, 0, none⟩ = some (.bool false) := hR.cell 0
    have r1 : U.frozen? ⟨w.heap.size, 0, none⟩ = false := hR.frozen 0
    have x0 : U.cell? ⟨w2.heap.size, 0, none⟩ = some (.pointer none) := hx.cell 0
    have HR2 := Lib.hid hR
    have HU := Lib.hid hU
    clear hb2 hU hBU hR hx
    go_wp2_with fail
    rw [← HU.out]
    refine (num_any _ _).mono ?_
    rintro e w9 ⟨rfl, hw9⟩
    rw [hw9]
    clear hw9
    by_cases hneg : budget < 0
    · have hd0 : decide (budget < 0) = true := by simpa using hneg
      clear hc
      go_wp2_with fail
      have hc5 := World.cell?_setCell_same' U ⟨w.heap.size, 0, none⟩ (.bool true) (by rw [r0]; rfl)
      exact ⟨.bool true, by simp [results, Try.results5, go_sem, hc5], rfl, HB2.out.setCell (p := ⟨w.heap.size, 0, none⟩) (by simp) _⟩
    · have hd0 : decide (budget < 0) = false := by simpa using hneg
      have hbig : 1099511627776 < budget := by unfold coin at hc; omega
      have hd1 : decide (1099511627776 < budget) = true := by simpa using hbig
      clear hc hneg
      go_wp2_with fail
      have hc5 := World.cell?_setCell_same' U ⟨w.heap.size, 0, none⟩ (.bool true) (by rw [r0]; rfl)
      exact ⟨.bool true, by simp [results, Try.results5, go_sem, hc5], rfl, HB2.out.setCell (p := ⟨w.heap.size, 0, none⟩) (by simp) _⟩
  · obtain ⟨U, hU⟩ : ∃ U, U = w2.alloc (.cells #[.pointer (some ⟨w1.heap.size + 1, 0, none⟩)] 23) := ⟨_, rfl⟩
    have hBU : Below w2.heap.size w2 U := by rw [hU]; exact (Below.refl _ _).alloc (Nat.le_refl _) _
    have hR := (HR1.out.grow hb2).grow hBU
    have hx : Blk U w2.heap.size 23 #[.pointer (some ⟨w1.heap.size + 1, 0, none⟩)] := by rw [hU]; exact Blk.new w2 _ _
    have HB2 := Lib.hid (HB1.out.trans ((hb2.mono HB1.out.size).trans (hBU.mono (by have := HB1.out.size; have := hb2.size; omega))))
    have hsz2 := hA2.ltb
    have hszU : U.heap.size = w2.heap.size + 1 := by rw [hU]; simp
    have HA2 := Lib.hid (hA2.grow hBU)
    have x0 : U.cell? ⟨w2.heap.size, 0, none⟩ = some (.pointer (some ⟨w1.heap.size + 1, 0, none⟩)) := hx.cell 0
    have HR2 := Lib.hid hR
    have HX2 := Lib.hid hx
    have HU := Lib.hid hU
    have HC := Lib.hid hc
    clear hb2 hU hBU hR hx hA2 hc
    go_wp2_with fail
    rw [← HU.out]
    refine (num_any _ _).mono ?_
    rintro e w9 ⟨rfl, hw9⟩
    rw [hw9]
    clear hw9 HU
    go_wp2_with fail
    go_loopw [7] (fun i wr => ∃ (k : Nat) (a : Acc), k ≤ l.length ∧ i = .int .i64 k ∧ AccAt wr (w1.heap.size + 1) w1.heap.size k a ∧ a.Ok ∧ a.Fine ∧ Blk wr w.heap.size 4 #[.bool false] ∧ Blk wr w2.heap.size 23 #[.pointer (some ⟨w1.heap.size + 1, 0, none⟩)] ∧ Below w.heap.size w wr) (fun i _ => l.length - (intOf i).toNat)
    case atStart =>
      obtain ⟨o1, o2⟩ := new_ok HC.out
      exact ⟨0, newA budget, Nat.zero_le _, rfl, HA2.out, o1, o2, HR2.out, HX2.out, HB2.out⟩
    case round =>
      obtain ⟨k, a, hk, rfl, ha, ho, hf, hr, hx, hb⟩ := hrel
      have HR := Lib.hid hr
      have HXB := Lib.hid hx
      have HA := Lib.hid ha
      have HO := Lib.hid (show (Fm.live a).Ok from ho)
      have HF := Lib.hid hf
      have HB := Lib.hid hb
      have hszr := hb.size
      have hlx := hx.lt
      clear x0
      by_cases hlt : k < l.length
      · obtain ⟨s, hs⟩ : ∃ s, l[k]? = some s := ⟨_, List.getElem?_eq_getElem hlt⟩
        obtain ⟨bq, off, rfl, hbq, q0, q1, q2, q3, q4⟩ := (HL.out.grow hb).at_ hs
        have hws := HWF.out s (List.mem_of_getElem? hs)
        have HWS := Lib.hid hws
        have HX := Lib.hid hws.1
        have HOF := Lib.hid (fun hE => step_keeps (a := a) ho hf hws hE)
        clear ha ho hf hr hx hb hs hws
        go_wp2_with fail
        obtain ⟨V, hV⟩ : ∃ V, V = wr.alloc (.cells #[.int .i64 s.kind, .int .i64 s.who, .int .i64 s.to, .int .i64 s.lot, .int .i64 s.coins] 45) := ⟨_, rfl⟩
        have hy : Blk V wr.heap.size 45 #[.int .i64 s.kind, .int .i64 s.who, .int .i64 s.to, .int .i64 s.lot, .int .i64 s.coins] := by rw [hV]; exact Blk.new wr _ _
        have hBV : Below wr.heap.size wr V := by rw [hV]; exact (Below.refl _ _).alloc (Nat.le_refl _) _
        rw [← hV]
        have hxV := HXB.out.grow hBV
        have x0 : V.cell? ⟨w2.heap.size, 0, none⟩ = some (.pointer (some ⟨w1.heap.size + 1, 0, none⟩)) := hxV.cell 0
        have y3 : V.cell? ⟨wr.heap.size, 3, none⟩ = some (.int .i64 s.lot) := hy.cell 3
        have lx := hxV.lt
        have ly := hy.lt
        have HV := Lib.hid (show AtP V (.pointer (some ⟨w1.heap.size + 1, 0, none⟩)) (.live a) from ⟨_, _, _, rfl, HA.out.grow hBV⟩)
        have HAV := Lib.hid (HA.out.grow hBV)
        have HYV := Lib.hid hy
        have HXV := Lib.hid hxV
        have HRV := Lib.hid (HR.out.grow hBV)
        have HBV := Lib.hid (HB.out.trans (hBV.mono HB.out.size))
        obtain ⟨fr, hfr⟩ : ∃ z, z = (Fm.live a).free := ⟨_, rfl⟩
        obtain ⟨he, hhe⟩ : ∃ z, z = sumM (Fm.live a).M := ⟨_, rfl⟩
        obtain ⟨sp, hsp⟩ : ∃ z, z = (Fm.live a).sp := ⟨_, rfl⟩
        obtain ⟨bd, hbd⟩ : ∃ z, z = (Fm.live a).bud := ⟨_, rfl⟩
        obtain ⟨at_, hat⟩ : ∃ z, z = atM (Fm.live a).M s.lot := ⟨_, rfl⟩
        have HTO := Lib.hid (show told a s.lot = #[.int .i64 fr, .int .i64 he, .int .i64 sp, .int .i64 bd, .int .i64 at_] from by rw [hfr, hhe, hsp, hbd, hat]; rfl)
        have HFR := Lib.hid hfr
        have HHE := Lib.hid hhe
        have HSP := Lib.hid hsp
        have HBD := Lib.hid hbd
        have HAT := Lib.hid hat
        clear hV hy hBV hxV q0 q1 q2 q3 q4 hfr hhe hsp hbd hat
        refine wp_region_P (Below V.heap.size V) [] (by kernel_rfl) ((Below.refl _ _).drew) (fun hS => ?_)
        refine wpAnyF_take (i := 0) (oi := { dst := some 59, op := Go.Op.load 23 (Go.Operand.tmp 5), type := 23, pos := "law.go:158", after := #[], guard := none }) (v := ?_) rfl (by kernel_rfl) (by kernel_rfl) (by kernel_rfl) (by kernel_rfl) (fun _ _ _ h => h) (Or.inl ⟨by rfl, ?_⟩) hS ?_
        rotate_left
        · intro w' hSw; have q0 := (hSw.cell (p := ⟨w2.heap.size, 0, none⟩) lx).trans x0; have q3 := (hSw.cell (p := ⟨wr.heap.size, 3, none⟩) ly).trans y3; go_simp; try with_reducible rfl
        try simp only [Act.put, List.setIfInBounds_toArray, List.set_cons_zero, List.set_cons_succ]
        refine wpAnyF_take (i := 2) (oi := { dst := some 61, op := Go.Op.load 23 (Go.Operand.tmp 5), type := 23, pos := "law.go:158", after := #[], guard := none }) (v := ?_) rfl (by kernel_rfl) (by kernel_rfl) (by kernel_rfl) (by kernel_rfl) (fun _ _ _ h => h) (Or.inl ⟨by rfl, ?_⟩) hS ?_
        rotate_left
        · intro w' hSw; have q0 := (hSw.cell (p := ⟨w2.heap.size, 0, none⟩) lx).trans x0; have q3 := (hSw.cell (p := ⟨wr.heap.size, 3, none⟩) ly).trans y3; go_simp; try with_reducible rfl
        try simp only [Act.put, List.setIfInBounds_toArray, List.set_cons_zero, List.set_cons_succ]
        refine wpAnyF_take (i := 4) (oi := { dst := some 63, op := Go.Op.load 23 (Go.Operand.tmp 5), type := 23, pos := "law.go:158", after := #[], guard := none }) (v := ?_) rfl (by kernel_rfl) (by kernel_rfl) (by kernel_rfl) (by kernel_rfl) (fun _ _ _ h => h) (Or.inl ⟨by rfl, ?_⟩) hS ?_
        rotate_left
        · intro w' hSw; have q0 := (hSw.cell (p := ⟨w2.heap.size, 0, none⟩) lx).trans x0; have q3 := (hSw.cell (p := ⟨wr.heap.size, 3, none⟩) ly).trans y3; go_simp; try with_reducible rfl
        try simp only [Act.put, List.setIfInBounds_toArray, List.set_cons_zero, List.set_cons_succ]
        refine wpAnyF_take (i := 6) (oi := { dst := some 65, op := Go.Op.load 23 (Go.Operand.tmp 5), type := 23, pos := "law.go:158", after := #[], guard := none }) (v := ?_) rfl (by kernel_rfl) (by kernel_rfl) (by kernel_rfl) (by kernel_rfl) (fun _ _ _ h => h) (Or.inl ⟨by rfl, ?_⟩) hS ?_
        rotate_left
        · intro w' hSw; have q0 := (hSw.cell (p := ⟨w2.heap.size, 0, none⟩) lx).trans x0; have q3 := (hSw.cell (p := ⟨wr.heap.size, 3, none⟩) ly).trans y3; go_simp; try with_reducible rfl
        try simp only [Act.put, List.setIfInBounds_toArray, List.set_cons_zero, List.set_cons_succ]
        refine wpAnyF_take (i := 8) (oi := { dst := some 67, op := Go.Op.load 23 (Go.Operand.tmp 5), type := 23, pos := "law.go:158", after := #[], guard := none }) (v := ?_) rfl (by kernel_rfl) (by kernel_rfl) (by kernel_rfl) (by kernel_rfl) (fun _ _ _ h => h) (Or.inl ⟨by rfl, ?_⟩) hS ?_
        rotate_left
        · intro w' hSw; have q0 := (hSw.cell (p := ⟨w2.heap.size, 0, none⟩) lx).trans x0; have q3 := (hSw.cell (p := ⟨wr.heap.size, 3, none⟩) ly).trans y3; go_simp; try with_reducible rfl
        try simp only [Act.put, List.setIfInBounds_toArray, List.set_cons_zero, List.set_cons_succ]
        refine wpAnyF_take (i := 9) (oi := { dst := some 68, op := Go.Op.fieldAddr 45 (Go.Operand.tmp 8) 3, type := 0, pos := "law.go:158", after := #[], guard := none }) (v := ?_) rfl (by kernel_rfl) (by kernel_rfl) (by kernel_rfl) (by kernel_rfl) (fun _ _ _ h => h) (Or.inl ⟨by rfl, ?_⟩) hS ?_
        rotate_left
        · intro w' hSw; have q0 := (hSw.cell (p := ⟨w2.heap.size, 0, none⟩) lx).trans x0; have q3 := (hSw.cell (p := ⟨wr.heap.size, 3, none⟩) ly).trans y3; go_simp; try with_reducible rfl
        try simp only [Act.put, List.setIfInBounds_toArray, List.set_cons_zero, List.set_cons_succ]
        refine wpAnyF_take (i := 10) (oi := { dst := some 69, op := Go.Op.load 3 (Go.Operand.tmp 68), type := 3, pos := "law.go:158", after := #[{ on := 9, ground := Go.Ground.data }], guard := none }) (v := ?_) rfl (by kernel_rfl) (by kernel_rfl) (by kernel_rfl) (by kernel_rfl) (fun _ _ _ h => h) (Or.inl ⟨by rfl, ?_⟩) hS ?_
        rotate_left
        · intro w' hSw; have q0 := (hSw.cell (p := ⟨w2.heap.size, 0, none⟩) lx).trans x0; have q3 := (hSw.cell (p := ⟨wr.heap.size, 3, none⟩) ly).trans y3; go_simp; try with_reducible rfl
        try simp only [Act.put, List.setIfInBounds_toArray, List.set_cons_zero, List.set_cons_succ]
        refine wpAnyF_ready (rs := [1]) (by kernel_rfl) (by simp) ?_
        refine AllReadyF.cons (o := { dst := some 60, op := Go.Op.call { callee := Go.Callee.value (Go.Operand.func 22), args := #[Go.Operand.tmp 59], argTypes := #[23] }, type := 2, pos := "law.go:158", after := #[{ on := 0, ground := Go.Ground.data }], guard := none }) rfl (by rfl) (fun K hK => ?_) ?_
        · go_simp
          refine (free_any (HV.out.grow hS) HO.out).mono ?_
          rintro e wf ⟨rfl, hb7⟩
          rw [← HFR.out]
          refine hK.out _ _ ?_ (fun hS => ?_)
          · exact hS.trans (hb7.mono hS.size)
          clear hK K
          try simp only [Act.put, List.setIfInBounds_toArray, List.set_cons_zero, List.set_cons_succ]
          clear hb7
          refine wpAnyF_ready (rs := [3]) (by kernel_rfl) (by simp) ?_
          refine AllReadyF.cons (o := { dst := some 62, op := Go.Op.call { callee := Go.Callee.value (Go.Operand.func 23), args := #[Go.Operand.tmp 61], argTypes := #[23] }, type := 2, pos := "law.go:158", after := #[{ on := 2, ground := Go.Ground.data }, { on := 1, ground := Go.Ground.chain }], guard := none }) rfl (by rfl) (fun K hK => ?_) ?_
          · go_simp
            refine (held_any (HV.out.grow hS) (f := .live a) HO.out).mono ?_
            rintro e wh ⟨rfl, hb7⟩
            rw [← HHE.out]
            refine hK.out _ _ ?_ (fun hS => ?_)
            · exact hS.trans (hb7.mono hS.size)
            clear hK K
            try simp only [Act.put, List.setIfInBounds_toArray, List.set_cons_zero, List.set_cons_succ]
            clear hb7
            refine wpAnyF_ready (rs := [5]) (by kernel_rfl) (by simp) ?_
            refine AllReadyF.cons (o := { dst := some 64, op := Go.Op.call { callee := Go.Callee.value (Go.Operand.func 24), args := #[Go.Operand.tmp 63], argTypes := #[23] }, type := 2, pos := "law.go:158", after := #[{ on := 4, ground := Go.Ground.data }, { on := 3, ground := Go.Ground.chain }], guard := none }) rfl (by rfl) (fun K hK => ?_) ?_
            · go_simp
              refine (spent_any (HV.out.grow hS)).mono ?_
              rintro e w7 ⟨rfl, hw7⟩
              rw [hw7]
              clear hw7
              rw [← HSP.out]
              refine hK.out _ _ ?_ (fun hS => ?_)
              · exact hS
              clear hK K
              try simp only [Act.put, List.setIfInBounds_toArray, List.set_cons_zero, List.set_cons_succ]
              refine wpAnyF_ready (rs := [7]) (by kernel_rfl) (by simp) ?_
              refine AllReadyF.cons (o := { dst := some 66, op := Go.Op.call { callee := Go.Callee.value (Go.Operand.func 25), args := #[Go.Operand.tmp 65], argTypes := #[23] }, type := 2, pos := "law.go:158", after := #[{ on := 6, ground := Go.Ground.data }, { on := 5, ground := Go.Ground.chain }], guard := none }) rfl (by rfl) (fun K hK => ?_) ?_
              · go_simp
                refine (budget_any (HV.out.grow hS)).mono ?_
                rintro e w7 ⟨rfl, hw7⟩
                rw [hw7]
                clear hw7
                rw [← HBD.out]
                refine hK.out _ _ ?_ (fun hS => ?_)
                · exact hS
                clear hK K
                try simp only [Act.put, List.setIfInBounds_toArray, List.set_cons_zero, List.set_cons_succ]
                refine wpAnyF_ready (rs := [11]) (by kernel_rfl) (by simp) ?_
                refine AllReadyF.cons (o := { dst := some 70, op := Go.Op.call { callee := Go.Callee.value (Go.Operand.func 26), args := #[Go.Operand.tmp 67, Go.Operand.tmp 69], argTypes := #[23, 3] }, type := 2, pos := "law.go:158", after := #[{ on := 8, ground := Go.Ground.data }, { on := 10, ground := Go.Ground.data }, { on := 7, ground := Go.Ground.chain }], guard := none }) rfl (by rfl) (fun K hK => ?_) ?_
                · go_simp
                  refine (at_any (HV.out.grow hS) HX.out).mono ?_
                  rintro e w7 ⟨rfl, hw7⟩
                  rw [hw7]
                  clear hw7
                  rw [← HAT.out]
                  refine hK.out _ _ ?_ (fun hS => ?_)
                  · exact hS
                  clear hK K
                  try simp only [Act.put, List.setIfInBounds_toArray, List.set_cons_zero, List.set_cons_succ]
                  refine wpAnyF_take (i := 12) (oi := { dst := some 9, op := Go.Op.assign (Go.Operand.tmp 60), type := 2, pos := "law.go:158", after := #[{ on := 1, ground := Go.Ground.data }, { on := 11, ground := Go.Ground.chain }, { on := 0, ground := Go.Ground.phase }, { on := 1, ground := Go.Ground.phase }, { on := 2, ground := Go.Ground.textOnly Go.Departure.lateStores }, { on := 3, ground := Go.Ground.textOnly Go.Departure.lateStoresUnsure }, { on := 4, ground := Go.Ground.textOnly Go.Departure.lateStores }, { on := 5, ground := Go.Ground.textOnly Go.Departure.lateStoresUnsure }, { on := 6, ground := Go.Ground.textOnly Go.Departure.lateStores }, { on := 7, ground := Go.Ground.textOnly Go.Departure.lateStoresUnsure }, { on := 8, ground := Go.Ground.textOnly Go.Departure.lateStores }, { on := 9, ground := Go.Ground.textOnly Go.Departure.lateStores }, { on := 10, ground := Go.Ground.textOnly Go.Departure.lateStores }, { on := 11, ground := Go.Ground.textOnly Go.Departure.lateStoresUnsure }], guard := none }) (v := ?_) rfl (by kernel_rfl) (by kernel_rfl) (by kernel_rfl) (by kernel_rfl) (fun _ _ _ h => h) (Or.inl ⟨by rfl, ?_⟩) hS ?_
                  rotate_left
                  · intro w' hSw; have q0 := (hSw.cell (p := ⟨w2.heap.size, 0, none⟩) lx).trans x0; have q3 := (hSw.cell (p := ⟨wr.heap.size, 3, none⟩) ly).trans y3; go_simp; try with_reducible rfl
                  try simp only [Act.put, List.setIfInBounds_toArray, List.set_cons_zero, List.set_cons_succ]
                  refine wpAnyF_take (i := 13) (oi := { dst := some 10, op := Go.Op.assign (Go.Operand.tmp 62), type := 2, pos := "law.go:158", after := #[{ on := 3, ground := Go.Ground.data }, { on := 12, ground := Go.Ground.chain }, { on := 0, ground := Go.Ground.phase }, { on := 1, ground := Go.Ground.phase }, { on := 2, ground := Go.Ground.phase }, { on := 3, ground := Go.Ground.phase }, { on := 4, ground := Go.Ground.textOnly Go.Departure.lateStores }, { on := 5, ground := Go.Ground.textOnly Go.Departure.lateStoresUnsure }, { on := 6, ground := Go.Ground.textOnly Go.Departure.lateStores }, { on := 7, ground := Go.Ground.textOnly Go.Departure.lateStoresUnsure }, { on := 8, ground := Go.Ground.textOnly Go.Departure.lateStores }, { on := 9, ground := Go.Ground.textOnly Go.Departure.lateStores }, { on := 10, ground := Go.Ground.textOnly Go.Departure.lateStores }, { on := 11, ground := Go.Ground.textOnly Go.Departure.lateStoresUnsure }, { on := 12, ground := Go.Ground.phase }], guard := none }) (v := ?_) rfl (by kernel_rfl) (by kernel_rfl) (by kernel_rfl) (by kernel_rfl) (fun _ _ _ h => h) (Or.inl ⟨by rfl, ?_⟩) hS ?_
                  rotate_left
                  · intro w' hSw; have q0 := (hSw.cell (p := ⟨w2.heap.size, 0, none⟩) lx).trans x0; have q3 := (hSw.cell (p := ⟨wr.heap.size, 3, none⟩) ly).trans y3; go_simp; try with_reducible rfl
                  try simp only [Act.put, List.setIfInBounds_toArray, List.set_cons_zero, List.set_cons_succ]
                  refine wpAnyF_take (i := 14) (oi := { dst := some 11, op := Go.Op.assign (Go.Operand.tmp 64), type := 2, pos := "law.go:158", after := #[{ on := 5, ground := Go.Ground.data }, { on := 13, ground := Go.Ground.chain }, { on := 0, ground := Go.Ground.phase }, { on := 1, ground := Go.Ground.phase }, { on := 2, ground := Go.Ground.phase }, { on := 3, ground := Go.Ground.phase }, { on := 4, ground := Go.Ground.phase }, { on := 5, ground := Go.Ground.phase }, { on := 6, ground := Go.Ground.textOnly Go.Departure.lateStores }, { on := 7, ground := Go.Ground.textOnly Go.Departure.lateStoresUnsure }, { on := 8, ground := Go.Ground.textOnly Go.Departure.lateStores }, { on := 9, ground := Go.Ground.textOnly Go.Departure.lateStores }, { on := 10, ground := Go.Ground.textOnly Go.Departure.lateStores }, { on := 11, ground := Go.Ground.textOnly Go.Departure.lateStoresUnsure }, { on := 12, ground := Go.Ground.phase }, { on := 13, ground := Go.Ground.phase }], guard := none }) (v := ?_) rfl (by kernel_rfl) (by kernel_rfl) (by kernel_rfl) (by kernel_rfl) (fun _ _ _ h => h) (Or.inl ⟨by rfl, ?_⟩) hS ?_
                  rotate_left
                  · intro w' hSw; have q0 := (hSw.cell (p := ⟨w2.heap.size, 0, none⟩) lx).trans x0; have q3 := (hSw.cell (p := ⟨wr.heap.size, 3, none⟩) ly).trans y3; go_simp; try with_reducible rfl
                  try simp only [Act.put, List.setIfInBounds_toArray, List.set_cons_zero, List.set_cons_succ]
                  refine wpAnyF_take (i := 15) (oi := { dst := some 12, op := Go.Op.assign (Go.Operand.tmp 66), type := 2, pos := "law.go:158", after := #[{ on := 7, ground := Go.Ground.data }, { on := 14, ground := Go.Ground.chain }, { on := 0, ground := Go.Ground.phase }, { on := 1, ground := Go.Ground.phase }, { on := 2, ground := Go.Ground.phase }, { on := 3, ground := Go.Ground.phase }, { on := 4, ground := Go.Ground.phase }, { on := 5, ground := Go.Ground.phase }, { on := 6, ground := Go.Ground.phase }, { on := 7, ground := Go.Ground.phase }, { on := 8, ground := Go.Ground.textOnly Go.Departure.lateStores }, { on := 9, ground := Go.Ground.textOnly Go.Departure.lateStores }, { on := 10, ground := Go.Ground.textOnly Go.Departure.lateStores }, { on := 11, ground := Go.Ground.textOnly Go.Departure.lateStoresUnsure }, { on := 12, ground := Go.Ground.phase }, { on := 13, ground := Go.Ground.phase }, { on := 14, ground := Go.Ground.phase }], guard := none }) (v := ?_) rfl (by kernel_rfl) (by kernel_rfl) (by kernel_rfl) (by kernel_rfl) (fun _ _ _ h => h) (Or.inl ⟨by rfl, ?_⟩) hS ?_
                  rotate_left
                  · intro w' hSw; have q0 := (hSw.cell (p := ⟨w2.heap.size, 0, none⟩) lx).trans x0; have q3 := (hSw.cell (p := ⟨wr.heap.size, 3, none⟩) ly).trans y3; go_simp; try with_reducible rfl
                  try simp only [Act.put, List.setIfInBounds_toArray, List.set_cons_zero, List.set_cons_succ]
                  refine wpAnyF_take (i := 16) (oi := { dst := some 13, op := Go.Op.assign (Go.Operand.tmp 70), type := 2, pos := "law.go:158", after := #[{ on := 11, ground := Go.Ground.data }, { on := 15, ground := Go.Ground.chain }, { on := 0, ground := Go.Ground.phase }, { on := 1, ground := Go.Ground.phase }, { on := 2, ground := Go.Ground.phase }, { on := 3, ground := Go.Ground.phase }, { on := 4, ground := Go.Ground.phase }, { on := 5, ground := Go.Ground.phase }, { on := 6, ground := Go.Ground.phase }, { on := 7, ground := Go.Ground.phase }, { on := 8, ground := Go.Ground.phase }, { on := 9, ground := Go.Ground.phase }, { on := 10, ground := Go.Ground.phase }, { on := 11, ground := Go.Ground.phase }, { on := 12, ground := Go.Ground.phase }, { on := 13, ground := Go.Ground.phase }, { on := 14, ground := Go.Ground.phase }, { on := 15, ground := Go.Ground.phase }], guard := none }) (v := ?_) rfl (by kernel_rfl) (by kernel_rfl) (by kernel_rfl) (by kernel_rfl) (fun _ _ _ h => h) (Or.inl ⟨by rfl, ?_⟩) hS ?_
                  rotate_left
                  · intro w' hSw; have q0 := (hSw.cell (p := ⟨w2.heap.size, 0, none⟩) lx).trans x0; have q3 := (hSw.cell (p := ⟨wr.heap.size, 3, none⟩) ly).trans y3; go_simp; try with_reducible rfl
                  try simp only [Act.put, List.setIfInBounds_toArray, List.set_cons_zero, List.set_cons_succ]
                  refine wpAnyF_done (by kernel_rfl) (noPanic_normal ?_) _
                  have HA3 := Lib.hid (HAV.out.grow hS)
                  have HX3 := Lib.hid (HXV.out.grow hS)
                  have HR3 := Lib.hid (HRV.out.grow hS)
                  have HY3 := Lib.hid (HYV.out.grow hS)
                  have HB3 := Lib.hid (HBV.out.trans (hS.mono HBV.out.size))
                  have hs3 := hS.size
                  have hs3b := HB3.out.size
                  clear x0 y3 hS
                  have x0 : wh.cell? ⟨w2.heap.size, 0, none⟩ = some (.pointer (some ⟨w1.heap.size + 1, 0, none⟩)) := HX3.out.cell 0
                  go_wp2_with fail
                  refine (copy_live HA3.out).mono ?_
                  rintro e w4 ⟨hb4, bc, mc, rfl, hbc, hmc, hw4⟩
                  have HA4 := Lib.hid (HA3.out.grow hb4)
                  have HX4 := Lib.hid (HX3.out.grow hb4)
                  have HR4 := Lib.hid (HR3.out.grow hb4)
                  have HY4 := Lib.hid (HY3.out.grow hb4)
                  have HB4 := Lib.hid (HB3.out.trans (hb4.mono HB3.out.size))
                  have HW4 := Lib.hid hw4
                  have hs4 := hb4.size
                  clear x0 hb4 hw4
                  have x0 : w4.cell? ⟨w2.heap.size, 0, none⟩ = some (.pointer (some ⟨w1.heap.size + 1, 0, none⟩)) := HX4.out.cell 0
                  have y3 : w4.cell? ⟨wr.heap.size, 3, none⟩ = some (.int .i64 s.lot) := HY4.out.cell 3
                  have y4 : w4.cell? ⟨wr.heap.size, 4, none⟩ = some (.int .i64 s.coins) := HY4.out.cell 4
                  go_wp2_with fail
                  refine (can_live HA4.out HO.out HX.out).mono ?_
                  rintro e w4c ⟨rfl, hb4⟩
                  obtain ⟨cn, hcn⟩ : ∃ z, z = decide (a.holdE s.lot s.coins = 0) := ⟨_, rfl⟩
                  rw [← hcn]
                  have HCN := Lib.hid hcn
                  have HA4c := Lib.hid (HA4.out.grow hb4)
                  have HX4c := Lib.hid (HX4.out.grow hb4)
                  have HR4c := Lib.hid (HR4.out.grow hb4)
                  have HY4c := Lib.hid (HY4.out.grow hb4)
                  have HB4c := Lib.hid (HB4.out.trans (hb4.mono HB4.out.size))
                  have HW4c := Lib.hid (HW4.out.grow hb4)
                  have hs4c := hb4.size
                  clear x0 y3 y4 hb4 hcn
                  have x0 : w4c.cell? ⟨w2.heap.size, 0, none⟩ = some (.pointer (some ⟨w1.heap.size + 1, 0, none⟩)) := HX4c.out.cell 0
                  have y0 : w4c.cell? ⟨wr.heap.size, 0, none⟩ = some (.int .i64 s.kind) := HY4c.out.cell 0
                  have y1 : w4c.cell? ⟨wr.heap.size, 1, none⟩ = some (.int .i64 s.who) := HY4c.out.cell 1
                  have y2 : w4c.cell? ⟨wr.heap.size, 2, none⟩ = some (.int .i64 s.to) := HY4c.out.cell 2
                  have y3 : w4c.cell? ⟨wr.heap.size, 3, none⟩ = some (.int .i64 s.lot) := HY4c.out.cell 3
                  have y4 : w4c.cell? ⟨wr.heap.size, 4, none⟩ = some (.int .i64 s.coins) := HY4c.out.cell 4
                  go_wp2_with fail
                  refine (asked_any HA4c.out HO.out (by unfold maxLen; omega) HWS.out).mono ?_
                  rintro e w5 ⟨rfl, hc5, hn5, hz5⟩
                  have hb5 : Below w.heap.size w4c w5 := hc5.below (by have := HB4c.out.size; omega) (fun k hk e => by rcases e with e | e <;> omega)
                  have HX5 := Lib.hid (HX4c.out.chg hc5 (by rintro (e | e) <;> omega))
                  have HR5 := Lib.hid (HR4c.out.chg hc5 (by rintro (e | e) <;> omega))
                  have HY5 := Lib.hid (HY4c.out.chg hc5 (by rintro (e | e) <;> omega))
                  have HW5 := Lib.hid (HW4c.out.chg hc5 (by rintro (e | e) <;> omega) (by rintro (e | e) <;> omega))
                  have HB5 := Lib.hid (HB4c.out.trans hb5)
                  have hs5 := hc5.size
                  obtain ⟨en, hen⟩ : ∃ z, z = stepE a s := ⟨_, rfl⟩
                  obtain ⟨gn, hgn⟩ : ∃ z, z = stepG a s := ⟨_, rfl⟩
                  rw [← hen] at hn5 hz5 ⊢
                  rw [← hgn]
                  have HEN := Lib.hid hen
                  have HGN := Lib.hid hgn
                  have HN5 := Lib.hid hn5
                  have HZ5 := Lib.hid hz5
                  have HK2 := Lib.hid (show s.kind = 2 → en = a.holdE s.lot s.coins from fun h => by rw [hen]; simp [stepE, h])
                  have HOF5 := Lib.hid (show en = 0 → (stepA a s).Ok ∧ (stepA a s).Fine from fun h => HOF.out (hen.symm.trans h))
                  clear x0 y0 y1 y2 y3 y4 hc5 hb5 hn5 hz5 hen hgn
                  have x0 : w5.cell? ⟨w2.heap.size, 0, none⟩ = some (.pointer (some ⟨w1.heap.size + 1, 0, none⟩)) := HX5.out.cell 0
                  have y0 : w5.cell? ⟨wr.heap.size, 0, none⟩ = some (.int .i64 s.kind) := HY5.out.cell 0
                  have y1 : w5.cell? ⟨wr.heap.size, 1, none⟩ = some (.int .i64 s.who) := HY5.out.cell 1
                  have y2 : w5.cell? ⟨wr.heap.size, 2, none⟩ = some (.int .i64 s.to) := HY5.out.cell 2
                  have y3 : w5.cell? ⟨wr.heap.size, 3, none⟩ = some (.int .i64 s.lot) := HY5.out.cell 3
                  have y4 : w5.cell? ⟨wr.heap.size, 4, none⟩ = some (.int .i64 s.coins) := HY5.out.cell 4
                  by_cases hz : en = 0
                  · by_cases hk2 : s.kind = 2
                    · have hd1 : (en == 0) = true := by simpa using hz
                      have hd1n : (en != 0) = false := by simpa using hz
                      have hd2 : (s.kind == 2) = true := by simpa using hk2
                      have hcn : cn = true := by rw [HCN.out]; exact decide_eq_true ((HK2.out hk2).symm.trans hz)
                      subst hcn
                      clear hk2
                      have HA5 := Lib.hid (HZ5.out hz)
                      have HO6 := Lib.hid (HOF5.out hz).1
                      have HF6 := Lib.hid (HOF5.out hz).2
                      have hgo := fun W (hW : Below w5.heap.size w5 W) => goesOn_any (s := s) (HA5.out.grow hW) HO.out HF.out HWS.out (HEN.out.symm.trans hz)
                      rw [HTO.out, ← HGN.out] at hgo
                      have HGO := Lib.hid hgo
                      clear hz hgo
                      go_wp2_with fail
                      refine (HGO.out w5 (Below.refl _ _)).mono ?_
                      rintro e w6 ⟨rfl, hb6⟩
                      have HA6 := Lib.hid (HA5.out.grow hb6)
                      have HR6 := Lib.hid (HR5.out.grow hb6)
                      have HX6 := Lib.hid (HX5.out.grow hb6)
                      have HB6 := Lib.hid (HB5.out.trans (hb6.mono HB5.out.size))
                      have x6 : w6.cell? ⟨w2.heap.size, 0, none⟩ = some (.pointer (some ⟨w1.heap.size + 1, 0, none⟩)) := HX6.out.cell 0
                      have y6 : w6.cell? ⟨wr.heap.size, 0, none⟩ = some (.int .i64 s.kind) := (HY5.out.grow hb6).cell 0
                      have lx6 := HX6.out.lt
                      have HP6 := Lib.hid (show AtP w6 (.pointer (some ⟨w1.heap.size + 1, 0, none⟩)) (.live (stepA a s)) from ⟨_, _, _, rfl, HA6.out⟩)
                      have HPO := Lib.hid (show (Fm.live (stepA a s)).Ok from HO6.out)
                      obtain ⟨cf0, cf1, ch0, ch1, cs0, cs1, cb0, cb1, _, _⟩ := bounds_of HO6.out HF6.out 0
                      have hcf : (Fm.live (stepA a s)).free = ((stepA a s)).bud - sumM ((stepA a s)).M - ((stepA a s)).sp := by show ((stepA a s)).bud - ((stepA a s)).sp - sumM ((stepA a s)).M = _; omega
                      obtain ⟨cb, hcb⟩ : ∃ z, z = ((stepA a s)).bud := ⟨_, rfl⟩
                      obtain ⟨ch, hch⟩ : ∃ z, z = sumM ((stepA a s)).M := ⟨_, rfl⟩
                      obtain ⟨cs, hcs⟩ : ∃ z, z = ((stepA a s)).sp := ⟨_, rfl⟩
                      rw [show ((stepA a s)).free = (Fm.live (stepA a s)).free from rfl, hcf] at cf0
                      rw [← hcb, ← hch, ← hcs] at hcf cf0
                      rw [← hch] at ch0 ch1
                      rw [← hcs] at cs0 cs1
                      rw [← hcb] at cb0 cb1
                      have CF := Lib.hid hcf
                      have CH := Lib.hid (show sumM (Fm.live (stepA a s)).M = ch from hch.symm)
                      have CS := Lib.hid (show (Fm.live (stepA a s)).sp = cs from hcs.symm)
                      have CB := Lib.hid (show (Fm.live (stepA a s)).bud = cb from hcb.symm)
                      have v1 : IntKind.i64.wrap (ch + cs) = ch + cs := IntWalk.i64_in _ (by omega)
                      have v2 : IntKind.i64.wrap (cb - ch) = cb - ch := IntWalk.i64_in _ (by omega)
                      have v3 : IntKind.i64.wrap (cb - ch - cs) = cb - ch - cs := IntWalk.i64_in _ (by omega)
                      have d1 : decide (cb - ch - cs < 0) = false := by simp; omega
                      have d2 : decide (ch < 0) = false := by simp; omega
                      have d3 : decide (cs < 0) = false := by simp; omega
                      have d4 : decide (ch + cs > cb) = false := by simp; omega
                      have d4' : decide (cb < ch + cs) = false := by simp; omega
                      have hsz6 := HB6.out.size
                      clear hb6 hcf hcb hch hcs cf0 cf1 ch0 ch1 cs0 cs1 cb0 cb1
                      go_wp2_with fail
                      refine wp_region_P (Below w6.heap.size w6) [] (by kernel_rfl) ((Below.refl _ _).drew) (fun hS => ?_)
                      refine wpAnyF_take (i := 0) (oi := { dst := some 123, op := Go.Op.load 23 (Go.Operand.tmp 5), type := 23, pos := "law.go:168", after := #[], guard := none }) (v := ?_) rfl (by kernel_rfl) (by kernel_rfl) (by kernel_rfl) (by kernel_rfl) (fun _ _ _ h => h) (Or.inl ⟨by rfl, ?_⟩) hS ?_
                      rotate_left
                      · intro w' hSw; have q0 := (hSw.cell (p := ⟨w2.heap.size, 0, none⟩) lx6).trans x6; go_simp; try with_reducible rfl
                      try simp only [Act.put, List.setIfInBounds_toArray, List.set_cons_zero, List.set_cons_succ]
                      refine wpAnyF_ready (rs := [1]) (by kernel_rfl) (by simp) ?_
                      refine AllReadyF.cons (o := { dst := some 124, op := Go.Op.call { callee := Go.Callee.value (Go.Operand.func 22), args := #[Go.Operand.tmp 123], argTypes := #[23] }, type := 2, pos := "law.go:168", after := #[{ on := 0, ground := Go.Ground.data }], guard := none }) rfl (by rfl) (fun K hK => ?_) ?_
                      · go_simp
                        refine (free_any (HP6.out.grow hS) HPO.out).mono ?_
                        rintro e w7 ⟨rfl, hb7⟩
                        rw [CF.out]
                        refine hK.out _ _ ?_ (fun hS => ?_)
                        · exact hS.trans (hb7.mono hS.size)
                        clear hK K
                        try simp only [Act.put, List.setIfInBounds_toArray, List.set_cons_zero, List.set_cons_succ]
                        clear hb7
                        refine wpAnyF_take (i := 2) (oi := { dst := some 125, op := Go.Op.binOp Go.BinOp.lss 2 (Go.Operand.tmp 124) (Go.Operand.const (Go.Value.int Go.IntKind.i64 0)) 2, type := 4, pos := "law.go:168", after := #[{ on := 1, ground := Go.Ground.data }], guard := none }) (v := ?_) rfl (by kernel_rfl) (by kernel_rfl) (by kernel_rfl) (by kernel_rfl) (fun _ _ _ h => h) (Or.inl ⟨by rfl, ?_⟩) hS ?_
                        rotate_left
                        · intro w' hSw; have q0 := (hSw.cell (p := ⟨w2.heap.size, 0, none⟩) lx6).trans x6; go_simp; try with_reducible rfl
                        try simp only [Act.put, List.setIfInBounds_toArray, List.set_cons_zero, List.set_cons_succ]
                        refine wpAnyF_take (i := 3) (oi := { dst := some 126, op := Go.Op.move (Go.Operand.tmp 125), type := 4, pos := "law.go:168", after := #[{ on := 2, ground := Go.Ground.data }, { on := 1, ground := Go.Ground.chain }], guard := none }) (v := ?_) rfl (by kernel_rfl) (by kernel_rfl) (by kernel_rfl) (by kernel_rfl) (fun _ _ _ h => h) (Or.inl ⟨by rfl, ?_⟩) hS ?_
                        rotate_left
                        · intro w' hSw; have q0 := (hSw.cell (p := ⟨w2.heap.size, 0, none⟩) lx6).trans x6; go_simp; try with_reducible rfl
                        try simp only [Act.put, List.setIfInBounds_toArray, List.set_cons_zero, List.set_cons_succ]
                        refine wpAnyF_take (i := 4) (oi := { dst := some 127, op := Go.Op.load 23 (Go.Operand.tmp 5), type := 23, pos := "law.go:168", after := #[{ on := 3, ground := Go.Ground.guard }], guard := some (3, false) }) (v := ?_) rfl (by kernel_rfl) (by kernel_rfl) (by kernel_rfl) (by kernel_rfl) (fun _ _ _ h => h) (Or.inl ⟨by rfl, ?_⟩) hS ?_
                        rotate_left
                        · intro w' hSw; have q0 := (hSw.cell (p := ⟨w2.heap.size, 0, none⟩) lx6).trans x6; go_simp; try with_reducible rfl
                        try simp only [Act.put, List.setIfInBounds_toArray, List.set_cons_zero, List.set_cons_succ]
                        refine wpAnyF_ready (rs := [5]) (by kernel_rfl) (by simp) ?_
                        refine AllReadyF.cons (o := { dst := some 128, op := Go.Op.call { callee := Go.Callee.value (Go.Operand.func 23), args := #[Go.Operand.tmp 127], argTypes := #[23] }, type := 2, pos := "law.go:168", after := #[{ on := 4, ground := Go.Ground.data }, { on := 3, ground := Go.Ground.chain }, { on := 3, ground := Go.Ground.guard }], guard := some (3, false) }) rfl (by rfl) (fun K hK => ?_) ?_
                        · go_simp
                          refine (held_any (HP6.out.grow hS) HPO.out).mono ?_
                          rintro e w7 ⟨rfl, hb7⟩
                          rw [CH.out]
                          refine hK.out _ _ ?_ (fun hS => ?_)
                          · exact hS.trans (hb7.mono hS.size)
                          clear hK K
                          try simp only [Act.put, List.setIfInBounds_toArray, List.set_cons_zero, List.set_cons_succ]
                          clear hb7
                          refine wpAnyF_take (i := 6) (oi := { dst := some 129, op := Go.Op.binOp Go.BinOp.lss 2 (Go.Operand.tmp 128) (Go.Operand.const (Go.Value.int Go.IntKind.i64 0)) 2, type := 4, pos := "law.go:168", after := #[{ on := 5, ground := Go.Ground.data }, { on := 3, ground := Go.Ground.guard }], guard := some (3, false) }) (v := ?_) rfl (by kernel_rfl) (by kernel_rfl) (by kernel_rfl) (by kernel_rfl) (fun _ _ _ h => h) (Or.inl ⟨by rfl, ?_⟩) hS ?_
                          rotate_left
                          · intro w' hSw; have q0 := (hSw.cell (p := ⟨w2.heap.size, 0, none⟩) lx6).trans x6; go_simp; try with_reducible rfl
                          try simp only [Act.put, List.setIfInBounds_toArray, List.set_cons_zero, List.set_cons_succ]
                          refine wpAnyF_take (i := 7) (oi := { dst := some 130, op := Go.Op.pick (Go.Operand.tmp 126) (Go.Operand.const (Go.Value.bool true)) (Go.Operand.tmp 129), type := 4, pos := "law.go:168", after := #[{ on := 3, ground := Go.Ground.data }, { on := 6, ground := Go.Ground.data }], guard := none }) (v := ?_) rfl (by kernel_rfl) (by kernel_rfl) (by kernel_rfl) (by kernel_rfl) (fun _ _ _ h => h) (Or.inl ⟨by rfl, ?_⟩) hS ?_
                          rotate_left
                          · intro w' hSw; have q0 := (hSw.cell (p := ⟨w2.heap.size, 0, none⟩) lx6).trans x6; go_simp; try with_reducible rfl
                          try simp only [Act.put, List.setIfInBounds_toArray, List.set_cons_zero, List.set_cons_succ]
                          refine wpAnyF_take (i := 8) (oi := { dst := some 131, op := Go.Op.move (Go.Operand.tmp 130), type := 4, pos := "law.go:168", after := #[{ on := 7, ground := Go.Ground.data }, { on := 5, ground := Go.Ground.chain }], guard := none }) (v := ?_) rfl (by kernel_rfl) (by kernel_rfl) (by kernel_rfl) (by kernel_rfl) (fun _ _ _ h => h) (Or.inl ⟨by rfl, ?_⟩) hS ?_
                          rotate_left
                          · intro w' hSw; have q0 := (hSw.cell (p := ⟨w2.heap.size, 0, none⟩) lx6).trans x6; go_simp; try with_reducible rfl
                          try simp only [Act.put, List.setIfInBounds_toArray, List.set_cons_zero, List.set_cons_succ]
                          refine wpAnyF_take (i := 9) (oi := { dst := some 132, op := Go.Op.load 23 (Go.Operand.tmp 5), type := 23, pos := "law.go:168", after := #[{ on := 8, ground := Go.Ground.guard }], guard := some (8, false) }) (v := ?_) rfl (by kernel_rfl) (by kernel_rfl) (by kernel_rfl) (by kernel_rfl) (fun _ _ _ h => h) (Or.inl ⟨by rfl, ?_⟩) hS ?_
                          rotate_left
                          · intro w' hSw; have q0 := (hSw.cell (p := ⟨w2.heap.size, 0, none⟩) lx6).trans x6; go_simp; try with_reducible rfl
                          try simp only [Act.put, List.setIfInBounds_toArray, List.set_cons_zero, List.set_cons_succ]
                          refine wpAnyF_ready (rs := [10]) (by kernel_rfl) (by simp) ?_
                          refine AllReadyF.cons (o := { dst := some 133, op := Go.Op.call { callee := Go.Callee.value (Go.Operand.func 24), args := #[Go.Operand.tmp 132], argTypes := #[23] }, type := 2, pos := "law.go:168", after := #[{ on := 9, ground := Go.Ground.data }, { on := 8, ground := Go.Ground.chain }, { on := 8, ground := Go.Ground.guard }], guard := some (8, false) }) rfl (by rfl) (fun K hK => ?_) ?_
                          · go_simp
                            refine (spent_any (HP6.out.grow hS)).mono ?_
                            rintro e w7 ⟨rfl, hw7⟩
                            rw [hw7]
                            clear hw7
                            rw [CS.out]
                            refine hK.out _ _ ?_ (fun hS => ?_)
                            · exact hS
                            clear hK K
                            try simp only [Act.put, List.setIfInBounds_toArray, List.set_cons_zero, List.set_cons_succ]
                            refine wpAnyF_take (i := 11) (oi := { dst := some 134, op := Go.Op.binOp Go.BinOp.lss 2 (Go.Operand.tmp 133) (Go.Operand.const (Go.Value.int Go.IntKind.i64 0)) 2, type := 4, pos := "law.go:168", after := #[{ on := 10, ground := Go.Ground.data }, { on := 8, ground := Go.Ground.guard }], guard := some (8, false) }) (v := ?_) rfl (by kernel_rfl) (by kernel_rfl) (by kernel_rfl) (by kernel_rfl) (fun _ _ _ h => h) (Or.inl ⟨by rfl, ?_⟩) hS ?_
                            rotate_left
                            · intro w' hSw; have q0 := (hSw.cell (p := ⟨w2.heap.size, 0, none⟩) lx6).trans x6; go_simp; try with_reducible rfl
                            try simp only [Act.put, List.setIfInBounds_toArray, List.set_cons_zero, List.set_cons_succ]
                            refine wpAnyF_take (i := 12) (oi := { dst := some 135, op := Go.Op.pick (Go.Operand.tmp 131) (Go.Operand.const (Go.Value.bool true)) (Go.Operand.tmp 134), type := 4, pos := "law.go:168", after := #[{ on := 8, ground := Go.Ground.data }, { on := 11, ground := Go.Ground.data }], guard := none }) (v := ?_) rfl (by kernel_rfl) (by kernel_rfl) (by kernel_rfl) (by kernel_rfl) (fun _ _ _ h => h) (Or.inl ⟨by rfl, ?_⟩) hS ?_
                            rotate_left
                            · intro w' hSw; have q0 := (hSw.cell (p := ⟨w2.heap.size, 0, none⟩) lx6).trans x6; go_simp; try with_reducible rfl
                            try simp only [Act.put, List.setIfInBounds_toArray, List.set_cons_zero, List.set_cons_succ]
                            refine wpAnyF_take (i := 13) (oi := { dst := some 136, op := Go.Op.move (Go.Operand.tmp 135), type := 4, pos := "law.go:168", after := #[{ on := 12, ground := Go.Ground.data }, { on := 10, ground := Go.Ground.chain }], guard := none }) (v := ?_) rfl (by kernel_rfl) (by kernel_rfl) (by kernel_rfl) (by kernel_rfl) (fun _ _ _ h => h) (Or.inl ⟨by rfl, ?_⟩) hS ?_
                            rotate_left
                            · intro w' hSw; have q0 := (hSw.cell (p := ⟨w2.heap.size, 0, none⟩) lx6).trans x6; go_simp; try with_reducible rfl
                            try simp only [Act.put, List.setIfInBounds_toArray, List.set_cons_zero, List.set_cons_succ]
                            refine wpAnyF_take (i := 14) (oi := { dst := some 137, op := Go.Op.load 23 (Go.Operand.tmp 5), type := 23, pos := "law.go:168", after := #[{ on := 13, ground := Go.Ground.guard }], guard := some (13, false) }) (v := ?_) rfl (by kernel_rfl) (by kernel_rfl) (by kernel_rfl) (by kernel_rfl) (fun _ _ _ h => h) (Or.inl ⟨by rfl, ?_⟩) hS ?_
                            rotate_left
                            · intro w' hSw; have q0 := (hSw.cell (p := ⟨w2.heap.size, 0, none⟩) lx6).trans x6; go_simp; try with_reducible rfl
                            try simp only [Act.put, List.setIfInBounds_toArray, List.set_cons_zero, List.set_cons_succ]
                            refine wpAnyF_take (i := 16) (oi := { dst := some 139, op := Go.Op.load 23 (Go.Operand.tmp 5), type := 23, pos := "law.go:168", after := #[{ on := 13, ground := Go.Ground.guard }], guard := some (13, false) }) (v := ?_) rfl (by kernel_rfl) (by kernel_rfl) (by kernel_rfl) (by kernel_rfl) (fun _ _ _ h => h) (Or.inl ⟨by rfl, ?_⟩) hS ?_
                            rotate_left
                            · intro w' hSw; have q0 := (hSw.cell (p := ⟨w2.heap.size, 0, none⟩) lx6).trans x6; go_simp; try with_reducible rfl
                            try simp only [Act.put, List.setIfInBounds_toArray, List.set_cons_zero, List.set_cons_succ]
                            refine wpAnyF_take (i := 19) (oi := { dst := some 142, op := Go.Op.load 23 (Go.Operand.tmp 5), type := 23, pos := "law.go:168", after := #[{ on := 13, ground := Go.Ground.guard }], guard := some (13, false) }) (v := ?_) rfl (by kernel_rfl) (by kernel_rfl) (by kernel_rfl) (by kernel_rfl) (fun _ _ _ h => h) (Or.inl ⟨by rfl, ?_⟩) hS ?_
                            rotate_left
                            · intro w' hSw; have q0 := (hSw.cell (p := ⟨w2.heap.size, 0, none⟩) lx6).trans x6; go_simp; try with_reducible rfl
                            try simp only [Act.put, List.setIfInBounds_toArray, List.set_cons_zero, List.set_cons_succ]
                            refine wpAnyF_ready (rs := [15]) (by kernel_rfl) (by simp) ?_
                            refine AllReadyF.cons (o := { dst := some 138, op := Go.Op.call { callee := Go.Callee.value (Go.Operand.func 23), args := #[Go.Operand.tmp 137], argTypes := #[23] }, type := 2, pos := "law.go:168", after := #[{ on := 14, ground := Go.Ground.data }, { on := 13, ground := Go.Ground.chain }, { on := 13, ground := Go.Ground.guard }], guard := some (13, false) }) rfl (by rfl) (fun K hK => ?_) ?_
                            · go_simp
                              refine (held_any (HP6.out.grow hS) HPO.out).mono ?_
                              rintro e w7 ⟨rfl, hb7⟩
                              rw [CH.out]
                              refine hK.out _ _ ?_ (fun hS => ?_)
                              · exact hS.trans (hb7.mono hS.size)
                              clear hK K
                              try simp only [Act.put, List.setIfInBounds_toArray, List.set_cons_zero, List.set_cons_succ]
                              clear hb7
                              refine wpAnyF_ready (rs := [17]) (by kernel_rfl) (by simp) ?_
                              refine AllReadyF.cons (o := { dst := some 140, op := Go.Op.call { callee := Go.Callee.value (Go.Operand.func 24), args := #[Go.Operand.tmp 139], argTypes := #[23] }, type := 2, pos := "law.go:168", after := #[{ on := 16, ground := Go.Ground.data }, { on := 15, ground := Go.Ground.chain }, { on := 13, ground := Go.Ground.guard }], guard := some (13, false) }) rfl (by rfl) (fun K hK => ?_) ?_
                              · go_simp
                                refine (spent_any (HP6.out.grow hS)).mono ?_
                                rintro e w7 ⟨rfl, hw7⟩
                                rw [hw7]
                                clear hw7
                                rw [CS.out]
                                refine hK.out _ _ ?_ (fun hS => ?_)
                                · exact hS
                                clear hK K
                                try simp only [Act.put, List.setIfInBounds_toArray, List.set_cons_zero, List.set_cons_succ]
                                refine wpAnyF_take (i := 18) (oi := { dst := some 141, op := Go.Op.binOp Go.BinOp.add 2 (Go.Operand.tmp 138) (Go.Operand.tmp 140) 2, type := 2, pos := "law.go:168", after := #[{ on := 15, ground := Go.Ground.data }, { on := 17, ground := Go.Ground.data }, { on := 13, ground := Go.Ground.guard }], guard := some (13, false) }) (v := ?_) rfl (by kernel_rfl) (by kernel_rfl) (by kernel_rfl) (by kernel_rfl) (fun _ _ _ h => h) (Or.inl ⟨by rfl, ?_⟩) hS ?_
                                rotate_left
                                · intro w' hSw; have q0 := (hSw.cell (p := ⟨w2.heap.size, 0, none⟩) lx6).trans x6; go_simp; try with_reducible rfl
                                try simp only [Act.put, List.setIfInBounds_toArray, List.set_cons_zero, List.set_cons_succ]
                                refine wpAnyF_ready (rs := [20]) (by kernel_rfl) (by simp) ?_
                                refine AllReadyF.cons (o := { dst := some 143, op := Go.Op.call { callee := Go.Callee.value (Go.Operand.func 25), args := #[Go.Operand.tmp 142], argTypes := #[23] }, type := 2, pos := "law.go:168", after := #[{ on := 19, ground := Go.Ground.data }, { on := 17, ground := Go.Ground.chain }, { on := 13, ground := Go.Ground.guard }], guard := some (13, false) }) rfl (by rfl) (fun K hK => ?_) ?_
                                · go_simp
                                  refine (budget_any (HP6.out.grow hS)).mono ?_
                                  rintro e w7 ⟨rfl, hw7⟩
                                  rw [hw7]
                                  clear hw7
                                  rw [CB.out]
                                  refine hK.out _ _ ?_ (fun hS => ?_)
                                  · exact hS
                                  clear hK K
                                  try simp only [Act.put, List.setIfInBounds_toArray, List.set_cons_zero, List.set_cons_succ]
                                  refine wpAnyF_take (i := 21) (oi := { dst := some 144, op := Go.Op.binOp Go.BinOp.gtr 2 (Go.Operand.tmp 141) (Go.Operand.tmp 143) 2, type := 4, pos := "law.go:168", after := #[{ on := 18, ground := Go.Ground.data }, { on := 20, ground := Go.Ground.data }, { on := 13, ground := Go.Ground.guard }], guard := some (13, false) }) (v := ?_) rfl (by kernel_rfl) (by kernel_rfl) (by kernel_rfl) (by kernel_rfl) (fun _ _ _ h => h) (Or.inl ⟨by rfl, ?_⟩) hS ?_
                                  rotate_left
                                  · intro w' hSw; have q0 := (hSw.cell (p := ⟨w2.heap.size, 0, none⟩) lx6).trans x6; go_simp; try with_reducible rfl
                                  try simp only [Act.put, List.setIfInBounds_toArray, List.set_cons_zero, List.set_cons_succ]
                                  refine wpAnyF_take (i := 22) (oi := { dst := some 145, op := Go.Op.pick (Go.Operand.tmp 136) (Go.Operand.const (Go.Value.bool true)) (Go.Operand.tmp 144), type := 4, pos := "law.go:168", after := #[{ on := 13, ground := Go.Ground.data }, { on := 21, ground := Go.Ground.data }], guard := none }) (v := ?_) rfl (by kernel_rfl) (by kernel_rfl) (by kernel_rfl) (by kernel_rfl) (fun _ _ _ h => h) (Or.inl ⟨by rfl, ?_⟩) hS ?_
                                  rotate_left
                                  · intro w' hSw; have q0 := (hSw.cell (p := ⟨w2.heap.size, 0, none⟩) lx6).trans x6; go_simp; try with_reducible rfl
                                  try simp only [Act.put, List.setIfInBounds_toArray, List.set_cons_zero, List.set_cons_succ]
                                  refine wpAnyF_take (i := 23) (oi := { dst := some 146, op := Go.Op.move (Go.Operand.tmp 145), type := 4, pos := "law.go:168", after := #[{ on := 22, ground := Go.Ground.data }, { on := 20, ground := Go.Ground.chain }], guard := none }) (v := ?_) rfl (by kernel_rfl) (by kernel_rfl) (by kernel_rfl) (by kernel_rfl) (fun _ _ _ h => h) (Or.inl ⟨by rfl, ?_⟩) hS ?_
                                  rotate_left
                                  · intro w' hSw; have q0 := (hSw.cell (p := ⟨w2.heap.size, 0, none⟩) lx6).trans x6; go_simp; try with_reducible rfl
                                  try simp only [Act.put, List.setIfInBounds_toArray, List.set_cons_zero, List.set_cons_succ]
                                  refine wpAnyF_take (i := 24) (oi := { dst := some 147, op := Go.Op.load 23 (Go.Operand.tmp 5), type := 23, pos := "law.go:168", after := #[{ on := 23, ground := Go.Ground.guard }], guard := some (23, false) }) (v := ?_) rfl (by kernel_rfl) (by kernel_rfl) (by kernel_rfl) (by kernel_rfl) (fun _ _ _ h => h) (Or.inl ⟨by rfl, ?_⟩) hS ?_
                                  rotate_left
                                  · intro w' hSw; have q0 := (hSw.cell (p := ⟨w2.heap.size, 0, none⟩) lx6).trans x6; go_simp; try with_reducible rfl
                                  try simp only [Act.put, List.setIfInBounds_toArray, List.set_cons_zero, List.set_cons_succ]
                                  refine wpAnyF_take (i := 26) (oi := { dst := some 149, op := Go.Op.load 23 (Go.Operand.tmp 5), type := 23, pos := "law.go:168", after := #[{ on := 23, ground := Go.Ground.guard }], guard := some (23, false) }) (v := ?_) rfl (by kernel_rfl) (by kernel_rfl) (by kernel_rfl) (by kernel_rfl) (fun _ _ _ h => h) (Or.inl ⟨by rfl, ?_⟩) hS ?_
                                  rotate_left
                                  · intro w' hSw; have q0 := (hSw.cell (p := ⟨w2.heap.size, 0, none⟩) lx6).trans x6; go_simp; try with_reducible rfl
                                  try simp only [Act.put, List.setIfInBounds_toArray, List.set_cons_zero, List.set_cons_succ]
                                  refine wpAnyF_take (i := 28) (oi := { dst := some 151, op := Go.Op.load 23 (Go.Operand.tmp 5), type := 23, pos := "law.go:168", after := #[{ on := 23, ground := Go.Ground.guard }], guard := some (23, false) }) (v := ?_) rfl (by kernel_rfl) (by kernel_rfl) (by kernel_rfl) (by kernel_rfl) (fun _ _ _ h => h) (Or.inl ⟨by rfl, ?_⟩) hS ?_
                                  rotate_left
                                  · intro w' hSw; have q0 := (hSw.cell (p := ⟨w2.heap.size, 0, none⟩) lx6).trans x6; go_simp; try with_reducible rfl
                                  try simp only [Act.put, List.setIfInBounds_toArray, List.set_cons_zero, List.set_cons_succ]
                                  refine wpAnyF_take (i := 31) (oi := { dst := some 154, op := Go.Op.load 23 (Go.Operand.tmp 5), type := 23, pos := "law.go:168", after := #[{ on := 23, ground := Go.Ground.guard }], guard := some (23, false) }) (v := ?_) rfl (by kernel_rfl) (by kernel_rfl) (by kernel_rfl) (by kernel_rfl) (fun _ _ _ h => h) (Or.inl ⟨by rfl, ?_⟩) hS ?_
                                  rotate_left
                                  · intro w' hSw; have q0 := (hSw.cell (p := ⟨w2.heap.size, 0, none⟩) lx6).trans x6; go_simp; try with_reducible rfl
                                  try simp only [Act.put, List.setIfInBounds_toArray, List.set_cons_zero, List.set_cons_succ]
                                  refine wpAnyF_ready (rs := [25]) (by kernel_rfl) (by simp) ?_
                                  refine AllReadyF.cons (o := { dst := some 148, op := Go.Op.call { callee := Go.Callee.value (Go.Operand.func 22), args := #[Go.Operand.tmp 147], argTypes := #[23] }, type := 2, pos := "law.go:168", after := #[{ on := 24, ground := Go.Ground.data }, { on := 23, ground := Go.Ground.chain }, { on := 23, ground := Go.Ground.guard }], guard := some (23, false) }) rfl (by rfl) (fun K hK => ?_) ?_
                                  · go_simp
                                    refine (free_any (HP6.out.grow hS) HPO.out).mono ?_
                                    rintro e w7 ⟨rfl, hb7⟩
                                    rw [CF.out]
                                    refine hK.out _ _ ?_ (fun hS => ?_)
                                    · exact hS.trans (hb7.mono hS.size)
                                    clear hK K
                                    try simp only [Act.put, List.setIfInBounds_toArray, List.set_cons_zero, List.set_cons_succ]
                                    clear hb7
                                    refine wpAnyF_ready (rs := [27]) (by kernel_rfl) (by simp) ?_
                                    refine AllReadyF.cons (o := { dst := some 150, op := Go.Op.call { callee := Go.Callee.value (Go.Operand.func 25), args := #[Go.Operand.tmp 149], argTypes := #[23] }, type := 2, pos := "law.go:168", after := #[{ on := 26, ground := Go.Ground.data }, { on := 25, ground := Go.Ground.chain }, { on := 23, ground := Go.Ground.guard }], guard := some (23, false) }) rfl (by rfl) (fun K hK => ?_) ?_
                                    · go_simp
                                      refine (budget_any (HP6.out.grow hS)).mono ?_
                                      rintro e w7 ⟨rfl, hw7⟩
                                      rw [hw7]
                                      clear hw7
                                      rw [CB.out]
                                      refine hK.out _ _ ?_ (fun hS => ?_)
                                      · exact hS
                                      clear hK K
                                      try simp only [Act.put, List.setIfInBounds_toArray, List.set_cons_zero, List.set_cons_succ]
                                      refine wpAnyF_ready (rs := [29]) (by kernel_rfl) (by simp) ?_
                                      refine AllReadyF.cons (o := { dst := some 152, op := Go.Op.call { callee := Go.Callee.value (Go.Operand.func 23), args := #[Go.Operand.tmp 151], argTypes := #[23] }, type := 2, pos := "law.go:168", after := #[{ on := 28, ground := Go.Ground.data }, { on := 27, ground := Go.Ground.chain }, { on := 23, ground := Go.Ground.guard }], guard := some (23, false) }) rfl (by rfl) (fun K hK => ?_) ?_
                                      · go_simp
                                        refine (held_any (HP6.out.grow hS) HPO.out).mono ?_
                                        rintro e w7 ⟨rfl, hb7⟩
                                        rw [CH.out]
                                        refine hK.out _ _ ?_ (fun hS => ?_)
                                        · exact hS.trans (hb7.mono hS.size)
                                        clear hK K
                                        try simp only [Act.put, List.setIfInBounds_toArray, List.set_cons_zero, List.set_cons_succ]
                                        clear hb7
                                        refine wpAnyF_take (i := 30) (oi := { dst := some 153, op := Go.Op.binOp Go.BinOp.sub 2 (Go.Operand.tmp 150) (Go.Operand.tmp 152) 2, type := 2, pos := "law.go:168", after := #[{ on := 27, ground := Go.Ground.data }, { on := 29, ground := Go.Ground.data }, { on := 23, ground := Go.Ground.guard }], guard := some (23, false) }) (v := ?_) rfl (by kernel_rfl) (by kernel_rfl) (by kernel_rfl) (by kernel_rfl) (fun _ _ _ h => h) (Or.inl ⟨by rfl, ?_⟩) hS ?_
                                        rotate_left
                                        · intro w' hSw; have q0 := (hSw.cell (p := ⟨w2.heap.size, 0, none⟩) lx6).trans x6; go_simp; try with_reducible rfl
                                        try simp only [Act.put, List.setIfInBounds_toArray, List.set_cons_zero, List.set_cons_succ]
                                        refine wpAnyF_ready (rs := [32]) (by kernel_rfl) (by simp) ?_
                                        refine AllReadyF.cons (o := { dst := some 155, op := Go.Op.call { callee := Go.Callee.value (Go.Operand.func 24), args := #[Go.Operand.tmp 154], argTypes := #[23] }, type := 2, pos := "law.go:168", after := #[{ on := 31, ground := Go.Ground.data }, { on := 29, ground := Go.Ground.chain }, { on := 23, ground := Go.Ground.guard }], guard := some (23, false) }) rfl (by rfl) (fun K hK => ?_) ?_
                                        · go_simp
                                          refine (spent_any (HP6.out.grow hS)).mono ?_
                                          rintro e w7 ⟨rfl, hw7⟩
                                          rw [hw7]
                                          clear hw7
                                          rw [CS.out]
                                          refine hK.out _ _ ?_ (fun hS => ?_)
                                          · exact hS
                                          clear hK K
                                          try simp only [Act.put, List.setIfInBounds_toArray, List.set_cons_zero, List.set_cons_succ]
                                          refine wpAnyF_take (i := 33) (oi := { dst := some 156, op := Go.Op.binOp Go.BinOp.sub 2 (Go.Operand.tmp 153) (Go.Operand.tmp 155) 2, type := 2, pos := "law.go:168", after := #[{ on := 30, ground := Go.Ground.data }, { on := 32, ground := Go.Ground.data }, { on := 23, ground := Go.Ground.guard }], guard := some (23, false) }) (v := ?_) rfl (by kernel_rfl) (by kernel_rfl) (by kernel_rfl) (by kernel_rfl) (fun _ _ _ h => h) (Or.inl ⟨by rfl, ?_⟩) hS ?_
                                          rotate_left
                                          · intro w' hSw; have q0 := (hSw.cell (p := ⟨w2.heap.size, 0, none⟩) lx6).trans x6; go_simp; try with_reducible rfl
                                          try simp only [Act.put, List.setIfInBounds_toArray, List.set_cons_zero, List.set_cons_succ]
                                          refine wpAnyF_take (i := 34) (oi := { dst := some 157, op := Go.Op.binOp Go.BinOp.neq 2 (Go.Operand.tmp 148) (Go.Operand.tmp 156) 2, type := 4, pos := "law.go:168", after := #[{ on := 25, ground := Go.Ground.data }, { on := 33, ground := Go.Ground.data }, { on := 23, ground := Go.Ground.guard }], guard := some (23, false) }) (v := ?_) rfl (by kernel_rfl) (by kernel_rfl) (by kernel_rfl) (by kernel_rfl) (fun _ _ _ h => h) (Or.inl ⟨by rfl, ?_⟩) hS ?_
                                          rotate_left
                                          · intro w' hSw; have q0 := (hSw.cell (p := ⟨w2.heap.size, 0, none⟩) lx6).trans x6; go_simp; try with_reducible rfl
                                          try simp only [Act.put, List.setIfInBounds_toArray, List.set_cons_zero, List.set_cons_succ]
                                          refine wpAnyF_take (i := 35) (oi := { dst := some 158, op := Go.Op.pick (Go.Operand.tmp 146) (Go.Operand.const (Go.Value.bool true)) (Go.Operand.tmp 157), type := 4, pos := "law.go:168", after := #[{ on := 23, ground := Go.Ground.data }, { on := 34, ground := Go.Ground.data }], guard := none }) (v := ?_) rfl (by kernel_rfl) (by kernel_rfl) (by kernel_rfl) (by kernel_rfl) (fun _ _ _ h => h) (Or.inl ⟨by rfl, ?_⟩) hS ?_
                                          rotate_left
                                          · intro w' hSw; have q0 := (hSw.cell (p := ⟨w2.heap.size, 0, none⟩) lx6).trans x6; go_simp; try with_reducible rfl
                                          try simp only [Act.put, List.setIfInBounds_toArray, List.set_cons_zero, List.set_cons_succ]
                                          refine wpAnyF_done (by kernel_rfl) (noPanic_normal ?_) _
                                          go_wp2_with fail
                                          go_roundw
                                          case rel => exact ⟨k + 1, _, by omega, by go_num, HA6.out.grow hS, HO6.out, HF6.out, HR6.out.grow hS, HX6.out.grow hS, HB6.out.trans (hS.mono HB6.out.size)⟩
                                          case measure => simp [intOf]; omega
                                        exact AllReadyF.nil
                                      exact AllReadyF.nil
                                    exact AllReadyF.nil
                                  exact AllReadyF.nil
                                exact AllReadyF.nil
                              exact AllReadyF.nil
                            exact AllReadyF.nil
                          exact AllReadyF.nil
                        exact AllReadyF.nil
                      exact AllReadyF.nil
                    · have hd1 : (en == 0) = true := by simpa using hz
                      have hd1n : (en != 0) = false := by simpa using hz
                      have hd2 : (s.kind == 2) = false := by simpa using hk2
                      clear hk2
                      have HA5 := Lib.hid (HZ5.out hz)
                      have HO6 := Lib.hid (HOF5.out hz).1
                      have HF6 := Lib.hid (HOF5.out hz).2
                      have hgo := fun W (hW : Below w5.heap.size w5 W) => goesOn_any (s := s) (HA5.out.grow hW) HO.out HF.out HWS.out (HEN.out.symm.trans hz)
                      rw [HTO.out, ← HGN.out] at hgo
                      have HGO := Lib.hid hgo
                      clear hz hgo
                      go_wp2_with fail
                      refine (HGO.out w5 (Below.refl _ _)).mono ?_
                      rintro e w6 ⟨rfl, hb6⟩
                      have HA6 := Lib.hid (HA5.out.grow hb6)
                      have HR6 := Lib.hid (HR5.out.grow hb6)
                      have HX6 := Lib.hid (HX5.out.grow hb6)
                      have HB6 := Lib.hid (HB5.out.trans (hb6.mono HB5.out.size))
                      have x6 : w6.cell? ⟨w2.heap.size, 0, none⟩ = some (.pointer (some ⟨w1.heap.size + 1, 0, none⟩)) := HX6.out.cell 0
                      have y6 : w6.cell? ⟨wr.heap.size, 0, none⟩ = some (.int .i64 s.kind) := (HY5.out.grow hb6).cell 0
                      have lx6 := HX6.out.lt
                      have HP6 := Lib.hid (show AtP w6 (.pointer (some ⟨w1.heap.size + 1, 0, none⟩)) (.live (stepA a s)) from ⟨_, _, _, rfl, HA6.out⟩)
                      have HPO := Lib.hid (show (Fm.live (stepA a s)).Ok from HO6.out)
                      obtain ⟨cf0, cf1, ch0, ch1, cs0, cs1, cb0, cb1, _, _⟩ := bounds_of HO6.out HF6.out 0
                      have hcf : (Fm.live (stepA a s)).free = ((stepA a s)).bud - sumM ((stepA a s)).M - ((stepA a s)).sp := by show ((stepA a s)).bud - ((stepA a s)).sp - sumM ((stepA a s)).M = _; omega
                      obtain ⟨cb, hcb⟩ : ∃ z, z = ((stepA a s)).bud := ⟨_, rfl⟩
                      obtain ⟨ch, hch⟩ : ∃ z, z = sumM ((stepA a s)).M := ⟨_, rfl⟩
                      obtain ⟨cs, hcs⟩ : ∃ z, z = ((stepA a s)).sp := ⟨_, rfl⟩
                      rw [show ((stepA a s)).free = (Fm.live (stepA a s)).free from rfl, hcf] at cf0
                      rw [← hcb, ← hch, ← hcs] at hcf cf0
                      rw [← hch] at ch0 ch1
                      rw [← hcs] at cs0 cs1
                      rw [← hcb] at cb0 cb1
                      have CF := Lib.hid hcf
                      have CH := Lib.hid (show sumM (Fm.live (stepA a s)).M = ch from hch.symm)
                      have CS := Lib.hid (show (Fm.live (stepA a s)).sp = cs from hcs.symm)
                      have CB := Lib.hid (show (Fm.live (stepA a s)).bud = cb from hcb.symm)
                      have v1 : IntKind.i64.wrap (ch + cs) = ch + cs := IntWalk.i64_in _ (by omega)
                      have v2 : IntKind.i64.wrap (cb - ch) = cb - ch := IntWalk.i64_in _ (by omega)
                      have v3 : IntKind.i64.wrap (cb - ch - cs) = cb - ch - cs := IntWalk.i64_in _ (by omega)
                      have d1 : decide (cb - ch - cs < 0) = false := by simp; omega
                      have d2 : decide (ch < 0) = false := by simp; omega
                      have d3 : decide (cs < 0) = false := by simp; omega
                      have d4 : decide (ch + cs > cb) = false := by simp; omega
                      have d4' : decide (cb < ch + cs) = false := by simp; omega
                      have hsz6 := HB6.out.size
                      clear hb6 hcf hcb hch hcs cf0 cf1 ch0 ch1 cs0 cs1 cb0 cb1
                      go_wp2_with fail
                      refine wp_region_P (Below w6.heap.size w6) [] (by kernel_rfl) ((Below.refl _ _).drew) (fun hS => ?_)
                      refine wpAnyF_take (i := 0) (oi := { dst := some 123, op := Go.Op.load 23 (Go.Operand.tmp 5), type := 23, pos := "law.go:168", after := #[], guard := none }) (v := ?_) rfl (by kernel_rfl) (by kernel_rfl) (by kernel_rfl) (by kernel_rfl) (fun _ _ _ h => h) (Or.inl ⟨by rfl, ?_⟩) hS ?_
                      rotate_left
                      · intro w' hSw; have q0 := (hSw.cell (p := ⟨w2.heap.size, 0, none⟩) lx6).trans x6; go_simp; try with_reducible rfl
                      try simp only [Act.put, List.setIfInBounds_toArray, List.set_cons_zero, List.set_cons_succ]
                      refine wpAnyF_ready (rs := [1]) (by kernel_rfl) (by simp) ?_
                      refine AllReadyF.cons (o := { dst := some 124, op := Go.Op.call { callee := Go.Callee.value (Go.Operand.func 22), args := #[Go.Operand.tmp 123], argTypes := #[23] }, type := 2, pos := "law.go:168", after := #[{ on := 0, ground := Go.Ground.data }], guard := none }) rfl (by rfl) (fun K hK => ?_) ?_
                      · go_simp
                        refine (free_any (HP6.out.grow hS) HPO.out).mono ?_
                        rintro e w7 ⟨rfl, hb7⟩
                        rw [CF.out]
                        refine hK.out _ _ ?_ (fun hS => ?_)
                        · exact hS.trans (hb7.mono hS.size)
                        clear hK K
                        try simp only [Act.put, List.setIfInBounds_toArray, List.set_cons_zero, List.set_cons_succ]
                        clear hb7
                        refine wpAnyF_take (i := 2) (oi := { dst := some 125, op := Go.Op.binOp Go.BinOp.lss 2 (Go.Operand.tmp 124) (Go.Operand.const (Go.Value.int Go.IntKind.i64 0)) 2, type := 4, pos := "law.go:168", after := #[{ on := 1, ground := Go.Ground.data }], guard := none }) (v := ?_) rfl (by kernel_rfl) (by kernel_rfl) (by kernel_rfl) (by kernel_rfl) (fun _ _ _ h => h) (Or.inl ⟨by rfl, ?_⟩) hS ?_
                        rotate_left
                        · intro w' hSw; have q0 := (hSw.cell (p := ⟨w2.heap.size, 0, none⟩) lx6).trans x6; go_simp; try with_reducible rfl
                        try simp only [Act.put, List.setIfInBounds_toArray, List.set_cons_zero, List.set_cons_succ]
                        refine wpAnyF_take (i := 3) (oi := { dst := some 126, op := Go.Op.move (Go.Operand.tmp 125), type := 4, pos := "law.go:168", after := #[{ on := 2, ground := Go.Ground.data }, { on := 1, ground := Go.Ground.chain }], guard := none }) (v := ?_) rfl (by kernel_rfl) (by kernel_rfl) (by kernel_rfl) (by kernel_rfl) (fun _ _ _ h => h) (Or.inl ⟨by rfl, ?_⟩) hS ?_
                        rotate_left
                        · intro w' hSw; have q0 := (hSw.cell (p := ⟨w2.heap.size, 0, none⟩) lx6).trans x6; go_simp; try with_reducible rfl
                        try simp only [Act.put, List.setIfInBounds_toArray, List.set_cons_zero, List.set_cons_succ]
                        refine wpAnyF_take (i := 4) (oi := { dst := some 127, op := Go.Op.load 23 (Go.Operand.tmp 5), type := 23, pos := "law.go:168", after := #[{ on := 3, ground := Go.Ground.guard }], guard := some (3, false) }) (v := ?_) rfl (by kernel_rfl) (by kernel_rfl) (by kernel_rfl) (by kernel_rfl) (fun _ _ _ h => h) (Or.inl ⟨by rfl, ?_⟩) hS ?_
                        rotate_left
                        · intro w' hSw; have q0 := (hSw.cell (p := ⟨w2.heap.size, 0, none⟩) lx6).trans x6; go_simp; try with_reducible rfl
                        try simp only [Act.put, List.setIfInBounds_toArray, List.set_cons_zero, List.set_cons_succ]
                        refine wpAnyF_ready (rs := [5]) (by kernel_rfl) (by simp) ?_
                        refine AllReadyF.cons (o := { dst := some 128, op := Go.Op.call { callee := Go.Callee.value (Go.Operand.func 23), args := #[Go.Operand.tmp 127], argTypes := #[23] }, type := 2, pos := "law.go:168", after := #[{ on := 4, ground := Go.Ground.data }, { on := 3, ground := Go.Ground.chain }, { on := 3, ground := Go.Ground.guard }], guard := some (3, false) }) rfl (by rfl) (fun K hK => ?_) ?_
                        · go_simp
                          refine (held_any (HP6.out.grow hS) HPO.out).mono ?_
                          rintro e w7 ⟨rfl, hb7⟩
                          rw [CH.out]
                          refine hK.out _ _ ?_ (fun hS => ?_)
                          · exact hS.trans (hb7.mono hS.size)
                          clear hK K
                          try simp only [Act.put, List.setIfInBounds_toArray, List.set_cons_zero, List.set_cons_succ]
                          clear hb7
                          refine wpAnyF_take (i := 6) (oi := { dst := some 129, op := Go.Op.binOp Go.BinOp.lss 2 (Go.Operand.tmp 128) (Go.Operand.const (Go.Value.int Go.IntKind.i64 0)) 2, type := 4, pos := "law.go:168", after := #[{ on := 5, ground := Go.Ground.data }, { on := 3, ground := Go.Ground.guard }], guard := some (3, false) }) (v := ?_) rfl (by kernel_rfl) (by kernel_rfl) (by kernel_rfl) (by kernel_rfl) (fun _ _ _ h => h) (Or.inl ⟨by rfl, ?_⟩) hS ?_
                          rotate_left
                          · intro w' hSw; have q0 := (hSw.cell (p := ⟨w2.heap.size, 0, none⟩) lx6).trans x6; go_simp; try with_reducible rfl
                          try simp only [Act.put, List.setIfInBounds_toArray, List.set_cons_zero, List.set_cons_succ]
                          refine wpAnyF_take (i := 7) (oi := { dst := some 130, op := Go.Op.pick (Go.Operand.tmp 126) (Go.Operand.const (Go.Value.bool true)) (Go.Operand.tmp 129), type := 4, pos := "law.go:168", after := #[{ on := 3, ground := Go.Ground.data }, { on := 6, ground := Go.Ground.data }], guard := none }) (v := ?_) rfl (by kernel_rfl) (by kernel_rfl) (by kernel_rfl) (by kernel_rfl) (fun _ _ _ h => h) (Or.inl ⟨by rfl, ?_⟩) hS ?_
                          rotate_left
                          · intro w' hSw; have q0 := (hSw.cell (p := ⟨w2.heap.size, 0, none⟩) lx6).trans x6; go_simp; try with_reducible rfl
                          try simp only [Act.put, List.setIfInBounds_toArray, List.set_cons_zero, List.set_cons_succ]
                          refine wpAnyF_take (i := 8) (oi := { dst := some 131, op := Go.Op.move (Go.Operand.tmp 130), type := 4, pos := "law.go:168", after := #[{ on := 7, ground := Go.Ground.data }, { on := 5, ground := Go.Ground.chain }], guard := none }) (v := ?_) rfl (by kernel_rfl) (by kernel_rfl) (by kernel_rfl) (by kernel_rfl) (fun _ _ _ h => h) (Or.inl ⟨by rfl, ?_⟩) hS ?_
                          rotate_left
                          · intro w' hSw; have q0 := (hSw.cell (p := ⟨w2.heap.size, 0, none⟩) lx6).trans x6; go_simp; try with_reducible rfl
                          try simp only [Act.put, List.setIfInBounds_toArray, List.set_cons_zero, List.set_cons_succ]
                          refine wpAnyF_take (i := 9) (oi := { dst := some 132, op := Go.Op.load 23 (Go.Operand.tmp 5), type := 23, pos := "law.go:168", after := #[{ on := 8, ground := Go.Ground.guard }], guard := some (8, false) }) (v := ?_) rfl (by kernel_rfl) (by kernel_rfl) (by kernel_rfl) (by kernel_rfl) (fun _ _ _ h => h) (Or.inl ⟨by rfl, ?_⟩) hS ?_
                          rotate_left
                          · intro w' hSw; have q0 := (hSw.cell (p := ⟨w2.heap.size, 0, none⟩) lx6).trans x6; go_simp; try with_reducible rfl
                          try simp only [Act.put, List.setIfInBounds_toArray, List.set_cons_zero, List.set_cons_succ]
                          refine wpAnyF_ready (rs := [10]) (by kernel_rfl) (by simp) ?_
                          refine AllReadyF.cons (o := { dst := some 133, op := Go.Op.call { callee := Go.Callee.value (Go.Operand.func 24), args := #[Go.Operand.tmp 132], argTypes := #[23] }, type := 2, pos := "law.go:168", after := #[{ on := 9, ground := Go.Ground.data }, { on := 8, ground := Go.Ground.chain }, { on := 8, ground := Go.Ground.guard }], guard := some (8, false) }) rfl (by rfl) (fun K hK => ?_) ?_
                          · go_simp
                            refine (spent_any (HP6.out.grow hS)).mono ?_
                            rintro e w7 ⟨rfl, hw7⟩
                            rw [hw7]
                            clear hw7
                            rw [CS.out]
                            refine hK.out _ _ ?_ (fun hS => ?_)
                            · exact hS
                            clear hK K
                            try simp only [Act.put, List.setIfInBounds_toArray, List.set_cons_zero, List.set_cons_succ]
                            refine wpAnyF_take (i := 11) (oi := { dst := some 134, op := Go.Op.binOp Go.BinOp.lss 2 (Go.Operand.tmp 133) (Go.Operand.const (Go.Value.int Go.IntKind.i64 0)) 2, type := 4, pos := "law.go:168", after := #[{ on := 10, ground := Go.Ground.data }, { on := 8, ground := Go.Ground.guard }], guard := some (8, false) }) (v := ?_) rfl (by kernel_rfl) (by kernel_rfl) (by kernel_rfl) (by kernel_rfl) (fun _ _ _ h => h) (Or.inl ⟨by rfl, ?_⟩) hS ?_
                            rotate_left
                            · intro w' hSw; have q0 := (hSw.cell (p := ⟨w2.heap.size, 0, none⟩) lx6).trans x6; go_simp; try with_reducible rfl
                            try simp only [Act.put, List.setIfInBounds_toArray, List.set_cons_zero, List.set_cons_succ]
                            refine wpAnyF_take (i := 12) (oi := { dst := some 135, op := Go.Op.pick (Go.Operand.tmp 131) (Go.Operand.const (Go.Value.bool true)) (Go.Operand.tmp 134), type := 4, pos := "law.go:168", after := #[{ on := 8, ground := Go.Ground.data }, { on := 11, ground := Go.Ground.data }], guard := none }) (v := ?_) rfl (by kernel_rfl) (by kernel_rfl) (by kernel_rfl) (by kernel_rfl) (fun _ _ _ h => h) (Or.inl ⟨by rfl, ?_⟩) hS ?_
                            rotate_left
                            · intro w' hSw; have q0 := (hSw.cell (p := ⟨w2.heap.size, 0, none⟩) lx6).trans x6; go_simp; try with_reducible rfl
                            try simp only [Act.put, List.setIfInBounds_toArray, List.set_cons_zero, List.set_cons_succ]
                            refine wpAnyF_take (i := 13) (oi := { dst := some 136, op := Go.Op.move (Go.Operand.tmp 135), type := 4, pos := "law.go:168", after := #[{ on := 12, ground := Go.Ground.data }, { on := 10, ground := Go.Ground.chain }], guard := none }) (v := ?_) rfl (by kernel_rfl) (by kernel_rfl) (by kernel_rfl) (by kernel_rfl) (fun _ _ _ h => h) (Or.inl ⟨by rfl, ?_⟩) hS ?_
                            rotate_left
                            · intro w' hSw; have q0 := (hSw.cell (p := ⟨w2.heap.size, 0, none⟩) lx6).trans x6; go_simp; try with_reducible rfl
                            try simp only [Act.put, List.setIfInBounds_toArray, List.set_cons_zero, List.set_cons_succ]
                            refine wpAnyF_take (i := 14) (oi := { dst := some 137, op := Go.Op.load 23 (Go.Operand.tmp 5), type := 23, pos := "law.go:168", after := #[{ on := 13, ground := Go.Ground.guard }], guard := some (13, false) }) (v := ?_) rfl (by kernel_rfl) (by kernel_rfl) (by kernel_rfl) (by kernel_rfl) (fun _ _ _ h => h) (Or.inl ⟨by rfl, ?_⟩) hS ?_
                            rotate_left
                            · intro w' hSw; have q0 := (hSw.cell (p := ⟨w2.heap.size, 0, none⟩) lx6).trans x6; go_simp; try with_reducible rfl
                            try simp only [Act.put, List.setIfInBounds_toArray, List.set_cons_zero, List.set_cons_succ]
                            refine wpAnyF_take (i := 16) (oi := { dst := some 139, op := Go.Op.load 23 (Go.Operand.tmp 5), type := 23, pos := "law.go:168", after := #[{ on := 13, ground := Go.Ground.guard }], guard := some (13, false) }) (v := ?_) rfl (by kernel_rfl) (by kernel_rfl) (by kernel_rfl) (by kernel_rfl) (fun _ _ _ h => h) (Or.inl ⟨by rfl, ?_⟩) hS ?_
                            rotate_left
                            · intro w' hSw; have q0 := (hSw.cell (p := ⟨w2.heap.size, 0, none⟩) lx6).trans x6; go_simp; try with_reducible rfl
                            try simp only [Act.put, List.setIfInBounds_toArray, List.set_cons_zero, List.set_cons_succ]
                            refine wpAnyF_take (i := 19) (oi := { dst := some 142, op := Go.Op.load 23 (Go.Operand.tmp 5), type := 23, pos := "law.go:168", after := #[{ on := 13, ground := Go.Ground.guard }], guard := some (13, false) }) (v := ?_) rfl (by kernel_rfl) (by kernel_rfl) (by kernel_rfl) (by kernel_rfl) (fun _ _ _ h => h) (Or.inl ⟨by rfl, ?_⟩) hS ?_
                            rotate_left
                            · intro w' hSw; have q0 := (hSw.cell (p := ⟨w2.heap.size, 0, none⟩) lx6).trans x6; go_simp; try with_reducible rfl
                            try simp only [Act.put, List.setIfInBounds_toArray, List.set_cons_zero, List.set_cons_succ]
                            refine wpAnyF_ready (rs := [15]) (by kernel_rfl) (by simp) ?_
                            refine AllReadyF.cons (o := { dst := some 138, op := Go.Op.call { callee := Go.Callee.value (Go.Operand.func 23), args := #[Go.Operand.tmp 137], argTypes := #[23] }, type := 2, pos := "law.go:168", after := #[{ on := 14, ground := Go.Ground.data }, { on := 13, ground := Go.Ground.chain }, { on := 13, ground := Go.Ground.guard }], guard := some (13, false) }) rfl (by rfl) (fun K hK => ?_) ?_
                            · go_simp
                              refine (held_any (HP6.out.grow hS) HPO.out).mono ?_
                              rintro e w7 ⟨rfl, hb7⟩
                              rw [CH.out]
                              refine hK.out _ _ ?_ (fun hS => ?_)
                              · exact hS.trans (hb7.mono hS.size)
                              clear hK K
                              try simp only [Act.put, List.setIfInBounds_toArray, List.set_cons_zero, List.set_cons_succ]
                              clear hb7
                              refine wpAnyF_ready (rs := [17]) (by kernel_rfl) (by simp) ?_
                              refine AllReadyF.cons (o := { dst := some 140, op := Go.Op.call { callee := Go.Callee.value (Go.Operand.func 24), args := #[Go.Operand.tmp 139], argTypes := #[23] }, type := 2, pos := "law.go:168", after := #[{ on := 16, ground := Go.Ground.data }, { on := 15, ground := Go.Ground.chain }, { on := 13, ground := Go.Ground.guard }], guard := some (13, false) }) rfl (by rfl) (fun K hK => ?_) ?_
                              · go_simp
                                refine (spent_any (HP6.out.grow hS)).mono ?_
                                rintro e w7 ⟨rfl, hw7⟩
                                rw [hw7]
                                clear hw7
                                rw [CS.out]
                                refine hK.out _ _ ?_ (fun hS => ?_)
                                · exact hS
                                clear hK K
                                try simp only [Act.put, List.setIfInBounds_toArray, List.set_cons_zero, List.set_cons_succ]
                                refine wpAnyF_take (i := 18) (oi := { dst := some 141, op := Go.Op.binOp Go.BinOp.add 2 (Go.Operand.tmp 138) (Go.Operand.tmp 140) 2, type := 2, pos := "law.go:168", after := #[{ on := 15, ground := Go.Ground.data }, { on := 17, ground := Go.Ground.data }, { on := 13, ground := Go.Ground.guard }], guard := some (13, false) }) (v := ?_) rfl (by kernel_rfl) (by kernel_rfl) (by kernel_rfl) (by kernel_rfl) (fun _ _ _ h => h) (Or.inl ⟨by rfl, ?_⟩) hS ?_
                                rotate_left
                                · intro w' hSw; have q0 := (hSw.cell (p := ⟨w2.heap.size, 0, none⟩) lx6).trans x6; go_simp; try with_reducible rfl
                                try simp only [Act.put, List.setIfInBounds_toArray, List.set_cons_zero, List.set_cons_succ]
                                refine wpAnyF_ready (rs := [20]) (by kernel_rfl) (by simp) ?_
                                refine AllReadyF.cons (o := { dst := some 143, op := Go.Op.call { callee := Go.Callee.value (Go.Operand.func 25), args := #[Go.Operand.tmp 142], argTypes := #[23] }, type := 2, pos := "law.go:168", after := #[{ on := 19, ground := Go.Ground.data }, { on := 17, ground := Go.Ground.chain }, { on := 13, ground := Go.Ground.guard }], guard := some (13, false) }) rfl (by rfl) (fun K hK => ?_) ?_
                                · go_simp
                                  refine (budget_any (HP6.out.grow hS)).mono ?_
                                  rintro e w7 ⟨rfl, hw7⟩
                                  rw [hw7]
                                  clear hw7
                                  rw [CB.out]
                                  refine hK.out _ _ ?_ (fun hS => ?_)
                                  · exact hS
                                  clear hK K
                                  try simp only [Act.put, List.setIfInBounds_toArray, List.set_cons_zero, List.set_cons_succ]
                                  refine wpAnyF_take (i := 21) (oi := { dst := some 144, op := Go.Op.binOp Go.BinOp.gtr 2 (Go.Operand.tmp 141) (Go.Operand.tmp 143) 2, type := 4, pos := "law.go:168", after := #[{ on := 18, ground := Go.Ground.data }, { on := 20, ground := Go.Ground.data }, { on := 13, ground := Go.Ground.guard }], guard := some (13, false) }) (v := ?_) rfl (by kernel_rfl) (by kernel_rfl) (by kernel_rfl) (by kernel_rfl) (fun _ _ _ h => h) (Or.inl ⟨by rfl, ?_⟩) hS ?_
                                  rotate_left
                                  · intro w' hSw; have q0 := (hSw.cell (p := ⟨w2.heap.size, 0, none⟩) lx6).trans x6; go_simp; try with_reducible rfl
                                  try simp only [Act.put, List.setIfInBounds_toArray, List.set_cons_zero, List.set_cons_succ]
                                  refine wpAnyF_take (i := 22) (oi := { dst := some 145, op := Go.Op.pick (Go.Operand.tmp 136) (Go.Operand.const (Go.Value.bool true)) (Go.Operand.tmp 144), type := 4, pos := "law.go:168", after := #[{ on := 13, ground := Go.Ground.data }, { on := 21, ground := Go.Ground.data }], guard := none }) (v := ?_) rfl (by kernel_rfl) (by kernel_rfl) (by kernel_rfl) (by kernel_rfl) (fun _ _ _ h => h) (Or.inl ⟨by rfl, ?_⟩) hS ?_
                                  rotate_left
                                  · intro w' hSw; have q0 := (hSw.cell (p := ⟨w2.heap.size, 0, none⟩) lx6).trans x6; go_simp; try with_reducible rfl
                                  try simp only [Act.put, List.setIfInBounds_toArray, List.set_cons_zero, List.set_cons_succ]
                                  refine wpAnyF_take (i := 23) (oi := { dst := some 146, op := Go.Op.move (Go.Operand.tmp 145), type := 4, pos := "law.go:168", after := #[{ on := 22, ground := Go.Ground.data }, { on := 20, ground := Go.Ground.chain }], guard := none }) (v := ?_) rfl (by kernel_rfl) (by kernel_rfl) (by kernel_rfl) (by kernel_rfl) (fun _ _ _ h => h) (Or.inl ⟨by rfl, ?_⟩) hS ?_
                                  rotate_left
                                  · intro w' hSw; have q0 := (hSw.cell (p := ⟨w2.heap.size, 0, none⟩) lx6).trans x6; go_simp; try with_reducible rfl
                                  try simp only [Act.put, List.setIfInBounds_toArray, List.set_cons_zero, List.set_cons_succ]
                                  refine wpAnyF_take (i := 24) (oi := { dst := some 147, op := Go.Op.load 23 (Go.Operand.tmp 5), type := 23, pos := "law.go:168", after := #[{ on := 23, ground := Go.Ground.guard }], guard := some (23, false) }) (v := ?_) rfl (by kernel_rfl) (by kernel_rfl) (by kernel_rfl) (by kernel_rfl) (fun _ _ _ h => h) (Or.inl ⟨by rfl, ?_⟩) hS ?_
                                  rotate_left
                                  · intro w' hSw; have q0 := (hSw.cell (p := ⟨w2.heap.size, 0, none⟩) lx6).trans x6; go_simp; try with_reducible rfl
                                  try simp only [Act.put, List.setIfInBounds_toArray, List.set_cons_zero, List.set_cons_succ]
                                  refine wpAnyF_take (i := 26) (oi := { dst := some 149, op := Go.Op.load 23 (Go.Operand.tmp 5), type := 23, pos := "law.go:168", after := #[{ on := 23, ground := Go.Ground.guard }], guard := some (23, false) }) (v := ?_) rfl (by kernel_rfl) (by kernel_rfl) (by kernel_rfl) (by kernel_rfl) (fun _ _ _ h => h) (Or.inl ⟨by rfl, ?_⟩) hS ?_
                                  rotate_left
                                  · intro w' hSw; have q0 := (hSw.cell (p := ⟨w2.heap.size, 0, none⟩) lx6).trans x6; go_simp; try with_reducible rfl
                                  try simp only [Act.put, List.setIfInBounds_toArray, List.set_cons_zero, List.set_cons_succ]
                                  refine wpAnyF_take (i := 28) (oi := { dst := some 151, op := Go.Op.load 23 (Go.Operand.tmp 5), type := 23, pos := "law.go:168", after := #[{ on := 23, ground := Go.Ground.guard }], guard := some (23, false) }) (v := ?_) rfl (by kernel_rfl) (by kernel_rfl) (by kernel_rfl) (by kernel_rfl) (fun _ _ _ h => h) (Or.inl ⟨by rfl, ?_⟩) hS ?_
                                  rotate_left
                                  · intro w' hSw; have q0 := (hSw.cell (p := ⟨w2.heap.size, 0, none⟩) lx6).trans x6; go_simp; try with_reducible rfl
                                  try simp only [Act.put, List.setIfInBounds_toArray, List.set_cons_zero, List.set_cons_succ]
                                  refine wpAnyF_take (i := 31) (oi := { dst := some 154, op := Go.Op.load 23 (Go.Operand.tmp 5), type := 23, pos := "law.go:168", after := #[{ on := 23, ground := Go.Ground.guard }], guard := some (23, false) }) (v := ?_) rfl (by kernel_rfl) (by kernel_rfl) (by kernel_rfl) (by kernel_rfl) (fun _ _ _ h => h) (Or.inl ⟨by rfl, ?_⟩) hS ?_
                                  rotate_left
                                  · intro w' hSw; have q0 := (hSw.cell (p := ⟨w2.heap.size, 0, none⟩) lx6).trans x6; go_simp; try with_reducible rfl
                                  try simp only [Act.put, List.setIfInBounds_toArray, List.set_cons_zero, List.set_cons_succ]
                                  refine wpAnyF_ready (rs := [25]) (by kernel_rfl) (by simp) ?_
                                  refine AllReadyF.cons (o := { dst := some 148, op := Go.Op.call { callee := Go.Callee.value (Go.Operand.func 22), args := #[Go.Operand.tmp 147], argTypes := #[23] }, type := 2, pos := "law.go:168", after := #[{ on := 24, ground := Go.Ground.data }, { on := 23, ground := Go.Ground.chain }, { on := 23, ground := Go.Ground.guard }], guard := some (23, false) }) rfl (by rfl) (fun K hK => ?_) ?_
                                  · go_simp
                                    refine (free_any (HP6.out.grow hS) HPO.out).mono ?_
                                    rintro e w7 ⟨rfl, hb7⟩
                                    rw [CF.out]
                                    refine hK.out _ _ ?_ (fun hS => ?_)
                                    · exact hS.trans (hb7.mono hS.size)
                                    clear hK K
                                    try simp only [Act.put, List.setIfInBounds_toArray, List.set_cons_zero, List.set_cons_succ]
                                    clear hb7
                                    refine wpAnyF_ready (rs := [27]) (by kernel_rfl) (by simp) ?_
                                    refine AllReadyF.cons (o := { dst := some 150, op := Go.Op.call { callee := Go.Callee.value (Go.Operand.func 25), args := #[Go.Operand.tmp 149], argTypes := #[23] }, type := 2, pos := "law.go:168", after := #[{ on := 26, ground := Go.Ground.data }, { on := 25, ground := Go.Ground.chain }, { on := 23, ground := Go.Ground.guard }], guard := some (23, false) }) rfl (by rfl) (fun K hK => ?_) ?_
                                    · go_simp
                                      refine (budget_any (HP6.out.grow hS)).mono ?_
                                      rintro e w7 ⟨rfl, hw7⟩
                                      rw [hw7]
                                      clear hw7
                                      rw [CB.out]
                                      refine hK.out _ _ ?_ (fun hS => ?_)
                                      · exact hS
                                      clear hK K
                                      try simp only [Act.put, List.setIfInBounds_toArray, List.set_cons_zero, List.set_cons_succ]
                                      refine wpAnyF_ready (rs := [29]) (by kernel_rfl) (by simp) ?_
                                      refine AllReadyF.cons (o := { dst := some 152, op := Go.Op.call { callee := Go.Callee.value (Go.Operand.func 23), args := #[Go.Operand.tmp 151], argTypes := #[23] }, type := 2, pos := "law.go:168", after := #[{ on := 28, ground := Go.Ground.data }, { on := 27, ground := Go.Ground.chain }, { on := 23, ground := Go.Ground.guard }], guard := some (23, false) }) rfl (by rfl) (fun K hK => ?_) ?_
                                      · go_simp
                                        refine (held_any (HP6.out.grow hS) HPO.out).mono ?_
                                        rintro e w7 ⟨rfl, hb7⟩
                                        rw [CH.out]
                                        refine hK.out _ _ ?_ (fun hS => ?_)
                                        · exact hS.trans (hb7.mono hS.size)
                                        clear hK K
                                        try simp only [Act.put, List.setIfInBounds_toArray, List.set_cons_zero, List.set_cons_succ]
                                        clear hb7
                                        refine wpAnyF_take (i := 30) (oi := { dst := some 153, op := Go.Op.binOp Go.BinOp.sub 2 (Go.Operand.tmp 150) (Go.Operand.tmp 152) 2, type := 2, pos := "law.go:168", after := #[{ on := 27, ground := Go.Ground.data }, { on := 29, ground := Go.Ground.data }, { on := 23, ground := Go.Ground.guard }], guard := some (23, false) }) (v := ?_) rfl (by kernel_rfl) (by kernel_rfl) (by kernel_rfl) (by kernel_rfl) (fun _ _ _ h => h) (Or.inl ⟨by rfl, ?_⟩) hS ?_
                                        rotate_left
                                        · intro w' hSw; have q0 := (hSw.cell (p := ⟨w2.heap.size, 0, none⟩) lx6).trans x6; go_simp; try with_reducible rfl
                                        try simp only [Act.put, List.setIfInBounds_toArray, List.set_cons_zero, List.set_cons_succ]
                                        refine wpAnyF_ready (rs := [32]) (by kernel_rfl) (by simp) ?_
                                        refine AllReadyF.cons (o := { dst := some 155, op := Go.Op.call { callee := Go.Callee.value (Go.Operand.func 24), args := #[Go.Operand.tmp 154], argTypes := #[23] }, type := 2, pos := "law.go:168", after := #[{ on := 31, ground := Go.Ground.data }, { on := 29, ground := Go.Ground.chain }, { on := 23, ground := Go.Ground.guard }], guard := some (23, false) }) rfl (by rfl) (fun K hK => ?_) ?_
                                        · go_simp
                                          refine (spent_any (HP6.out.grow hS)).mono ?_
                                          rintro e w7 ⟨rfl, hw7⟩
                                          rw [hw7]
                                          clear hw7
                                          rw [CS.out]
                                          refine hK.out _ _ ?_ (fun hS => ?_)
                                          · exact hS
                                          clear hK K
                                          try simp only [Act.put, List.setIfInBounds_toArray, List.set_cons_zero, List.set_cons_succ]
                                          refine wpAnyF_take (i := 33) (oi := { dst := some 156, op := Go.Op.binOp Go.BinOp.sub 2 (Go.Operand.tmp 153) (Go.Operand.tmp 155) 2, type := 2, pos := "law.go:168", after := #[{ on := 30, ground := Go.Ground.data }, { on := 32, ground := Go.Ground.data }, { on := 23, ground := Go.Ground.guard }], guard := some (23, false) }) (v := ?_) rfl (by kernel_rfl) (by kernel_rfl) (by kernel_rfl) (by kernel_rfl) (fun _ _ _ h => h) (Or.inl ⟨by rfl, ?_⟩) hS ?_
                                          rotate_left
                                          · intro w' hSw; have q0 := (hSw.cell (p := ⟨w2.heap.size, 0, none⟩) lx6).trans x6; go_simp; try with_reducible rfl
                                          try simp only [Act.put, List.setIfInBounds_toArray, List.set_cons_zero, List.set_cons_succ]
                                          refine wpAnyF_take (i := 34) (oi := { dst := some 157, op := Go.Op.binOp Go.BinOp.neq 2 (Go.Operand.tmp 148) (Go.Operand.tmp 156) 2, type := 4, pos := "law.go:168", after := #[{ on := 25, ground := Go.Ground.data }, { on := 33, ground := Go.Ground.data }, { on := 23, ground := Go.Ground.guard }], guard := some (23, false) }) (v := ?_) rfl (by kernel_rfl) (by kernel_rfl) (by kernel_rfl) (by kernel_rfl) (fun _ _ _ h => h) (Or.inl ⟨by rfl, ?_⟩) hS ?_
                                          rotate_left
                                          · intro w' hSw; have q0 := (hSw.cell (p := ⟨w2.heap.size, 0, none⟩) lx6).trans x6; go_simp; try with_reducible rfl
                                          try simp only [Act.put, List.setIfInBounds_toArray, List.set_cons_zero, List.set_cons_succ]
                                          refine wpAnyF_take (i := 35) (oi := { dst := some 158, op := Go.Op.pick (Go.Operand.tmp 146) (Go.Operand.const (Go.Value.bool true)) (Go.Operand.tmp 157), type := 4, pos := "law.go:168", after := #[{ on := 23, ground := Go.Ground.data }, { on := 34, ground := Go.Ground.data }], guard := none }) (v := ?_) rfl (by kernel_rfl) (by kernel_rfl) (by kernel_rfl) (by kernel_rfl) (fun _ _ _ h => h) (Or.inl ⟨by rfl, ?_⟩) hS ?_
                                          rotate_left
                                          · intro w' hSw; have q0 := (hSw.cell (p := ⟨w2.heap.size, 0, none⟩) lx6).trans x6; go_simp; try with_reducible rfl
                                          try simp only [Act.put, List.setIfInBounds_toArray, List.set_cons_zero, List.set_cons_succ]
                                          refine wpAnyF_done (by kernel_rfl) (noPanic_normal ?_) _
                                          go_wp2_with fail
                                          go_roundw
                                          case rel => exact ⟨k + 1, _, by omega, by go_num, HA6.out.grow hS, HO6.out, HF6.out, HR6.out.grow hS, HX6.out.grow hS, HB6.out.trans (hS.mono HB6.out.size)⟩
                                          case measure => simp [intOf]; omega
                                        exact AllReadyF.nil
                                      exact AllReadyF.nil
                                    exact AllReadyF.nil
                                  exact AllReadyF.nil
                                exact AllReadyF.nil
                              exact AllReadyF.nil
                            exact AllReadyF.nil
                          exact AllReadyF.nil
                        exact AllReadyF.nil
                      exact AllReadyF.nil
                  · by_cases hk2 : s.kind = 2
                    · have hd1 : (en == 0) = false := by simpa using hz
                      have hd1n : (en != 0) = true := by simpa using hz
                      have hd2 : (s.kind == 2) = true := by simpa using hk2
                      have hcn : cn = false := by rw [HCN.out]; exact decide_eq_false fun h => hz ((HK2.out hk2).trans h)
                      subst hcn
                      clear hk2
                      have HA5 := Lib.hid (HN5.out hz)
                      have HO6 := HO
                      have HF6 := HF
                      clear hz
                      go_wp2_with fail
                      refine (same_live HA5.out HW5.out HO.out.rise HO.out.rise).mono ?_
                      rintro e w6 ⟨rfl, hb6⟩
                      rw [show sameB a a = true from same_eq.2 rfl]
                      have HA6 := Lib.hid (HA5.out.grow hb6)
                      have HR6 := Lib.hid (HR5.out.grow hb6)
                      have HX6 := Lib.hid (HX5.out.grow hb6)
                      have HB6 := Lib.hid (HB5.out.trans (hb6.mono HB5.out.size))
                      have x6 : w6.cell? ⟨w2.heap.size, 0, none⟩ = some (.pointer (some ⟨w1.heap.size + 1, 0, none⟩)) := HX6.out.cell 0
                      have y6 : w6.cell? ⟨wr.heap.size, 0, none⟩ = some (.int .i64 s.kind) := (HY5.out.grow hb6).cell 0
                      have lx6 := HX6.out.lt
                      have HP6 := Lib.hid (show AtP w6 (.pointer (some ⟨w1.heap.size + 1, 0, none⟩)) (.live a) from ⟨_, _, _, rfl, HA6.out⟩)
                      have HPO := Lib.hid (show (Fm.live a).Ok from HO6.out)
                      obtain ⟨cf0, cf1, ch0, ch1, cs0, cs1, cb0, cb1, _, _⟩ := bounds_of HO6.out HF6.out 0
                      have hcf : (Fm.live a).free = (a).bud - sumM (a).M - (a).sp := by show (a).bud - (a).sp - sumM (a).M = _; omega
                      obtain ⟨cb, hcb⟩ : ∃ z, z = (a).bud := ⟨_, rfl⟩
                      obtain ⟨ch, hch⟩ : ∃ z, z = sumM (a).M := ⟨_, rfl⟩
                      obtain ⟨cs, hcs⟩ : ∃ z, z = (a).sp := ⟨_, rfl⟩
                      rw [show (a).free = (Fm.live a).free from rfl, hcf] at cf0
                      rw [← hcb, ← hch, ← hcs] at hcf cf0
                      rw [← hch] at ch0 ch1
                      rw [← hcs] at cs0 cs1
                      rw [← hcb] at cb0 cb1
                      have CF := Lib.hid hcf
                      have CH := Lib.hid (show sumM (Fm.live a).M = ch from hch.symm)
                      have CS := Lib.hid (show (Fm.live a).sp = cs from hcs.symm)
                      have CB := Lib.hid (show (Fm.live a).bud = cb from hcb.symm)
                      have v1 : IntKind.i64.wrap (ch + cs) = ch + cs := IntWalk.i64_in _ (by omega)
                      have v2 : IntKind.i64.wrap (cb - ch) = cb - ch := IntWalk.i64_in _ (by omega)
                      have v3 : IntKind.i64.wrap (cb - ch - cs) = cb - ch - cs := IntWalk.i64_in _ (by omega)
                      have d1 : decide (cb - ch - cs < 0) = false := by simp; omega
                      have d2 : decide (ch < 0) = false := by simp; omega
                      have d3 : decide (cs < 0) = false := by simp; omega
                      have d4 : decide (ch + cs > cb) = false := by simp; omega
                      have d4' : decide (cb < ch + cs) = false := by simp; omega
                      have hsz6 := HB6.out.size
                      clear hb6 hcf hcb hch hcs cf0 cf1 ch0 ch1 cs0 cs1 cb0 cb1
                      go_wp2_with fail
                      refine wp_region_P (Below w6.heap.size w6) [] (by kernel_rfl) ((Below.refl _ _).drew) (fun hS => ?_)
                      refine wpAnyF_take (i := 0) (oi := { dst := some 123, op := Go.Op.load 23 (Go.Operand.tmp 5), type := 23, pos := "law.go:168", after := #[], guard := none }) (v := ?_) rfl (by kernel_rfl) (by kernel_rfl) (by kernel_rfl) (by kernel_rfl) (fun _ _ _ h => h) (Or.inl ⟨by rfl, ?_⟩) hS ?_
                      rotate_left
                      · intro w' hSw; have q0 := (hSw.cell (p := ⟨w2.heap.size, 0, none⟩) lx6).trans x6; go_simp; try with_reducible rfl
                      try simp only [Act.put, List.setIfInBounds_toArray, List.set_cons_zero, List.set_cons_succ]
                      refine wpAnyF_ready (rs := [1]) (by kernel_rfl) (by simp) ?_
                      refine AllReadyF.cons (o := { dst := some 124, op := Go.Op.call { callee := Go.Callee.value (Go.Operand.func 22), args := #[Go.Operand.tmp 123], argTypes := #[23] }, type := 2, pos := "law.go:168", after := #[{ on := 0, ground := Go.Ground.data }], guard := none }) rfl (by rfl) (fun K hK => ?_) ?_
                      · go_simp
                        refine (free_any (HP6.out.grow hS) HPO.out).mono ?_
                        rintro e w7 ⟨rfl, hb7⟩
                        rw [CF.out]
                        refine hK.out _ _ ?_ (fun hS => ?_)
                        · exact hS.trans (hb7.mono hS.size)
                        clear hK K
                        try simp only [Act.put, List.setIfInBounds_toArray, List.set_cons_zero, List.set_cons_succ]
                        clear hb7
                        refine wpAnyF_take (i := 2) (oi := { dst := some 125, op := Go.Op.binOp Go.BinOp.lss 2 (Go.Operand.tmp 124) (Go.Operand.const (Go.Value.int Go.IntKind.i64 0)) 2, type := 4, pos := "law.go:168", after := #[{ on := 1, ground := Go.Ground.data }], guard := none }) (v := ?_) rfl (by kernel_rfl) (by kernel_rfl) (by kernel_rfl) (by kernel_rfl) (fun _ _ _ h => h) (Or.inl ⟨by rfl, ?_⟩) hS ?_
                        rotate_left
                        · intro w' hSw; have q0 := (hSw.cell (p := ⟨w2.heap.size, 0, none⟩) lx6).trans x6; go_simp; try with_reducible rfl
                        try simp only [Act.put, List.setIfInBounds_toArray, List.set_cons_zero, List.set_cons_succ]
                        refine wpAnyF_take (i := 3) (oi := { dst := some 126, op := Go.Op.move (Go.Operand.tmp 125), type := 4, pos := "law.go:168", after := #[{ on := 2, ground := Go.Ground.data }, { on := 1, ground := Go.Ground.chain }], guard := none }) (v := ?_) rfl (by kernel_rfl) (by kernel_rfl) (by kernel_rfl) (by kernel_rfl) (fun _ _ _ h => h) (Or.inl ⟨by rfl, ?_⟩) hS ?_
                        rotate_left
                        · intro w' hSw; have q0 := (hSw.cell (p := ⟨w2.heap.size, 0, none⟩) lx6).trans x6; go_simp; try with_reducible rfl
                        try simp only [Act.put, List.setIfInBounds_toArray, List.set_cons_zero, List.set_cons_succ]
                        refine wpAnyF_take (i := 4) (oi := { dst := some 127, op := Go.Op.load 23 (Go.Operand.tmp 5), type := 23, pos := "law.go:168", after := #[{ on := 3, ground := Go.Ground.guard }], guard := some (3, false) }) (v := ?_) rfl (by kernel_rfl) (by kernel_rfl) (by kernel_rfl) (by kernel_rfl) (fun _ _ _ h => h) (Or.inl ⟨by rfl, ?_⟩) hS ?_
                        rotate_left
                        · intro w' hSw; have q0 := (hSw.cell (p := ⟨w2.heap.size, 0, none⟩) lx6).trans x6; go_simp; try with_reducible rfl
                        try simp only [Act.put, List.setIfInBounds_toArray, List.set_cons_zero, List.set_cons_succ]
                        refine wpAnyF_ready (rs := [5]) (by kernel_rfl) (by simp) ?_
                        refine AllReadyF.cons (o := { dst := some 128, op := Go.Op.call { callee := Go.Callee.value (Go.Operand.func 23), args := #[Go.Operand.tmp 127], argTypes := #[23] }, type := 2, pos := "law.go:168", after := #[{ on := 4, ground := Go.Ground.data }, { on := 3, ground := Go.Ground.chain }, { on := 3, ground := Go.Ground.guard }], guard := some (3, false) }) rfl (by rfl) (fun K hK => ?_) ?_
                        · go_simp
                          refine (held_any (HP6.out.grow hS) HPO.out).mono ?_
                          rintro e w7 ⟨rfl, hb7⟩
                          rw [CH.out]
                          refine hK.out _ _ ?_ (fun hS => ?_)
                          · exact hS.trans (hb7.mono hS.size)
                          clear hK K
                          try simp only [Act.put, List.setIfInBounds_toArray, List.set_cons_zero, List.set_cons_succ]
                          clear hb7
                          refine wpAnyF_take (i := 6) (oi := { dst := some 129, op := Go.Op.binOp Go.BinOp.lss 2 (Go.Operand.tmp 128) (Go.Operand.const (Go.Value.int Go.IntKind.i64 0)) 2, type := 4, pos := "law.go:168", after := #[{ on := 5, ground := Go.Ground.data }, { on := 3, ground := Go.Ground.guard }], guard := some (3, false) }) (v := ?_) rfl (by kernel_rfl) (by kernel_rfl) (by kernel_rfl) (by kernel_rfl) (fun _ _ _ h => h) (Or.inl ⟨by rfl, ?_⟩) hS ?_
                          rotate_left
                          · intro w' hSw; have q0 := (hSw.cell (p := ⟨w2.heap.size, 0, none⟩) lx6).trans x6; go_simp; try with_reducible rfl
                          try simp only [Act.put, List.setIfInBounds_toArray, List.set_cons_zero, List.set_cons_succ]
                          refine wpAnyF_take (i := 7) (oi := { dst := some 130, op := Go.Op.pick (Go.Operand.tmp 126) (Go.Operand.const (Go.Value.bool true)) (Go.Operand.tmp 129), type := 4, pos := "law.go:168", after := #[{ on := 3, ground := Go.Ground.data }, { on := 6, ground := Go.Ground.data }], guard := none }) (v := ?_) rfl (by kernel_rfl) (by kernel_rfl) (by kernel_rfl) (by kernel_rfl) (fun _ _ _ h => h) (Or.inl ⟨by rfl, ?_⟩) hS ?_
                          rotate_left
                          · intro w' hSw; have q0 := (hSw.cell (p := ⟨w2.heap.size, 0, none⟩) lx6).trans x6; go_simp; try with_reducible rfl
                          try simp only [Act.put, List.setIfInBounds_toArray, List.set_cons_zero, List.set_cons_succ]
                          refine wpAnyF_take (i := 8) (oi := { dst := some 131, op := Go.Op.move (Go.Operand.tmp 130), type := 4, pos := "law.go:168", after := #[{ on := 7, ground := Go.Ground.data }, { on := 5, ground := Go.Ground.chain }], guard := none }) (v := ?_) rfl (by kernel_rfl) (by kernel_rfl) (by kernel_rfl) (by kernel_rfl) (fun _ _ _ h => h) (Or.inl ⟨by rfl, ?_⟩) hS ?_
                          rotate_left
                          · intro w' hSw; have q0 := (hSw.cell (p := ⟨w2.heap.size, 0, none⟩) lx6).trans x6; go_simp; try with_reducible rfl
                          try simp only [Act.put, List.setIfInBounds_toArray, List.set_cons_zero, List.set_cons_succ]
                          refine wpAnyF_take (i := 9) (oi := { dst := some 132, op := Go.Op.load 23 (Go.Operand.tmp 5), type := 23, pos := "law.go:168", after := #[{ on := 8, ground := Go.Ground.guard }], guard := some (8, false) }) (v := ?_) rfl (by kernel_rfl) (by kernel_rfl) (by kernel_rfl) (by kernel_rfl) (fun _ _ _ h => h) (Or.inl ⟨by rfl, ?_⟩) hS ?_
                          rotate_left
                          · intro w' hSw; have q0 := (hSw.cell (p := ⟨w2.heap.size, 0, none⟩) lx6).trans x6; go_simp; try with_reducible rfl
                          try simp only [Act.put, List.setIfInBounds_toArray, List.set_cons_zero, List.set_cons_succ]
                          refine wpAnyF_ready (rs := [10]) (by kernel_rfl) (by simp) ?_
                          refine AllReadyF.cons (o := { dst := some 133, op := Go.Op.call { callee := Go.Callee.value (Go.Operand.func 24), args := #[Go.Operand.tmp 132], argTypes := #[23] }, type := 2, pos := "law.go:168", after := #[{ on := 9, ground := Go.Ground.data }, { on := 8, ground := Go.Ground.chain }, { on := 8, ground := Go.Ground.guard }], guard := some (8, false) }) rfl (by rfl) (fun K hK => ?_) ?_
                          · go_simp
                            refine (spent_any (HP6.out.grow hS)).mono ?_
                            rintro e w7 ⟨rfl, hw7⟩
                            rw [hw7]
                            clear hw7
                            rw [CS.out]
                            refine hK.out _ _ ?_ (fun hS => ?_)
                            · exact hS
                            clear hK K
                            try simp only [Act.put, List.setIfInBounds_toArray, List.set_cons_zero, List.set_cons_succ]
                            refine wpAnyF_take (i := 11) (oi := { dst := some 134, op := Go.Op.binOp Go.BinOp.lss 2 (Go.Operand.tmp 133) (Go.Operand.const (Go.Value.int Go.IntKind.i64 0)) 2, type := 4, pos := "law.go:168", after := #[{ on := 10, ground := Go.Ground.data }, { on := 8, ground := Go.Ground.guard }], guard := some (8, false) }) (v := ?_) rfl (by kernel_rfl) (by kernel_rfl) (by kernel_rfl) (by kernel_rfl) (fun _ _ _ h => h) (Or.inl ⟨by rfl, ?_⟩) hS ?_
                            rotate_left
                            · intro w' hSw; have q0 := (hSw.cell (p := ⟨w2.heap.size, 0, none⟩) lx6).trans x6; go_simp; try with_reducible rfl
                            try simp only [Act.put, List.setIfInBounds_toArray, List.set_cons_zero, List.set_cons_succ]
                            refine wpAnyF_take (i := 12) (oi := { dst := some 135, op := Go.Op.pick (Go.Operand.tmp 131) (Go.Operand.const (Go.Value.bool true)) (Go.Operand.tmp 134), type := 4, pos := "law.go:168", after := #[{ on := 8, ground := Go.Ground.data }, { on := 11, ground := Go.Ground.data }], guard := none }) (v := ?_) rfl (by kernel_rfl) (by kernel_rfl) (by kernel_rfl) (by kernel_rfl) (fun _ _ _ h => h) (Or.inl ⟨by rfl, ?_⟩) hS ?_
                            rotate_left
                            · intro w' hSw; have q0 := (hSw.cell (p := ⟨w2.heap.size, 0, none⟩) lx6).trans x6; go_simp; try with_reducible rfl
                            try simp only [Act.put, List.setIfInBounds_toArray, List.set_cons_zero, List.set_cons_succ]
                            refine wpAnyF_take (i := 13) (oi := { dst := some 136, op := Go.Op.move (Go.Operand.tmp 135), type := 4, pos := "law.go:168", after := #[{ on := 12, ground := Go.Ground.data }, { on := 10, ground := Go.Ground.chain }], guard := none }) (v := ?_) rfl (by kernel_rfl) (by kernel_rfl) (by kernel_rfl) (by kernel_rfl) (fun _ _ _ h => h) (Or.inl ⟨by rfl, ?_⟩) hS ?_
                            rotate_left
                            · intro w' hSw; have q0 := (hSw.cell (p := ⟨w2.heap.size, 0, none⟩) lx6).trans x6; go_simp; try with_reducible rfl
                            try simp only [Act.put, List.setIfInBounds_toArray, List.set_cons_zero, List.set_cons_succ]
                            refine wpAnyF_take (i := 14) (oi := { dst := some 137, op := Go.Op.load 23 (Go.Operand.tmp 5), type := 23, pos := "law.go:168", after := #[{ on := 13, ground := Go.Ground.guard }], guard := some (13, false) }) (v := ?_) rfl (by kernel_rfl) (by kernel_rfl) (by kernel_rfl) (by kernel_rfl) (fun _ _ _ h => h) (Or.inl ⟨by rfl, ?_⟩) hS ?_
                            rotate_left
                            · intro w' hSw; have q0 := (hSw.cell (p := ⟨w2.heap.size, 0, none⟩) lx6).trans x6; go_simp; try with_reducible rfl
                            try simp only [Act.put, List.setIfInBounds_toArray, List.set_cons_zero, List.set_cons_succ]
                            refine wpAnyF_take (i := 16) (oi := { dst := some 139, op := Go.Op.load 23 (Go.Operand.tmp 5), type := 23, pos := "law.go:168", after := #[{ on := 13, ground := Go.Ground.guard }], guard := some (13, false) }) (v := ?_) rfl (by kernel_rfl) (by kernel_rfl) (by kernel_rfl) (by kernel_rfl) (fun _ _ _ h => h) (Or.inl ⟨by rfl, ?_⟩) hS ?_
                            rotate_left
                            · intro w' hSw; have q0 := (hSw.cell (p := ⟨w2.heap.size, 0, none⟩) lx6).trans x6; go_simp; try with_reducible rfl
                            try simp only [Act.put, List.setIfInBounds_toArray, List.set_cons_zero, List.set_cons_succ]
                            refine wpAnyF_take (i := 19) (oi := { dst := some 142, op := Go.Op.load 23 (Go.Operand.tmp 5), type := 23, pos := "law.go:168", after := #[{ on := 13, ground := Go.Ground.guard }], guard := some (13, false) }) (v := ?_) rfl (by kernel_rfl) (by kernel_rfl) (by kernel_rfl) (by kernel_rfl) (fun _ _ _ h => h) (Or.inl ⟨by rfl, ?_⟩) hS ?_
                            rotate_left
                            · intro w' hSw; have q0 := (hSw.cell (p := ⟨w2.heap.size, 0, none⟩) lx6).trans x6; go_simp; try with_reducible rfl
                            try simp only [Act.put, List.setIfInBounds_toArray, List.set_cons_zero, List.set_cons_succ]
                            refine wpAnyF_ready (rs := [15]) (by kernel_rfl) (by simp) ?_
                            refine AllReadyF.cons (o := { dst := some 138, op := Go.Op.call { callee := Go.Callee.value (Go.Operand.func 23), args := #[Go.Operand.tmp 137], argTypes := #[23] }, type := 2, pos := "law.go:168", after := #[{ on := 14, ground := Go.Ground.data }, { on := 13, ground := Go.Ground.chain }, { on := 13, ground := Go.Ground.guard }], guard := some (13, false) }) rfl (by rfl) (fun K hK => ?_) ?_
                            · go_simp
                              refine (held_any (HP6.out.grow hS) HPO.out).mono ?_
                              rintro e w7 ⟨rfl, hb7⟩
                              rw [CH.out]
                              refine hK.out _ _ ?_ (fun hS => ?_)
                              · exact hS.trans (hb7.mono hS.size)
                              clear hK K
                              try simp only [Act.put, List.setIfInBounds_toArray, List.set_cons_zero, List.set_cons_succ]
                              clear hb7
                              refine wpAnyF_ready (rs := [17]) (by kernel_rfl) (by simp) ?_
                              refine AllReadyF.cons (o := { dst := some 140, op := Go.Op.call { callee := Go.Callee.value (Go.Operand.func 24), args := #[Go.Operand.tmp 139], argTypes := #[23] }, type := 2, pos := "law.go:168", after := #[{ on := 16, ground := Go.Ground.data }, { on := 15, ground := Go.Ground.chain }, { on := 13, ground := Go.Ground.guard }], guard := some (13, false) }) rfl (by rfl) (fun K hK => ?_) ?_
                              · go_simp
                                refine (spent_any (HP6.out.grow hS)).mono ?_
                                rintro e w7 ⟨rfl, hw7⟩
                                rw [hw7]
                                clear hw7
                                rw [CS.out]
                                refine hK.out _ _ ?_ (fun hS => ?_)
                                · exact hS
                                clear hK K
                                try simp only [Act.put, List.setIfInBounds_toArray, List.set_cons_zero, List.set_cons_succ]
                                refine wpAnyF_take (i := 18) (oi := { dst := some 141, op := Go.Op.binOp Go.BinOp.add 2 (Go.Operand.tmp 138) (Go.Operand.tmp 140) 2, type := 2, pos := "law.go:168", after := #[{ on := 15, ground := Go.Ground.data }, { on := 17, ground := Go.Ground.data }, { on := 13, ground := Go.Ground.guard }], guard := some (13, false) }) (v := ?_) rfl (by kernel_rfl) (by kernel_rfl) (by kernel_rfl) (by kernel_rfl) (fun _ _ _ h => h) (Or.inl ⟨by rfl, ?_⟩) hS ?_
                                rotate_left
                                · intro w' hSw; have q0 := (hSw.cell (p := ⟨w2.heap.size, 0, none⟩) lx6).trans x6; go_simp; try with_reducible rfl
                                try simp only [Act.put, List.setIfInBounds_toArray, List.set_cons_zero, List.set_cons_succ]
                                refine wpAnyF_ready (rs := [20]) (by kernel_rfl) (by simp) ?_
                                refine AllReadyF.cons (o := { dst := some 143, op := Go.Op.call { callee := Go.Callee.value (Go.Operand.func 25), args := #[Go.Operand.tmp 142], argTypes := #[23] }, type := 2, pos := "law.go:168", after := #[{ on := 19, ground := Go.Ground.data }, { on := 17, ground := Go.Ground.chain }, { on := 13, ground := Go.Ground.guard }], guard := some (13, false) }) rfl (by rfl) (fun K hK => ?_) ?_
                                · go_simp
                                  refine (budget_any (HP6.out.grow hS)).mono ?_
                                  rintro e w7 ⟨rfl, hw7⟩
                                  rw [hw7]
                                  clear hw7
                                  rw [CB.out]
                                  refine hK.out _ _ ?_ (fun hS => ?_)
                                  · exact hS
                                  clear hK K
                                  try simp only [Act.put, List.setIfInBounds_toArray, List.set_cons_zero, List.set_cons_succ]
                                  refine wpAnyF_take (i := 21) (oi := { dst := some 144, op := Go.Op.binOp Go.BinOp.gtr 2 (Go.Operand.tmp 141) (Go.Operand.tmp 143) 2, type := 4, pos := "law.go:168", after := #[{ on := 18, ground := Go.Ground.data }, { on := 20, ground := Go.Ground.data }, { on := 13, ground := Go.Ground.guard }], guard := some (13, false) }) (v := ?_) rfl (by kernel_rfl) (by kernel_rfl) (by kernel_rfl) (by kernel_rfl) (fun _ _ _ h => h) (Or.inl ⟨by rfl, ?_⟩) hS ?_
                                  rotate_left
                                  · intro w' hSw; have q0 := (hSw.cell (p := ⟨w2.heap.size, 0, none⟩) lx6).trans x6; go_simp; try with_reducible rfl
                                  try simp only [Act.put, List.setIfInBounds_toArray, List.set_cons_zero, List.set_cons_succ]
                                  refine wpAnyF_take (i := 22) (oi := { dst := some 145, op := Go.Op.pick (Go.Operand.tmp 136) (Go.Operand.const (Go.Value.bool true)) (Go.Operand.tmp 144), type := 4, pos := "law.go:168", after := #[{ on := 13, ground := Go.Ground.data }, { on := 21, ground := Go.Ground.data }], guard := none }) (v := ?_) rfl (by kernel_rfl) (by kernel_rfl) (by kernel_rfl) (by kernel_rfl) (fun _ _ _ h => h) (Or.inl ⟨by rfl, ?_⟩) hS ?_
                                  rotate_left
                                  · intro w' hSw; have q0 := (hSw.cell (p := ⟨w2.heap.size, 0, none⟩) lx6).trans x6; go_simp; try with_reducible rfl
                                  try simp only [Act.put, List.setIfInBounds_toArray, List.set_cons_zero, List.set_cons_succ]
                                  refine wpAnyF_take (i := 23) (oi := { dst := some 146, op := Go.Op.move (Go.Operand.tmp 145), type := 4, pos := "law.go:168", after := #[{ on := 22, ground := Go.Ground.data }, { on := 20, ground := Go.Ground.chain }], guard := none }) (v := ?_) rfl (by kernel_rfl) (by kernel_rfl) (by kernel_rfl) (by kernel_rfl) (fun _ _ _ h => h) (Or.inl ⟨by rfl, ?_⟩) hS ?_
                                  rotate_left
                                  · intro w' hSw; have q0 := (hSw.cell (p := ⟨w2.heap.size, 0, none⟩) lx6).trans x6; go_simp; try with_reducible rfl
                                  try simp only [Act.put, List.setIfInBounds_toArray, List.set_cons_zero, List.set_cons_succ]
                                  refine wpAnyF_take (i := 24) (oi := { dst := some 147, op := Go.Op.load 23 (Go.Operand.tmp 5), type := 23, pos := "law.go:168", after := #[{ on := 23, ground := Go.Ground.guard }], guard := some (23, false) }) (v := ?_) rfl (by kernel_rfl) (by kernel_rfl) (by kernel_rfl) (by kernel_rfl) (fun _ _ _ h => h) (Or.inl ⟨by rfl, ?_⟩) hS ?_
                                  rotate_left
                                  · intro w' hSw; have q0 := (hSw.cell (p := ⟨w2.heap.size, 0, none⟩) lx6).trans x6; go_simp; try with_reducible rfl
                                  try simp only [Act.put, List.setIfInBounds_toArray, List.set_cons_zero, List.set_cons_succ]
                                  refine wpAnyF_take (i := 26) (oi := { dst := some 149, op := Go.Op.load 23 (Go.Operand.tmp 5), type := 23, pos := "law.go:168", after := #[{ on := 23, ground := Go.Ground.guard }], guard := some (23, false) }) (v := ?_) rfl (by kernel_rfl) (by kernel_rfl) (by kernel_rfl) (by kernel_rfl) (fun _ _ _ h => h) (Or.inl ⟨by rfl, ?_⟩) hS ?_
                                  rotate_left
                                  · intro w' hSw; have q0 := (hSw.cell (p := ⟨w2.heap.size, 0, none⟩) lx6).trans x6; go_simp; try with_reducible rfl
                                  try simp only [Act.put, List.setIfInBounds_toArray, List.set_cons_zero, List.set_cons_succ]
                                  refine wpAnyF_take (i := 28) (oi := { dst := some 151, op := Go.Op.load 23 (Go.Operand.tmp 5), type := 23, pos := "law.go:168", after := #[{ on := 23, ground := Go.Ground.guard }], guard := some (23, false) }) (v := ?_) rfl (by kernel_rfl) (by kernel_rfl) (by kernel_rfl) (by kernel_rfl) (fun _ _ _ h => h) (Or.inl ⟨by rfl, ?_⟩) hS ?_
                                  rotate_left
                                  · intro w' hSw; have q0 := (hSw.cell (p := ⟨w2.heap.size, 0, none⟩) lx6).trans x6; go_simp; try with_reducible rfl
                                  try simp only [Act.put, List.setIfInBounds_toArray, List.set_cons_zero, List.set_cons_succ]
                                  refine wpAnyF_take (i := 31) (oi := { dst := some 154, op := Go.Op.load 23 (Go.Operand.tmp 5), type := 23, pos := "law.go:168", after := #[{ on := 23, ground := Go.Ground.guard }], guard := some (23, false) }) (v := ?_) rfl (by kernel_rfl) (by kernel_rfl) (by kernel_rfl) (by kernel_rfl) (fun _ _ _ h => h) (Or.inl ⟨by rfl, ?_⟩) hS ?_
                                  rotate_left
                                  · intro w' hSw; have q0 := (hSw.cell (p := ⟨w2.heap.size, 0, none⟩) lx6).trans x6; go_simp; try with_reducible rfl
                                  try simp only [Act.put, List.setIfInBounds_toArray, List.set_cons_zero, List.set_cons_succ]
                                  refine wpAnyF_ready (rs := [25]) (by kernel_rfl) (by simp) ?_
                                  refine AllReadyF.cons (o := { dst := some 148, op := Go.Op.call { callee := Go.Callee.value (Go.Operand.func 22), args := #[Go.Operand.tmp 147], argTypes := #[23] }, type := 2, pos := "law.go:168", after := #[{ on := 24, ground := Go.Ground.data }, { on := 23, ground := Go.Ground.chain }, { on := 23, ground := Go.Ground.guard }], guard := some (23, false) }) rfl (by rfl) (fun K hK => ?_) ?_
                                  · go_simp
                                    refine (free_any (HP6.out.grow hS) HPO.out).mono ?_
                                    rintro e w7 ⟨rfl, hb7⟩
                                    rw [CF.out]
                                    refine hK.out _ _ ?_ (fun hS => ?_)
                                    · exact hS.trans (hb7.mono hS.size)
                                    clear hK K
                                    try simp only [Act.put, List.setIfInBounds_toArray, List.set_cons_zero, List.set_cons_succ]
                                    clear hb7
                                    refine wpAnyF_ready (rs := [27]) (by kernel_rfl) (by simp) ?_
                                    refine AllReadyF.cons (o := { dst := some 150, op := Go.Op.call { callee := Go.Callee.value (Go.Operand.func 25), args := #[Go.Operand.tmp 149], argTypes := #[23] }, type := 2, pos := "law.go:168", after := #[{ on := 26, ground := Go.Ground.data }, { on := 25, ground := Go.Ground.chain }, { on := 23, ground := Go.Ground.guard }], guard := some (23, false) }) rfl (by rfl) (fun K hK => ?_) ?_
                                    · go_simp
                                      refine (budget_any (HP6.out.grow hS)).mono ?_
                                      rintro e w7 ⟨rfl, hw7⟩
                                      rw [hw7]
                                      clear hw7
                                      rw [CB.out]
                                      refine hK.out _ _ ?_ (fun hS => ?_)
                                      · exact hS
                                      clear hK K
                                      try simp only [Act.put, List.setIfInBounds_toArray, List.set_cons_zero, List.set_cons_succ]
                                      refine wpAnyF_ready (rs := [29]) (by kernel_rfl) (by simp) ?_
                                      refine AllReadyF.cons (o := { dst := some 152, op := Go.Op.call { callee := Go.Callee.value (Go.Operand.func 23), args := #[Go.Operand.tmp 151], argTypes := #[23] }, type := 2, pos := "law.go:168", after := #[{ on := 28, ground := Go.Ground.data }, { on := 27, ground := Go.Ground.chain }, { on := 23, ground := Go.Ground.guard }], guard := some (23, false) }) rfl (by rfl) (fun K hK => ?_) ?_
                                      · go_simp
                                        refine (held_any (HP6.out.grow hS) HPO.out).mono ?_
                                        rintro e w7 ⟨rfl, hb7⟩
                                        rw [CH.out]
                                        refine hK.out _ _ ?_ (fun hS => ?_)
                                        · exact hS.trans (hb7.mono hS.size)
                                        clear hK K
                                        try simp only [Act.put, List.setIfInBounds_toArray, List.set_cons_zero, List.set_cons_succ]
                                        clear hb7
                                        refine wpAnyF_take (i := 30) (oi := { dst := some 153, op := Go.Op.binOp Go.BinOp.sub 2 (Go.Operand.tmp 150) (Go.Operand.tmp 152) 2, type := 2, pos := "law.go:168", after := #[{ on := 27, ground := Go.Ground.data }, { on := 29, ground := Go.Ground.data }, { on := 23, ground := Go.Ground.guard }], guard := some (23, false) }) (v := ?_) rfl (by kernel_rfl) (by kernel_rfl) (by kernel_rfl) (by kernel_rfl) (fun _ _ _ h => h) (Or.inl ⟨by rfl, ?_⟩) hS ?_
                                        rotate_left
                                        · intro w' hSw; have q0 := (hSw.cell (p := ⟨w2.heap.size, 0, none⟩) lx6).trans x6; go_simp; try with_reducible rfl
                                        try simp only [Act.put, List.setIfInBounds_toArray, List.set_cons_zero, List.set_cons_succ]
                                        refine wpAnyF_ready (rs := [32]) (by kernel_rfl) (by simp) ?_
                                        refine AllReadyF.cons (o := { dst := some 155, op := Go.Op.call { callee := Go.Callee.value (Go.Operand.func 24), args := #[Go.Operand.tmp 154], argTypes := #[23] }, type := 2, pos := "law.go:168", after := #[{ on := 31, ground := Go.Ground.data }, { on := 29, ground := Go.Ground.chain }, { on := 23, ground := Go.Ground.guard }], guard := some (23, false) }) rfl (by rfl) (fun K hK => ?_) ?_
                                        · go_simp
                                          refine (spent_any (HP6.out.grow hS)).mono ?_
                                          rintro e w7 ⟨rfl, hw7⟩
                                          rw [hw7]
                                          clear hw7
                                          rw [CS.out]
                                          refine hK.out _ _ ?_ (fun hS => ?_)
                                          · exact hS
                                          clear hK K
                                          try simp only [Act.put, List.setIfInBounds_toArray, List.set_cons_zero, List.set_cons_succ]
                                          refine wpAnyF_take (i := 33) (oi := { dst := some 156, op := Go.Op.binOp Go.BinOp.sub 2 (Go.Operand.tmp 153) (Go.Operand.tmp 155) 2, type := 2, pos := "law.go:168", after := #[{ on := 30, ground := Go.Ground.data }, { on := 32, ground := Go.Ground.data }, { on := 23, ground := Go.Ground.guard }], guard := some (23, false) }) (v := ?_) rfl (by kernel_rfl) (by kernel_rfl) (by kernel_rfl) (by kernel_rfl) (fun _ _ _ h => h) (Or.inl ⟨by rfl, ?_⟩) hS ?_
                                          rotate_left
                                          · intro w' hSw; have q0 := (hSw.cell (p := ⟨w2.heap.size, 0, none⟩) lx6).trans x6; go_simp; try with_reducible rfl
                                          try simp only [Act.put, List.setIfInBounds_toArray, List.set_cons_zero, List.set_cons_succ]
                                          refine wpAnyF_take (i := 34) (oi := { dst := some 157, op := Go.Op.binOp Go.BinOp.neq 2 (Go.Operand.tmp 148) (Go.Operand.tmp 156) 2, type := 4, pos := "law.go:168", after := #[{ on := 25, ground := Go.Ground.data }, { on := 33, ground := Go.Ground.data }, { on := 23, ground := Go.Ground.guard }], guard := some (23, false) }) (v := ?_) rfl (by kernel_rfl) (by kernel_rfl) (by kernel_rfl) (by kernel_rfl) (fun _ _ _ h => h) (Or.inl ⟨by rfl, ?_⟩) hS ?_
                                          rotate_left
                                          · intro w' hSw; have q0 := (hSw.cell (p := ⟨w2.heap.size, 0, none⟩) lx6).trans x6; go_simp; try with_reducible rfl
                                          try simp only [Act.put, List.setIfInBounds_toArray, List.set_cons_zero, List.set_cons_succ]
                                          refine wpAnyF_take (i := 35) (oi := { dst := some 158, op := Go.Op.pick (Go.Operand.tmp 146) (Go.Operand.const (Go.Value.bool true)) (Go.Operand.tmp 157), type := 4, pos := "law.go:168", after := #[{ on := 23, ground := Go.Ground.data }, { on := 34, ground := Go.Ground.data }], guard := none }) (v := ?_) rfl (by kernel_rfl) (by kernel_rfl) (by kernel_rfl) (by kernel_rfl) (fun _ _ _ h => h) (Or.inl ⟨by rfl, ?_⟩) hS ?_
                                          rotate_left
                                          · intro w' hSw; have q0 := (hSw.cell (p := ⟨w2.heap.size, 0, none⟩) lx6).trans x6; go_simp; try with_reducible rfl
                                          try simp only [Act.put, List.setIfInBounds_toArray, List.set_cons_zero, List.set_cons_succ]
                                          refine wpAnyF_done (by kernel_rfl) (noPanic_normal ?_) _
                                          go_wp2_with fail
                                          go_roundw
                                          case rel => exact ⟨k + 1, _, by omega, by go_num, HA6.out.grow hS, HO6.out, HF6.out, HR6.out.grow hS, HX6.out.grow hS, HB6.out.trans (hS.mono HB6.out.size)⟩
                                          case measure => simp [intOf]; omega
                                        exact AllReadyF.nil
                                      exact AllReadyF.nil
                                    exact AllReadyF.nil
                                  exact AllReadyF.nil
                                exact AllReadyF.nil
                              exact AllReadyF.nil
                            exact AllReadyF.nil
                          exact AllReadyF.nil
                        exact AllReadyF.nil
                      exact AllReadyF.nil
                    · have hd1 : (en == 0) = false := by simpa using hz
                      have hd1n : (en != 0) = true := by simpa using hz
                      have hd2 : (s.kind == 2) = false := by simpa using hk2
                      clear hk2
                      have HA5 := Lib.hid (HN5.out hz)
                      have HO6 := HO
                      have HF6 := HF
                      clear hz
                      go_wp2_with fail
                      refine (same_live HA5.out HW5.out HO.out.rise HO.out.rise).mono ?_
                      rintro e w6 ⟨rfl, hb6⟩
                      rw [show sameB a a = true from same_eq.2 rfl]
                      have HA6 := Lib.hid (HA5.out.grow hb6)
                      have HR6 := Lib.hid (HR5.out.grow hb6)
                      have HX6 := Lib.hid (HX5.out.grow hb6)
                      have HB6 := Lib.hid (HB5.out.trans (hb6.mono HB5.out.size))
                      have x6 : w6.cell? ⟨w2.heap.size, 0, none⟩ = some (.pointer (some ⟨w1.heap.size + 1, 0, none⟩)) := HX6.out.cell 0
                      have y6 : w6.cell? ⟨wr.heap.size, 0, none⟩ = some (.int .i64 s.kind) := (HY5.out.grow hb6).cell 0
                      have lx6 := HX6.out.lt
                      have HP6 := Lib.hid (show AtP w6 (.pointer (some ⟨w1.heap.size + 1, 0, none⟩)) (.live a) from ⟨_, _, _, rfl, HA6.out⟩)
                      have HPO := Lib.hid (show (Fm.live a).Ok from HO6.out)
                      obtain ⟨cf0, cf1, ch0, ch1, cs0, cs1, cb0, cb1, _, _⟩ := bounds_of HO6.out HF6.out 0
                      have hcf : (Fm.live a).free = (a).bud - sumM (a).M - (a).sp := by show (a).bud - (a).sp - sumM (a).M = _; omega
                      obtain ⟨cb, hcb⟩ : ∃ z, z = (a).bud := ⟨_, rfl⟩
                      obtain ⟨ch, hch⟩ : ∃ z, z = sumM (a).M := ⟨_, rfl⟩
                      obtain ⟨cs, hcs⟩ : ∃ z, z = (a).sp := ⟨_, rfl⟩
                      rw [show (a).free = (Fm.live a).free from rfl, hcf] at cf0
                      rw [← hcb, ← hch, ← hcs] at hcf cf0
                      rw [← hch] at ch0 ch1
                      rw [← hcs] at cs0 cs1
                      rw [← hcb] at cb0 cb1
                      have CF := Lib.hid hcf
                      have CH := Lib.hid (show sumM (Fm.live a).M = ch from hch.symm)
                      have CS := Lib.hid (show (Fm.live a).sp = cs from hcs.symm)
                      have CB := Lib.hid (show (Fm.live a).bud = cb from hcb.symm)
                      have v1 : IntKind.i64.wrap (ch + cs) = ch + cs := IntWalk.i64_in _ (by omega)
                      have v2 : IntKind.i64.wrap (cb - ch) = cb - ch := IntWalk.i64_in _ (by omega)
                      have v3 : IntKind.i64.wrap (cb - ch - cs) = cb - ch - cs := IntWalk.i64_in _ (by omega)
                      have d1 : decide (cb - ch - cs < 0) = false := by simp; omega
                      have d2 : decide (ch < 0) = false := by simp; omega
                      have d3 : decide (cs < 0) = false := by simp; omega
                      have d4 : decide (ch + cs > cb) = false := by simp; omega
                      have d4' : decide (cb < ch + cs) = false := by simp; omega
                      have hsz6 := HB6.out.size
                      clear hb6 hcf hcb hch hcs cf0 cf1 ch0 ch1 cs0 cs1 cb0 cb1
                      go_wp2_with fail
                      refine wp_region_P (Below w6.heap.size w6) [] (by kernel_rfl) ((Below.refl _ _).drew) (fun hS => ?_)
                      refine wpAnyF_take (i := 0) (oi := { dst := some 123, op := Go.Op.load 23 (Go.Operand.tmp 5), type := 23, pos := "law.go:168", after := #[], guard := none }) (v := ?_) rfl (by kernel_rfl) (by kernel_rfl) (by kernel_rfl) (by kernel_rfl) (fun _ _ _ h => h) (Or.inl ⟨by rfl, ?_⟩) hS ?_
                      rotate_left
                      · intro w' hSw; have q0 := (hSw.cell (p := ⟨w2.heap.size, 0, none⟩) lx6).trans x6; go_simp; try with_reducible rfl
                      try simp only [Act.put, List.setIfInBounds_toArray, List.set_cons_zero, List.set_cons_succ]
                      refine wpAnyF_ready (rs := [1]) (by kernel_rfl) (by simp) ?_
                      refine AllReadyF.cons (o := { dst := some 124, op := Go.Op.call { callee := Go.Callee.value (Go.Operand.func 22), args := #[Go.Operand.tmp 123], argTypes := #[23] }, type := 2, pos := "law.go:168", after := #[{ on := 0, ground := Go.Ground.data }], guard := none }) rfl (by rfl) (fun K hK => ?_) ?_
                      · go_simp
                        refine (free_any (HP6.out.grow hS) HPO.out).mono ?_
                        rintro e w7 ⟨rfl, hb7⟩
                        rw [CF.out]
                        refine hK.out _ _ ?_ (fun hS => ?_)
                        · exact hS.trans (hb7.mono hS.size)
                        clear hK K
                        try simp only [Act.put, List.setIfInBounds_toArray, List.set_cons_zero, List.set_cons_succ]
                        clear hb7
                        refine wpAnyF_take (i := 2) (oi := { dst := some 125, op := Go.Op.binOp Go.BinOp.lss 2 (Go.Operand.tmp 124) (Go.Operand.const (Go.Value.int Go.IntKind.i64 0)) 2, type := 4, pos := "law.go:168", after := #[{ on := 1, ground := Go.Ground.data }], guard := none }) (v := ?_) rfl (by kernel_rfl) (by kernel_rfl) (by kernel_rfl) (by kernel_rfl) (fun _ _ _ h => h) (Or.inl ⟨by rfl, ?_⟩) hS ?_
                        rotate_left
                        · intro w' hSw; have q0 := (hSw.cell (p := ⟨w2.heap.size, 0, none⟩) lx6).trans x6; go_simp; try with_reducible rfl
                        try simp only [Act.put, List.setIfInBounds_toArray, List.set_cons_zero, List.set_cons_succ]
                        refine wpAnyF_take (i := 3) (oi := { dst := some 126, op := Go.Op.move (Go.Operand.tmp 125), type := 4, pos := "law.go:168", after := #[{ on := 2, ground := Go.Ground.data }, { on := 1, ground := Go.Ground.chain }], guard := none }) (v := ?_) rfl (by kernel_rfl) (by kernel_rfl) (by kernel_rfl) (by kernel_rfl) (fun _ _ _ h => h) (Or.inl ⟨by rfl, ?_⟩) hS ?_
                        rotate_left
                        · intro w' hSw; have q0 := (hSw.cell (p := ⟨w2.heap.size, 0, none⟩) lx6).trans x6; go_simp; try with_reducible rfl
                        try simp only [Act.put, List.setIfInBounds_toArray, List.set_cons_zero, List.set_cons_succ]
                        refine wpAnyF_take (i := 4) (oi := { dst := some 127, op := Go.Op.load 23 (Go.Operand.tmp 5), type := 23, pos := "law.go:168", after := #[{ on := 3, ground := Go.Ground.guard }], guard := some (3, false) }) (v := ?_) rfl (by kernel_rfl) (by kernel_rfl) (by kernel_rfl) (by kernel_rfl) (fun _ _ _ h => h) (Or.inl ⟨by rfl, ?_⟩) hS ?_
                        rotate_left
                        · intro w' hSw; have q0 := (hSw.cell (p := ⟨w2.heap.size, 0, none⟩) lx6).trans x6; go_simp; try with_reducible rfl
                        try simp only [Act.put, List.setIfInBounds_toArray, List.set_cons_zero, List.set_cons_succ]
                        refine wpAnyF_ready (rs := [5]) (by kernel_rfl) (by simp) ?_
                        refine AllReadyF.cons (o := { dst := some 128, op := Go.Op.call { callee := Go.Callee.value (Go.Operand.func 23), args := #[Go.Operand.tmp 127], argTypes := #[23] }, type := 2, pos := "law.go:168", after := #[{ on := 4, ground := Go.Ground.data }, { on := 3, ground := Go.Ground.chain }, { on := 3, ground := Go.Ground.guard }], guard := some (3, false) }) rfl (by rfl) (fun K hK => ?_) ?_
                        · go_simp
                          refine (held_any (HP6.out.grow hS) HPO.out).mono ?_
                          rintro e w7 ⟨rfl, hb7⟩
                          rw [CH.out]
                          refine hK.out _ _ ?_ (fun hS => ?_)
                          · exact hS.trans (hb7.mono hS.size)
                          clear hK K
                          try simp only [Act.put, List.setIfInBounds_toArray, List.set_cons_zero, List.set_cons_succ]
                          clear hb7
                          refine wpAnyF_take (i := 6) (oi := { dst := some 129, op := Go.Op.binOp Go.BinOp.lss 2 (Go.Operand.tmp 128) (Go.Operand.const (Go.Value.int Go.IntKind.i64 0)) 2, type := 4, pos := "law.go:168", after := #[{ on := 5, ground := Go.Ground.data }, { on := 3, ground := Go.Ground.guard }], guard := some (3, false) }) (v := ?_) rfl (by kernel_rfl) (by kernel_rfl) (by kernel_rfl) (by kernel_rfl) (fun _ _ _ h => h) (Or.inl ⟨by rfl, ?_⟩) hS ?_
                          rotate_left
                          · intro w' hSw; have q0 := (hSw.cell (p := ⟨w2.heap.size, 0, none⟩) lx6).trans x6; go_simp; try with_reducible rfl
                          try simp only [Act.put, List.setIfInBounds_toArray, List.set_cons_zero, List.set_cons_succ]
                          refine wpAnyF_take (i := 7) (oi := { dst := some 130, op := Go.Op.pick (Go.Operand.tmp 126) (Go.Operand.const (Go.Value.bool true)) (Go.Operand.tmp 129), type := 4, pos := "law.go:168", after := #[{ on := 3, ground := Go.Ground.data }, { on := 6, ground := Go.Ground.data }], guard := none }) (v := ?_) rfl (by kernel_rfl) (by kernel_rfl) (by kernel_rfl) (by kernel_rfl) (fun _ _ _ h => h) (Or.inl ⟨by rfl, ?_⟩) hS ?_
                          rotate_left
                          · intro w' hSw; have q0 := (hSw.cell (p := ⟨w2.heap.size, 0, none⟩) lx6).trans x6; go_simp; try with_reducible rfl
                          try simp only [Act.put, List.setIfInBounds_toArray, List.set_cons_zero, List.set_cons_succ]
                          refine wpAnyF_take (i := 8) (oi := { dst := some 131, op := Go.Op.move (Go.Operand.tmp 130), type := 4, pos := "law.go:168", after := #[{ on := 7, ground := Go.Ground.data }, { on := 5, ground := Go.Ground.chain }], guard := none }) (v := ?_) rfl (by kernel_rfl) (by kernel_rfl) (by kernel_rfl) (by kernel_rfl) (fun _ _ _ h => h) (Or.inl ⟨by rfl, ?_⟩) hS ?_
                          rotate_left
                          · intro w' hSw; have q0 := (hSw.cell (p := ⟨w2.heap.size, 0, none⟩) lx6).trans x6; go_simp; try with_reducible rfl
                          try simp only [Act.put, List.setIfInBounds_toArray, List.set_cons_zero, List.set_cons_succ]
                          refine wpAnyF_take (i := 9) (oi := { dst := some 132, op := Go.Op.load 23 (Go.Operand.tmp 5), type := 23, pos := "law.go:168", after := #[{ on := 8, ground := Go.Ground.guard }], guard := some (8, false) }) (v := ?_) rfl (by kernel_rfl) (by kernel_rfl) (by kernel_rfl) (by kernel_rfl) (fun _ _ _ h => h) (Or.inl ⟨by rfl, ?_⟩) hS ?_
                          rotate_left
                          · intro w' hSw; have q0 := (hSw.cell (p := ⟨w2.heap.size, 0, none⟩) lx6).trans x6; go_simp; try with_reducible rfl
                          try simp only [Act.put, List.setIfInBounds_toArray, List.set_cons_zero, List.set_cons_succ]
                          refine wpAnyF_ready (rs := [10]) (by kernel_rfl) (by simp) ?_
                          refine AllReadyF.cons (o := { dst := some 133, op := Go.Op.call { callee := Go.Callee.value (Go.Operand.func 24), args := #[Go.Operand.tmp 132], argTypes := #[23] }, type := 2, pos := "law.go:168", after := #[{ on := 9, ground := Go.Ground.data }, { on := 8, ground := Go.Ground.chain }, { on := 8, ground := Go.Ground.guard }], guard := some (8, false) }) rfl (by rfl) (fun K hK => ?_) ?_
                          · go_simp
                            refine (spent_any (HP6.out.grow hS)).mono ?_
                            rintro e w7 ⟨rfl, hw7⟩
                            rw [hw7]
                            clear hw7
                            rw [CS.out]
                            refine hK.out _ _ ?_ (fun hS => ?_)
                            · exact hS
                            clear hK K
                            try simp only [Act.put, List.setIfInBounds_toArray, List.set_cons_zero, List.set_cons_succ]
                            refine wpAnyF_take (i := 11) (oi := { dst := some 134, op := Go.Op.binOp Go.BinOp.lss 2 (Go.Operand.tmp 133) (Go.Operand.const (Go.Value.int Go.IntKind.i64 0)) 2, type := 4, pos := "law.go:168", after := #[{ on := 10, ground := Go.Ground.data }, { on := 8, ground := Go.Ground.guard }], guard := some (8, false) }) (v := ?_) rfl (by kernel_rfl) (by kernel_rfl) (by kernel_rfl) (by kernel_rfl) (fun _ _ _ h => h) (Or.inl ⟨by rfl, ?_⟩) hS ?_
                            rotate_left
                            · intro w' hSw; have q0 := (hSw.cell (p := ⟨w2.heap.size, 0, none⟩) lx6).trans x6; go_simp; try with_reducible rfl
                            try simp only [Act.put, List.setIfInBounds_toArray, List.set_cons_zero, List.set_cons_succ]
                            refine wpAnyF_take (i := 12) (oi := { dst := some 135, op := Go.Op.pick (Go.Operand.tmp 131) (Go.Operand.const (Go.Value.bool true)) (Go.Operand.tmp 134), type := 4, pos := "law.go:168", after := #[{ on := 8, ground := Go.Ground.data }, { on := 11, ground := Go.Ground.data }], guard := none }) (v := ?_) rfl (by kernel_rfl) (by kernel_rfl) (by kernel_rfl) (by kernel_rfl) (fun _ _ _ h => h) (Or.inl ⟨by rfl, ?_⟩) hS ?_
                            rotate_left
                            · intro w' hSw; have q0 := (hSw.cell (p := ⟨w2.heap.size, 0, none⟩) lx6).trans x6; go_simp; try with_reducible rfl
                            try simp only [Act.put, List.setIfInBounds_toArray, List.set_cons_zero, List.set_cons_succ]
                            refine wpAnyF_take (i := 13) (oi := { dst := some 136, op := Go.Op.move (Go.Operand.tmp 135), type := 4, pos := "law.go:168", after := #[{ on := 12, ground := Go.Ground.data }, { on := 10, ground := Go.Ground.chain }], guard := none }) (v := ?_) rfl (by kernel_rfl) (by kernel_rfl) (by kernel_rfl) (by kernel_rfl) (fun _ _ _ h => h) (Or.inl ⟨by rfl, ?_⟩) hS ?_
                            rotate_left
                            · intro w' hSw; have q0 := (hSw.cell (p := ⟨w2.heap.size, 0, none⟩) lx6).trans x6; go_simp; try with_reducible rfl
                            try simp only [Act.put, List.setIfInBounds_toArray, List.set_cons_zero, List.set_cons_succ]
                            refine wpAnyF_take (i := 14) (oi := { dst := some 137, op := Go.Op.load 23 (Go.Operand.tmp 5), type := 23, pos := "law.go:168", after := #[{ on := 13, ground := Go.Ground.guard }], guard := some (13, false) }) (v := ?_) rfl (by kernel_rfl) (by kernel_rfl) (by kernel_rfl) (by kernel_rfl) (fun _ _ _ h => h) (Or.inl ⟨by rfl, ?_⟩) hS ?_
                            rotate_left
                            · intro w' hSw; have q0 := (hSw.cell (p := ⟨w2.heap.size, 0, none⟩) lx6).trans x6; go_simp; try with_reducible rfl
                            try simp only [Act.put, List.setIfInBounds_toArray, List.set_cons_zero, List.set_cons_succ]
                            refine wpAnyF_take (i := 16) (oi := { dst := some 139, op := Go.Op.load 23 (Go.Operand.tmp 5), type := 23, pos := "law.go:168", after := #[{ on := 13, ground := Go.Ground.guard }], guard := some (13, false) }) (v := ?_) rfl (by kernel_rfl) (by kernel_rfl) (by kernel_rfl) (by kernel_rfl) (fun _ _ _ h => h) (Or.inl ⟨by rfl, ?_⟩) hS ?_
                            rotate_left
                            · intro w' hSw; have q0 := (hSw.cell (p := ⟨w2.heap.size, 0, none⟩) lx6).trans x6; go_simp; try with_reducible rfl
                            try simp only [Act.put, List.setIfInBounds_toArray, List.set_cons_zero, List.set_cons_succ]
                            refine wpAnyF_take (i := 19) (oi := { dst := some 142, op := Go.Op.load 23 (Go.Operand.tmp 5), type := 23, pos := "law.go:168", after := #[{ on := 13, ground := Go.Ground.guard }], guard := some (13, false) }) (v := ?_) rfl (by kernel_rfl) (by kernel_rfl) (by kernel_rfl) (by kernel_rfl) (fun _ _ _ h => h) (Or.inl ⟨by rfl, ?_⟩) hS ?_
                            rotate_left
                            · intro w' hSw; have q0 := (hSw.cell (p := ⟨w2.heap.size, 0, none⟩) lx6).trans x6; go_simp; try with_reducible rfl
                            try simp only [Act.put, List.setIfInBounds_toArray, List.set_cons_zero, List.set_cons_succ]
                            refine wpAnyF_ready (rs := [15]) (by kernel_rfl) (by simp) ?_
                            refine AllReadyF.cons (o := { dst := some 138, op := Go.Op.call { callee := Go.Callee.value (Go.Operand.func 23), args := #[Go.Operand.tmp 137], argTypes := #[23] }, type := 2, pos := "law.go:168", after := #[{ on := 14, ground := Go.Ground.data }, { on := 13, ground := Go.Ground.chain }, { on := 13, ground := Go.Ground.guard }], guard := some (13, false) }) rfl (by rfl) (fun K hK => ?_) ?_
                            · go_simp
                              refine (held_any (HP6.out.grow hS) HPO.out).mono ?_
                              rintro e w7 ⟨rfl, hb7⟩
                              rw [CH.out]
                              refine hK.out _ _ ?_ (fun hS => ?_)
                              · exact hS.trans (hb7.mono hS.size)
                              clear hK K
                              try simp only [Act.put, List.setIfInBounds_toArray, List.set_cons_zero, List.set_cons_succ]
                              clear hb7
                              refine wpAnyF_ready (rs := [17]) (by kernel_rfl) (by simp) ?_
                              refine AllReadyF.cons (o := { dst := some 140, op := Go.Op.call { callee := Go.Callee.value (Go.Operand.func 24), args := #[Go.Operand.tmp 139], argTypes := #[23] }, type := 2, pos := "law.go:168", after := #[{ on := 16, ground := Go.Ground.data }, { on := 15, ground := Go.Ground.chain }, { on := 13, ground := Go.Ground.guard }], guard := some (13, false) }) rfl (by rfl) (fun K hK => ?_) ?_
                              · go_simp
                                refine (spent_any (HP6.out.grow hS)).mono ?_
                                rintro e w7 ⟨rfl, hw7⟩
                                rw [hw7]
                                clear hw7
                                rw [CS.out]
                                refine hK.out _ _ ?_ (fun hS => ?_)
                                · exact hS
                                clear hK K
                                try simp only [Act.put, List.setIfInBounds_toArray, List.set_cons_zero, List.set_cons_succ]
                                refine wpAnyF_take (i := 18) (oi := { dst := some 141, op := Go.Op.binOp Go.BinOp.add 2 (Go.Operand.tmp 138) (Go.Operand.tmp 140) 2, type := 2, pos := "law.go:168", after := #[{ on := 15, ground := Go.Ground.data }, { on := 17, ground := Go.Ground.data }, { on := 13, ground := Go.Ground.guard }], guard := some (13, false) }) (v := ?_) rfl (by kernel_rfl) (by kernel_rfl) (by kernel_rfl) (by kernel_rfl) (fun _ _ _ h => h) (Or.inl ⟨by rfl, ?_⟩) hS ?_
                                rotate_left
                                · intro w' hSw; have q0 := (hSw.cell (p := ⟨w2.heap.size, 0, none⟩) lx6).trans x6; go_simp; try with_reducible rfl
                                try simp only [Act.put, List.setIfInBounds_toArray, List.set_cons_zero, List.set_cons_succ]
                                refine wpAnyF_ready (rs := [20]) (by kernel_rfl) (by simp) ?_
                                refine AllReadyF.cons (o := { dst := some 143, op := Go.Op.call { callee := Go.Callee.value (Go.Operand.func 25), args := #[Go.Operand.tmp 142], argTypes := #[23] }, type := 2, pos := "law.go:168", after := #[{ on := 19, ground := Go.Ground.data }, { on := 17, ground := Go.Ground.chain }, { on := 13, ground := Go.Ground.guard }], guard := some (13, false) }) rfl (by rfl) (fun K hK => ?_) ?_
                                · go_simp
                                  refine (budget_any (HP6.out.grow hS)).mono ?_
                                  rintro e w7 ⟨rfl, hw7⟩
                                  rw [hw7]
                                  clear hw7
                                  rw [CB.out]
                                  refine hK.out _ _ ?_ (fun hS => ?_)
                                  · exact hS
                                  clear hK K
                                  try simp only [Act.put, List.setIfInBounds_toArray, List.set_cons_zero, List.set_cons_succ]
                                  refine wpAnyF_take (i := 21) (oi := { dst := some 144, op := Go.Op.binOp Go.BinOp.gtr 2 (Go.Operand.tmp 141) (Go.Operand.tmp 143) 2, type := 4, pos := "law.go:168", after := #[{ on := 18, ground := Go.Ground.data }, { on := 20, ground := Go.Ground.data }, { on := 13, ground := Go.Ground.guard }], guard := some (13, false) }) (v := ?_) rfl (by kernel_rfl) (by kernel_rfl) (by kernel_rfl) (by kernel_rfl) (fun _ _ _ h => h) (Or.inl ⟨by rfl, ?_⟩) hS ?_
                                  rotate_left
                                  · intro w' hSw; have q0 := (hSw.cell (p := ⟨w2.heap.size, 0, none⟩) lx6).trans x6; go_simp; try with_reducible rfl
                                  try simp only [Act.put, List.setIfInBounds_toArray, List.set_cons_zero, List.set_cons_succ]
                                  refine wpAnyF_take (i := 22) (oi := { dst := some 145, op := Go.Op.pick (Go.Operand.tmp 136) (Go.Operand.const (Go.Value.bool true)) (Go.Operand.tmp 144), type := 4, pos := "law.go:168", after := #[{ on := 13, ground := Go.Ground.data }, { on := 21, ground := Go.Ground.data }], guard := none }) (v := ?_) rfl (by kernel_rfl) (by kernel_rfl) (by kernel_rfl) (by kernel_rfl) (fun _ _ _ h => h) (Or.inl ⟨by rfl, ?_⟩) hS ?_
                                  rotate_left
                                  · intro w' hSw; have q0 := (hSw.cell (p := ⟨w2.heap.size, 0, none⟩) lx6).trans x6; go_simp; try with_reducible rfl
                                  try simp only [Act.put, List.setIfInBounds_toArray, List.set_cons_zero, List.set_cons_succ]
                                  refine wpAnyF_take (i := 23) (oi := { dst := some 146, op := Go.Op.move (Go.Operand.tmp 145), type := 4, pos := "law.go:168", after := #[{ on := 22, ground := Go.Ground.data }, { on := 20, ground := Go.Ground.chain }], guard := none }) (v := ?_) rfl (by kernel_rfl) (by kernel_rfl) (by kernel_rfl) (by kernel_rfl) (fun _ _ _ h => h) (Or.inl ⟨by rfl, ?_⟩) hS ?_
                                  rotate_left
                                  · intro w' hSw; have q0 := (hSw.cell (p := ⟨w2.heap.size, 0, none⟩) lx6).trans x6; go_simp; try with_reducible rfl
                                  try simp only [Act.put, List.setIfInBounds_toArray, List.set_cons_zero, List.set_cons_succ]
                                  refine wpAnyF_take (i := 24) (oi := { dst := some 147, op := Go.Op.load 23 (Go.Operand.tmp 5), type := 23, pos := "law.go:168", after := #[{ on := 23, ground := Go.Ground.guard }], guard := some (23, false) }) (v := ?_) rfl (by kernel_rfl) (by kernel_rfl) (by kernel_rfl) (by kernel_rfl) (fun _ _ _ h => h) (Or.inl ⟨by rfl, ?_⟩) hS ?_
                                  rotate_left
                                  · intro w' hSw; have q0 := (hSw.cell (p := ⟨w2.heap.size, 0, none⟩) lx6).trans x6; go_simp; try with_reducible rfl
                                  try simp only [Act.put, List.setIfInBounds_toArray, List.set_cons_zero, List.set_cons_succ]
                                  refine wpAnyF_take (i := 26) (oi := { dst := some 149, op := Go.Op.load 23 (Go.Operand.tmp 5), type := 23, pos := "law.go:168", after := #[{ on := 23, ground := Go.Ground.guard }], guard := some (23, false) }) (v := ?_) rfl (by kernel_rfl) (by kernel_rfl) (by kernel_rfl) (by kernel_rfl) (fun _ _ _ h => h) (Or.inl ⟨by rfl, ?_⟩) hS ?_
                                  rotate_left
                                  · intro w' hSw; have q0 := (hSw.cell (p := ⟨w2.heap.size, 0, none⟩) lx6).trans x6; go_simp; try with_reducible rfl
                                  try simp only [Act.put, List.setIfInBounds_toArray, List.set_cons_zero, List.set_cons_succ]
                                  refine wpAnyF_take (i := 28) (oi := { dst := some 151, op := Go.Op.load 23 (Go.Operand.tmp 5), type := 23, pos := "law.go:168", after := #[{ on := 23, ground := Go.Ground.guard }], guard := some (23, false) }) (v := ?_) rfl (by kernel_rfl) (by kernel_rfl) (by kernel_rfl) (by kernel_rfl) (fun _ _ _ h => h) (Or.inl ⟨by rfl, ?_⟩) hS ?_
                                  rotate_left
                                  · intro w' hSw; have q0 := (hSw.cell (p := ⟨w2.heap.size, 0, none⟩) lx6).trans x6; go_simp; try with_reducible rfl
                                  try simp only [Act.put, List.setIfInBounds_toArray, List.set_cons_zero, List.set_cons_succ]
                                  refine wpAnyF_take (i := 31) (oi := { dst := some 154, op := Go.Op.load 23 (Go.Operand.tmp 5), type := 23, pos := "law.go:168", after := #[{ on := 23, ground := Go.Ground.guard }], guard := some (23, false) }) (v := ?_) rfl (by kernel_rfl) (by kernel_rfl) (by kernel_rfl) (by kernel_rfl) (fun _ _ _ h => h) (Or.inl ⟨by rfl, ?_⟩) hS ?_
                                  rotate_left
                                  · intro w' hSw; have q0 := (hSw.cell (p := ⟨w2.heap.size, 0, none⟩) lx6).trans x6; go_simp; try with_reducible rfl
                                  try simp only [Act.put, List.setIfInBounds_toArray, List.set_cons_zero, List.set_cons_succ]
                                  refine wpAnyF_ready (rs := [25]) (by kernel_rfl) (by simp) ?_
                                  refine AllReadyF.cons (o := { dst := some 148, op := Go.Op.call { callee := Go.Callee.value (Go.Operand.func 22), args := #[Go.Operand.tmp 147], argTypes := #[23] }, type := 2, pos := "law.go:168", after := #[{ on := 24, ground := Go.Ground.data }, { on := 23, ground := Go.Ground.chain }, { on := 23, ground := Go.Ground.guard }], guard := some (23, false) }) rfl (by rfl) (fun K hK => ?_) ?_
                                  · go_simp
                                    refine (free_any (HP6.out.grow hS) HPO.out).mono ?_
                                    rintro e w7 ⟨rfl, hb7⟩
                                    rw [CF.out]
                                    refine hK.out _ _ ?_ (fun hS => ?_)
                                    · exact hS.trans (hb7.mono hS.size)
                                    clear hK K
                                    try simp only [Act.put, List.setIfInBounds_toArray, List.set_cons_zero, List.set_cons_succ]
                                    clear hb7
                                    refine wpAnyF_ready (rs := [27]) (by kernel_rfl) (by simp) ?_
                                    refine AllReadyF.cons (o := { dst := some 150, op := Go.Op.call { callee := Go.Callee.value (Go.Operand.func 25), args := #[Go.Operand.tmp 149], argTypes := #[23] }, type := 2, pos := "law.go:168", after := #[{ on := 26, ground := Go.Ground.data }, { on := 25, ground := Go.Ground.chain }, { on := 23, ground := Go.Ground.guard }], guard := some (23, false) }) rfl (by rfl) (fun K hK => ?_) ?_
                                    · go_simp
                                      refine (budget_any (HP6.out.grow hS)).mono ?_
                                      rintro e w7 ⟨rfl, hw7⟩
                                      rw [hw7]
                                      clear hw7
                                      rw [CB.out]
                                      refine hK.out _ _ ?_ (fun hS => ?_)
                                      · exact hS
                                      clear hK K
                                      try simp only [Act.put, List.setIfInBounds_toArray, List.set_cons_zero, List.set_cons_succ]
                                      refine wpAnyF_ready (rs := [29]) (by kernel_rfl) (by simp) ?_
                                      refine AllReadyF.cons (o := { dst := some 152, op := Go.Op.call { callee := Go.Callee.value (Go.Operand.func 23), args := #[Go.Operand.tmp 151], argTypes := #[23] }, type := 2, pos := "law.go:168", after := #[{ on := 28, ground := Go.Ground.data }, { on := 27, ground := Go.Ground.chain }, { on := 23, ground := Go.Ground.guard }], guard := some (23, false) }) rfl (by rfl) (fun K hK => ?_) ?_
                                      · go_simp
                                        refine (held_any (HP6.out.grow hS) HPO.out).mono ?_
                                        rintro e w7 ⟨rfl, hb7⟩
                                        rw [CH.out]
                                        refine hK.out _ _ ?_ (fun hS => ?_)
                                        · exact hS.trans (hb7.mono hS.size)
                                        clear hK K
                                        try simp only [Act.put, List.setIfInBounds_toArray, List.set_cons_zero, List.set_cons_succ]
                                        clear hb7
                                        refine wpAnyF_take (i := 30) (oi := { dst := some 153, op := Go.Op.binOp Go.BinOp.sub 2 (Go.Operand.tmp 150) (Go.Operand.tmp 152) 2, type := 2, pos := "law.go:168", after := #[{ on := 27, ground := Go.Ground.data }, { on := 29, ground := Go.Ground.data }, { on := 23, ground := Go.Ground.guard }], guard := some (23, false) }) (v := ?_) rfl (by kernel_rfl) (by kernel_rfl) (by kernel_rfl) (by kernel_rfl) (fun _ _ _ h => h) (Or.inl ⟨by rfl, ?_⟩) hS ?_
                                        rotate_left
                                        · intro w' hSw; have q0 := (hSw.cell (p := ⟨w2.heap.size, 0, none⟩) lx6).trans x6; go_simp; try with_reducible rfl
                                        try simp only [Act.put, List.setIfInBounds_toArray, List.set_cons_zero, List.set_cons_succ]
                                        refine wpAnyF_ready (rs := [32]) (by kernel_rfl) (by simp) ?_
                                        refine AllReadyF.cons (o := { dst := some 155, op := Go.Op.call { callee := Go.Callee.value (Go.Operand.func 24), args := #[Go.Operand.tmp 154], argTypes := #[23] }, type := 2, pos := "law.go:168", after := #[{ on := 31, ground := Go.Ground.data }, { on := 29, ground := Go.Ground.chain }, { on := 23, ground := Go.Ground.guard }], guard := some (23, false) }) rfl (by rfl) (fun K hK => ?_) ?_
                                        · go_simp
                                          refine (spent_any (HP6.out.grow hS)).mono ?_
                                          rintro e w7 ⟨rfl, hw7⟩
                                          rw [hw7]
                                          clear hw7
                                          rw [CS.out]
                                          refine hK.out _ _ ?_ (fun hS => ?_)
                                          · exact hS
                                          clear hK K
                                          try simp only [Act.put, List.setIfInBounds_toArray, List.set_cons_zero, List.set_cons_succ]
                                          refine wpAnyF_take (i := 33) (oi := { dst := some 156, op := Go.Op.binOp Go.BinOp.sub 2 (Go.Operand.tmp 153) (Go.Operand.tmp 155) 2, type := 2, pos := "law.go:168", after := #[{ on := 30, ground := Go.Ground.data }, { on := 32, ground := Go.Ground.data }, { on := 23, ground := Go.Ground.guard }], guard := some (23, false) }) (v := ?_) rfl (by kernel_rfl) (by kernel_rfl) (by kernel_rfl) (by kernel_rfl) (fun _ _ _ h => h) (Or.inl ⟨by rfl, ?_⟩) hS ?_
                                          rotate_left
                                          · intro w' hSw; have q0 := (hSw.cell (p := ⟨w2.heap.size, 0, none⟩) lx6).trans x6; go_simp; try with_reducible rfl
                                          try simp only [Act.put, List.setIfInBounds_toArray, List.set_cons_zero, List.set_cons_succ]
                                          refine wpAnyF_take (i := 34) (oi := { dst := some 157, op := Go.Op.binOp Go.BinOp.neq 2 (Go.Operand.tmp 148) (Go.Operand.tmp 156) 2, type := 4, pos := "law.go:168", after := #[{ on := 25, ground := Go.Ground.data }, { on := 33, ground := Go.Ground.data }, { on := 23, ground := Go.Ground.guard }], guard := some (23, false) }) (v := ?_) rfl (by kernel_rfl) (by kernel_rfl) (by kernel_rfl) (by kernel_rfl) (fun _ _ _ h => h) (Or.inl ⟨by rfl, ?_⟩) hS ?_
                                          rotate_left
                                          · intro w' hSw; have q0 := (hSw.cell (p := ⟨w2.heap.size, 0, none⟩) lx6).trans x6; go_simp; try with_reducible rfl
                                          try simp only [Act.put, List.setIfInBounds_toArray, List.set_cons_zero, List.set_cons_succ]
                                          refine wpAnyF_take (i := 35) (oi := { dst := some 158, op := Go.Op.pick (Go.Operand.tmp 146) (Go.Operand.const (Go.Value.bool true)) (Go.Operand.tmp 157), type := 4, pos := "law.go:168", after := #[{ on := 23, ground := Go.Ground.data }, { on := 34, ground := Go.Ground.data }], guard := none }) (v := ?_) rfl (by kernel_rfl) (by kernel_rfl) (by kernel_rfl) (by kernel_rfl) (fun _ _ _ h => h) (Or.inl ⟨by rfl, ?_⟩) hS ?_
                                          rotate_left
                                          · intro w' hSw; have q0 := (hSw.cell (p := ⟨w2.heap.size, 0, none⟩) lx6).trans x6; go_simp; try with_reducible rfl
                                          try simp only [Act.put, List.setIfInBounds_toArray, List.set_cons_zero, List.set_cons_succ]
                                          refine wpAnyF_done (by kernel_rfl) (noPanic_normal ?_) _
                                          go_wp2_with fail
                                          go_roundw
                                          case rel => exact ⟨k + 1, _, by omega, by go_num, HA6.out.grow hS, HO6.out, HF6.out, HR6.out.grow hS, HX6.out.grow hS, HB6.out.trans (hS.mono HB6.out.size)⟩
                                          case measure => simp [intOf]; omega
                                        exact AllReadyF.nil
                                      exact AllReadyF.nil
                                    exact AllReadyF.nil
                                  exact AllReadyF.nil
                                exact AllReadyF.nil
                              exact AllReadyF.nil
                            exact AllReadyF.nil
                          exact AllReadyF.nil
                        exact AllReadyF.nil
                      exact AllReadyF.nil
                exact AllReadyF.nil
              exact AllReadyF.nil
            exact AllReadyF.nil
          exact AllReadyF.nil
        exact AllReadyF.nil
      · obtain rfl : k = l.length := by omega
        clear hlt
        have heq := eql_func_nil
        have x9 : wr.cell? ⟨w2.heap.size, 0, none⟩ = some (.pointer (some ⟨w1.heap.size + 1, 0, none⟩)) := HXB.out.cell 0
        go_wp2_with fail
        refine (all_any ⟨_, rfl⟩ wr).mono ?_
        rintro e w3 ⟨rfl, rfl⟩
        unfold allV
        go_wp2_with fail
        obtain ⟨U0, hU0⟩ : ∃ U, U = ((wr.alloc (.cells #[.pointer (some ⟨w1.heap.size + 1, 0, none⟩)] 23)).alloc (.cells #[.slice none 0 0] 22)).alloc (.cells #[.int .i64 0] 2) := ⟨_, rfl⟩
        have hBW : Below wr.heap.size wr U0 := by rw [hU0]; exact (((Below.refl _ _).alloc (Nat.le_refl _) _).alloc (by simp) _).alloc (by simp; omega) _
        have hQ : Blk U0 wr.heap.size 23 #[.pointer (some ⟨w1.heap.size + 1, 0, none⟩)] := by rw [hU0]; exact ((Blk.new wr _ _).alloc _).alloc _
        have hL : Blk U0 (wr.heap.size + 1) 22 #[.slice none 0 0] := by rw [hU0]; exact (Blk.new' _ _ (by simp)).alloc _
        have hS : Blk U0 (wr.heap.size + 1 + 1) 2 #[.int .i64 0] := by rw [hU0]; exact Blk.new' _ _ (by simp)
        have hs0 : U0.heap.size = wr.heap.size + 3 := by rw [hU0]; simp
        have hAU := HA.out.grow hBW
        have hlx := hx.lt
        have HQ := Lib.hid hQ
        have HLB := Lib.hid hL
        have HSB := Lib.hid hS
        have HAU := Lib.hid hAU
        have HRU := Lib.hid (HR.out.grow hBW)
        have HXU := Lib.hid (HXB.out.grow hBW)
        have HBU := Lib.hid (HB.out.trans (hBW.mono HB.out.size))
        have HVU := Lib.hid (show AtP U0 (.pointer (some ⟨w1.heap.size + 1, 0, none⟩)) (.live a) from ⟨_, _, _, rfl, hAU⟩)
        rw [← hU0]
        clear x9 hU0 hBW hQ hL hS hAU ha ho hf hr hx hb heq
        refine (wpIn_wide (n := 3)).1 ?_
        refine' wpIn_rangeFunc_H (F := Fence.wide) (n := 3) rfl (by omega) (gf := 56) (lb := #[.pointer (some ⟨wr.heap.size, 0, none⟩)]) rfl trivial (enters_of Try.func56 (by kernel_rfl) rfl)
          (all1_stops 2 (by omega) wr.heap.size (.pointer (some ⟨w1.heap.size + 1, 0, none⟩)) (.live a) HO.out.h.rise HO.out.h.len (fun p hp => by have := HO.out.h.each p hp; omega) U0 (HQ.out.cell 0) HVU.out) (Below.refl _ _) (fun _ => rfl)
          (fun hi pre W => U0.heap.size ≤ hi ∧ Chg (fun k => k = wr.heap.size + 1 ∨ k = wr.heap.size + 1 + 1) U0 W ∧ Blk W (wr.heap.size + 1 + 1) 2 #[.int .i64 (sumM pre)] ∧
            ∃ A' c', Blk W (wr.heap.size + 1) 22 #[.slice A' pre.length c'] ∧ W.ownsRow hi 29 2 (.slice A' pre.length c') pre.length (hcells pre))
          (fun _ _ _ _ => False)
          (fun _ => OwnFrom.and (fun _ _ _ _ h _ _ => h) (OwnFrom.and ownFrom_chg (OwnFrom.and (Own.from (fun _ _ _ _ h hg hr => h.cells hg hr) _) (Own.from (fun _ _ _ _ ⟨A', c', h1, h2⟩ hg hr => ⟨A', c', h1.cells hg hr, own_cells h2 hg hr⟩) _))))
          (fun _ _ => fun _ _ _ _ h _ _ => h)
          (fun W0 hW0 => ⟨hW0.size, Chg.of _ hW0, HSB.out.grow hW0, none, 0, HLB.out.grow hW0, World.ownsRow_nil _ _ _ _⟩) _ ?assign ?body ?done ?stop
        case assign =>
          intro l x W K hK
          gi_wp2
          exact hK
        case body =>
          rintro hi l' pre x W hhi ⟨hUh, hC, hS, A', c', hLb, hrow⟩ hsp hlt
          have hgt := at_get HO.out.h.rise (prefix_at hsp)
          obtain ⟨hx0, hx1⟩ := HO.out.h.pre hsp
          obtain ⟨hp0, _⟩ := HO.out.h.pre ((List.prefix_append pre [x]).trans hsp)
          have hmem := List.mem_of_getElem? (prefix_at hsp)
          have he := HO.out.h.each x hmem
          rw [sumM_snoc] at hx0 hx1
          have hsn := sumM_snoc pre x
          have hlen : pre.length < 1099511627776 := by have := HO.out.h.len; have h2 : pre.length < a.M.length := hlt; exact Nat.lt_of_lt_of_le h2 this
          have hne := own_isCells hrow
          obtain ⟨xa, xb⟩ := x
          obtain ⟨z, hz⟩ : ∃ z, z = sumM pre := ⟨_, rfl⟩
          rw [← hz] at hx0 hx1 hS hsn hp0
          simp only at hx0 hx1 hsn he hgt
          obtain ⟨he0, he1, he2⟩ := he
          have hsW := hC.size
          have hXW := HXU.out.chg hC (by rintro (e | e) <;> omega)
          have hAW := HAU.out.chg hC (by rintro (e | e) <;> omega) (by rintro (e | e) <;> omega)
          have x0 : W.cell? ⟨w2.heap.size, 0, none⟩ = some (.pointer (some ⟨w1.heap.size + 1, 0, none⟩)) := hXW.cell 0
          have p0 : W.cell? ⟨wr.heap.size + 1 + 1, 0, none⟩ = some (.int .i64 z) := hS.cell 0
          have p1 : W.frozen? ⟨wr.heap.size + 1 + 1, 0, none⟩ = false := hS.frozen 0
          have p2 : W.cell? ⟨wr.heap.size + 1, 0, none⟩ = some (.slice A' pre.length c') := hLb.cell 0
          have hwr : IntKind.i64.wrap (z + xb) = z + xb := IntWalk.i64_in _ (by omega)
          have hd : decide (xb < 1) = false := by simp; omega
          have HAW := Lib.hid (show AtP W (.pointer (some ⟨w1.heap.size + 1, 0, none⟩)) (.live a) from ⟨_, _, _, rfl, hAW⟩)
          have HI := Lib.hid hS
          have HLbb := Lib.hid hLb
          have HROW := Lib.hid hrow
          have HSN := Lib.hid hsn
          have HCC := Lib.hid hC
          have HGT := Lib.hid (show atM (Fm.live a).M xa = xb from hgt)
          have HNE := Lib.hid hne
          clear hC hS hLb hrow hsp hz hsn hgt hmem hXW hAW hne hlt
          dsimp only
          gi_wp2
          refine ⟨trivial, (CallsIn.inRound l' (callsIn_wide.2 (at_any HAW.out ⟨by omega, by omega⟩))).mono ?_⟩
          rintro e W2 ⟨rfl, hW2⟩
          rw [hW2, HGT.out]
          clear hW2
          have hrow1 := own_grow HROW.out ((Below.refl W.heap.size W).alloc (Nat.le_refl _) (.cells #[.int .i64 xa, .int .i64 xb] 29))
          have HROW1 := Lib.hid hrow1
          have HBX := Lib.hid (Blk.new W 29 #[.int .i64 xa, .int .i64 xb])
          clear hrow1
          gi_wp2_with (gi_at_builtin; refine wpListIn_app _ rfl (.tmp 175) (.tmp 179) et_held rfl hi (.slice A' pre.length c') pre.length (hcells pre) rfl HROW1.out (fun _ => True) (.slice (some ⟨W.heap.size, 0, none⟩) 1 1) 1 [.int .i64 xa, .int .i64 xb] rfl (slBlk (sz := 2) (cs := #[.int .i64 xa, .int .i64 xb]) HBX.out (Nat.le_refl 1) (by unfold maxLen; omega) rfl) (by simp [Value.oneCell']) (by omega) (by unfold maxLen; omega) (by simp; omega) ?_; intro A2 c2 w3 hown hg hloc; have hfar : ∀ g, g < hi → some g ≠ (Value.slice A' pre.length c').ownBlock := (fun g hlt e => by have := (HROW1.out.lt _ e.symm).1; omega); have hl3 := (HLbb.out.alloc (.cells #[.int .i64 xa, .int .i64 xb] 29)).grown hg (hfar _ (by omega)); have hs3 := (HI.out.alloc (.cells #[.int .i64 xa, .int .i64 xb] 29)).grown hg (hfar _ (by omega)); have s0 : w3.cell? ⟨wr.heap.size + 1, 0, none⟩ = some (.slice A' pre.length c') := hl3.cell 0; have s1 : w3.frozen? ⟨wr.heap.size + 1, 0, none⟩ = false := hl3.frozen 0; have hs4 := hs3.far (p := ⟨wr.heap.size + 1, 0, none⟩) (by simp) (.slice A2 (pre.length + 1) c2); have s2 : (w3.setCell ⟨wr.heap.size + 1, 0, none⟩ (.slice A2 (pre.length + 1) c2)).cell? ⟨wr.heap.size + 1 + 1, 0, none⟩ = some (.int .i64 z) := hs4.cell 0; have s3 : (w3.setCell ⟨wr.heap.size + 1, 0, none⟩ (.slice A2 (pre.length + 1) c2)).frozen? ⟨wr.heap.size + 1 + 1, 0, none⟩ = false := hs4.frozen 0; have HG := Lib.hid hg; have HN := Lib.hid hown; have HL3 := Lib.hid hl3; have HS4 := Lib.hid hs4; have HFAR := Lib.hid hfar; clear hown hg hloc hfar hl3 hs3 hs4)
          have hg3 : Below hi (W.alloc (.cells #[.int .i64 xa, .int .i64 xb] 29)) w3 := (Below.refl hi _).grown HG.out (by simp; omega) (fun g e => (HROW1.out.lt g e).1)
          have hb3 : Below hi W w3 := ((Below.refl hi W).alloc hhi _).trans hg3
          refine ⟨(((KeepsOthers.alloc W _).trans (KeepsOthers.of_grownBy HG.out (own_isCells HROW1.out))).trans (KeepsOthers.setCell _ _ _)).trans (KeepsOthers.setCell _ _ _), ((KeepR.of_below hb3).trans (KeepR.set _ (.inl (by simp; omega)) _)).trans (KeepR.set _ (.inl (by simp; omega)) _), hUh, ?_, ?_, A2, c2, ?_, ?_⟩
          · exact ((((HCC.out).step (Chg.of (fun _ => False) ((Below.refl _ W).alloc (Nat.le_refl _) _)) fun _ _ h => h.elim).step (Chg.grown HG.out) fun k hk e => absurd e (HFAR.out k (by omega))).step (Chg.set w3 ⟨wr.heap.size + 1, 0, none⟩ _) fun k _ e => .inl e).step (Chg.set _ ⟨wr.heap.size + 1 + 1, 0, none⟩ _) fun k _ e => .inr e
          · rw [HSN.out]
            exact HS4.out.set_ 0 (.int .i64 (z + xb))
          · rw [List.length_append]
            exact (HL3.out.set_ 0 (.slice A2 (pre.length + 1) c2)).far (p := ⟨wr.heap.size + 1 + 1, 0, none⟩) (by simp) _
          · have h1 := own_far' HN.out (grownBy_setCell w3 ⟨wr.heap.size + 1, 0, none⟩ (.slice A2 (pre.length + 1) c2)) (fun g e he => by have := (HN.out.lt g e).1; injection he with he; simp at he; omega)
            have h2 := own_far' h1 (grownBy_setCell _ ⟨wr.heap.size + 1 + 1, 0, none⟩ (.int .i64 (z + xb))) (fun g e he => by have := (HN.out.lt g e).1; injection he with he; simp at he; omega)
            rw [List.length_append, hcells_append]
            exact h2
        case done =>
          rintro hi D ys W hD hys ⟨hUh, hC, hS, A', c', hLb, hrow⟩ hK
          subst hys
          have hsW := hC.size
          have hXW := HXU.out.chg hC (by rintro (e | e) <;> omega)
          have hRW := HRU.out.chg hC (by rintro (e | e) <;> omega)
          have hAW := HAU.out.chg hC (by rintro (e | e) <;> omega) (by rintro (e | e) <;> omega)
          have x0 : W.cell? ⟨w2.heap.size, 0, none⟩ = some (.pointer (some ⟨w1.heap.size + 1, 0, none⟩)) := hXW.cell 0
          have l0 : W.cell? ⟨wr.heap.size + 1, 0, none⟩ = some (.slice A' a.M.length c') := hLb.cell 0
          have lx := hXW.lt
          have ll := hLb.lt
          have HBW := Lib.hid (HBU.out.trans (hC.below (B := w.heap.size) (by omega) (fun k hk e => by rcases e with e | e <;> omega)))
          have HH := Lib.hid (show Helds W (fun _ => True) (.slice A' a.M.length c') a.M from ⟨(Sl.of_own hrow).mono fun _ _ _ => trivial, held_b HO.out⟩)
          have HAW := Lib.hid (show AtP W (.pointer (some ⟨w1.heap.size + 1, 0, none⟩)) (.live a) from ⟨_, _, _, rfl, hAW⟩)
          have HAA := Lib.hid hAW
          have HRW := Lib.hid hRW
          have HXW := Lib.hid hXW
          have HSW := Lib.hid hS
          have HK := Lib.hid hK
          have hDW := (Array.getElem?_eq_some_iff.1 hK).1
          have HOE := Lib.hid (ofE_live HO.out HF.out)
          have HSB := Lib.hid (show (Fm.live a).bud = a.bud from rfl)
          have HSS := Lib.hid (show (Fm.live a).sp = a.sp from rfl)
          clear hUh hC hS hLb hrow hK hXW hRW hAW
          go_wp2_with fail
          refine wp_region_P (Below W.heap.size W) [] (by kernel_rfl) ((Below.refl _ _).drew) (fun hS => ?_)
          refine wpAnyF_take (i := 0) (oi := { dst := some 185, op := Go.Op.load 23 (Go.Operand.tmp 5), type := 23, pos := "law.go:185", after := #[], guard := none }) (v := ?_) rfl (by kernel_rfl) (by kernel_rfl) (by kernel_rfl) (by kernel_rfl) (fun _ _ _ h => h) (Or.inl ⟨by rfl, ?_⟩) hS ?_
          rotate_left
          · intro w' hSw; have q0 := (hSw.cell (p := ⟨w2.heap.size, 0, none⟩) lx).trans x0; have q1 := (hSw.cell (p := ⟨wr.heap.size + 1, 0, none⟩) ll).trans l0; go_simp; try with_reducible rfl
          try simp only [Act.put, List.setIfInBounds_toArray, List.set_cons_zero, List.set_cons_succ]
          refine wpAnyF_take (i := 2) (oi := { dst := some 187, op := Go.Op.load 23 (Go.Operand.tmp 5), type := 23, pos := "law.go:185", after := #[], guard := none }) (v := ?_) rfl (by kernel_rfl) (by kernel_rfl) (by kernel_rfl) (by kernel_rfl) (fun _ _ _ h => h) (Or.inl ⟨by rfl, ?_⟩) hS ?_
          rotate_left
          · intro w' hSw; have q0 := (hSw.cell (p := ⟨w2.heap.size, 0, none⟩) lx).trans x0; have q1 := (hSw.cell (p := ⟨wr.heap.size + 1, 0, none⟩) ll).trans l0; go_simp; try with_reducible rfl
          try simp only [Act.put, List.setIfInBounds_toArray, List.set_cons_zero, List.set_cons_succ]
          refine wpAnyF_take (i := 4) (oi := { dst := some 189, op := Go.Op.load 22 (Go.Operand.tmp 19), type := 22, pos := "law.go:185", after := #[], guard := none }) (v := ?_) rfl (by kernel_rfl) (by kernel_rfl) (by kernel_rfl) (by kernel_rfl) (fun _ _ _ h => h) (Or.inl ⟨by rfl, ?_⟩) hS ?_
          rotate_left
          · intro w' hSw; have q0 := (hSw.cell (p := ⟨w2.heap.size, 0, none⟩) lx).trans x0; have q1 := (hSw.cell (p := ⟨wr.heap.size + 1, 0, none⟩) ll).trans l0; go_simp; try with_reducible rfl
          try simp only [Act.put, List.setIfInBounds_toArray, List.set_cons_zero, List.set_cons_succ]
          refine wpAnyF_ready (rs := [1]) (by kernel_rfl) (by simp) ?_
          refine AllReadyF.cons (o := { dst := some 186, op := Go.Op.call { callee := Go.Callee.value (Go.Operand.func 25), args := #[Go.Operand.tmp 185], argTypes := #[23] }, type := 2, pos := "law.go:185", after := #[{ on := 0, ground := Go.Ground.data }], guard := none }) rfl (by rfl) (fun K hK => ?_) ?_
          · go_simp
            refine (budget_any (HAW.out.grow hS)).mono ?_
            rintro e w7 ⟨rfl, hw7⟩
            rw [hw7]
            clear hw7
            rw [HSB.out]
            refine hK.out _ _ ?_ (fun hS => ?_)
            · exact hS
            clear hK K
            try simp only [Act.put, List.setIfInBounds_toArray, List.set_cons_zero, List.set_cons_succ]
            refine wpAnyF_ready (rs := [3]) (by kernel_rfl) (by simp) ?_
            refine AllReadyF.cons (o := { dst := some 188, op := Go.Op.call { callee := Go.Callee.value (Go.Operand.func 24), args := #[Go.Operand.tmp 187], argTypes := #[23] }, type := 2, pos := "law.go:185", after := #[{ on := 2, ground := Go.Ground.data }, { on := 1, ground := Go.Ground.chain }], guard := none }) rfl (by rfl) (fun K hK => ?_) ?_
            · go_simp
              refine (spent_any (HAW.out.grow hS)).mono ?_
              rintro e w7 ⟨rfl, hw7⟩
              rw [hw7]
              clear hw7
              rw [HSS.out]
              refine hK.out _ _ ?_ (fun hS => ?_)
              · exact hS
              clear hK K
              try simp only [Act.put, List.setIfInBounds_toArray, List.set_cons_zero, List.set_cons_succ]
              refine wpAnyF_ready (rs := [5]) (by kernel_rfl) (by simp) ?_
              refine AllReadyF.cons (o := { dst := some 190, op := Go.Op.call { callee := Go.Callee.value (Go.Operand.func 11), args := #[Go.Operand.tmp 186, Go.Operand.tmp 188, Go.Operand.tmp 189], argTypes := #[2, 2, 22] }, type := 25, pos := "law.go:185", after := #[{ on := 1, ground := Go.Ground.data }, { on := 3, ground := Go.Ground.data }, { on := 4, ground := Go.Ground.data }, { on := 3, ground := Go.Ground.chain }], guard := none }) rfl (by rfl) (fun K hK => ?_) ?_
              · go_simp
                refine (of_any (bud := a.bud) (sp := a.sp) (HH.out.grow hS)).mono ?_
                rintro e W7 ⟨hb7, (⟨h0, _⟩ | ⟨_, rfl, hN7⟩)⟩
                · exact absurd HOE.out h0
                refine hK.out _ _ ?_ (fun hS => ?_)
                · exact hS.trans (hb7.mono hS.size)
                clear hK K
                try simp only [Act.put, List.setIfInBounds_toArray, List.set_cons_zero, List.set_cons_succ]
                have HN7 := Lib.hid hN7
                clear hb7 hN7
                refine wpAnyF_take (i := 6) (oi := { dst := some 184, op := Go.Op.move (Go.Operand.tmp 190), type := 25, pos := "law.go:185", after := #[{ on := 5, ground := Go.Ground.data }], guard := none }) (v := ?_) rfl (by kernel_rfl) (by kernel_rfl) (by kernel_rfl) (by kernel_rfl) (fun _ _ _ h => h) (Or.inl ⟨by rfl, ?_⟩) hS ?_
                rotate_left
                · intro w' hSw; have q0 := (hSw.cell (p := ⟨w2.heap.size, 0, none⟩) lx).trans x0; have q1 := (hSw.cell (p := ⟨wr.heap.size + 1, 0, none⟩) ll).trans l0; go_simp; try with_reducible rfl
                try simp only [Act.put, List.setIfInBounds_toArray, List.set_cons_zero, List.set_cons_succ]
                refine wpAnyF_take (i := 7) (oi := { dst := some 191, op := Go.Op.extract (Go.Operand.tmp 184) 0, type := 23, pos := "law.go:185", after := #[{ on := 6, ground := Go.Ground.data }], guard := none }) (v := ?_) rfl (by kernel_rfl) (by kernel_rfl) (by kernel_rfl) (by kernel_rfl) (fun _ _ _ h => h) (Or.inl ⟨by rfl, ?_⟩) hS ?_
                rotate_left
                · intro w' hSw; have q0 := (hSw.cell (p := ⟨w2.heap.size, 0, none⟩) lx).trans x0; have q1 := (hSw.cell (p := ⟨wr.heap.size + 1, 0, none⟩) ll).trans l0; go_simp; try with_reducible rfl
                try simp only [Act.put, List.setIfInBounds_toArray, List.set_cons_zero, List.set_cons_succ]
                refine wpAnyF_take (i := 8) (oi := { dst := some 192, op := Go.Op.extract (Go.Operand.tmp 184) 1, type := 24, pos := "law.go:185", after := #[{ on := 6, ground := Go.Ground.data }, { on := 9, ground := Go.Ground.gcOnly Go.Departure.lateStores }], guard := none }) (v := ?_) rfl (by kernel_rfl) (by kernel_rfl) (by kernel_rfl) (by kernel_rfl) (fun _ _ _ h => h) (Or.inl ⟨by rfl, ?_⟩) hS ?_
                rotate_left
                · intro w' hSw; have q0 := (hSw.cell (p := ⟨w2.heap.size, 0, none⟩) lx).trans x0; have q1 := (hSw.cell (p := ⟨wr.heap.size + 1, 0, none⟩) ll).trans l0; go_simp; try with_reducible rfl
                try simp only [Act.put, List.setIfInBounds_toArray, List.set_cons_zero, List.set_cons_succ]
                refine wpAnyF_take (i := 9) (oi := { dst := some 23, op := Go.Op.assign (Go.Operand.tmp 191), type := 23, pos := "law.go:185", after := #[{ on := 7, ground := Go.Ground.data }, { on := 5, ground := Go.Ground.chain }, { on := 0, ground := Go.Ground.phase }, { on := 1, ground := Go.Ground.phase }, { on := 2, ground := Go.Ground.phase }, { on := 3, ground := Go.Ground.phase }, { on := 4, ground := Go.Ground.phase }, { on := 5, ground := Go.Ground.phase }, { on := 6, ground := Go.Ground.phase }, { on := 7, ground := Go.Ground.phase }, { on := 8, ground := Go.Ground.textOnly Go.Departure.lateStores }], guard := none }) (v := ?_) rfl (by kernel_rfl) (by kernel_rfl) (by kernel_rfl) (by kernel_rfl) (fun _ _ _ h => h) (Or.inl ⟨by rfl, ?_⟩) hS ?_
                rotate_left
                · intro w' hSw; have q0 := (hSw.cell (p := ⟨w2.heap.size, 0, none⟩) lx).trans x0; have q1 := (hSw.cell (p := ⟨wr.heap.size + 1, 0, none⟩) ll).trans l0; go_simp; try with_reducible rfl
                try simp only [Act.put, List.setIfInBounds_toArray, List.set_cons_zero, List.set_cons_succ]
                refine wpAnyF_take (i := 10) (oi := { dst := some 24, op := Go.Op.assign (Go.Operand.tmp 192), type := 24, pos := "law.go:185", after := #[{ on := 8, ground := Go.Ground.data }, { on := 9, ground := Go.Ground.chain }, { on := 0, ground := Go.Ground.phase }, { on := 1, ground := Go.Ground.phase }, { on := 2, ground := Go.Ground.phase }, { on := 3, ground := Go.Ground.phase }, { on := 4, ground := Go.Ground.phase }, { on := 5, ground := Go.Ground.phase }, { on := 6, ground := Go.Ground.phase }, { on := 7, ground := Go.Ground.phase }, { on := 8, ground := Go.Ground.phase }, { on := 9, ground := Go.Ground.phase }], guard := none }) (v := ?_) rfl (by kernel_rfl) (by kernel_rfl) (by kernel_rfl) (by kernel_rfl) (fun _ _ _ h => h) (Or.inl ⟨by rfl, ?_⟩) hS ?_
                rotate_left
                · intro w' hSw; have q0 := (hSw.cell (p := ⟨w2.heap.size, 0, none⟩) lx).trans x0; have q1 := (hSw.cell (p := ⟨wr.heap.size + 1, 0, none⟩) ll).trans l0; go_simp; try with_reducible rfl
                try simp only [Act.put, List.setIfInBounds_toArray, List.set_cons_zero, List.set_cons_succ]
                refine wpAnyF_done (by kernel_rfl) (noPanic_normal ?_) _
                have HA7 := Lib.hid (HAA.out.grow hS)
                have HP7 := Lib.hid (show AtP W7 (.pointer (some ⟨w1.heap.size + 1, 0, none⟩)) (.live a) from ⟨_, _, _, rfl, HAA.out.grow hS⟩)
                have HR7 := Lib.hid (HRW.out.grow hS)
                have x7 : W7.cell? ⟨w2.heap.size, 0, none⟩ = some (.pointer (some ⟨w1.heap.size + 1, 0, none⟩)) := (HXW.out.grow hS).cell 0
                have s7 : W7.cell? ⟨wr.heap.size + 1 + 1, 0, none⟩ = some (.int .i64 (sumM a.M)) := (HSW.out.grow hS).cell 0
                have lx7 := (HXW.out.grow hS).lt
                have ls7 := (HSW.out.grow hS).lt
                have HB7 := Lib.hid hS
                have hs7 := hS.size
                obtain ⟨sm, hsm⟩ : ∃ z, z = sumM a.M := ⟨_, rfl⟩
                rw [← hsm] at s7
                have HSM := Lib.hid (show sumM (Fm.live a).M = sm from hsm.symm)
                clear hsm hS x0 l0
                go_wp2_with fail
                refine wp_region_P (Below W7.heap.size W7) [17] (by kernel_rfl) ((Below.refl _ _).drew) (fun hS => ?_)
                refine wpAnyF_take (i := 0) (oi := { dst := some 193, op := Go.Op.move (Go.Operand.tmp 24), type := 24, pos := "law.go:186", after := #[], guard := none }) (v := ?_) rfl (by kernel_rfl) (by kernel_rfl) (by kernel_rfl) (by kernel_rfl) (fun _ _ _ h => h) (Or.inl ⟨by rfl, ?_⟩) hS ?_
                rotate_left
                · intro w' hSw; have q0 := (hSw.cell (p := ⟨w2.heap.size, 0, none⟩) lx7).trans x7; have q1 := (hSw.cell (p := ⟨wr.heap.size + 1 + 1, 0, none⟩) ls7).trans s7; go_simp; try with_reducible rfl
                try simp only [Act.put, List.setIfInBounds_toArray, List.set_cons_zero, List.set_cons_succ]
                refine wpAnyF_take (i := 1) (oi := { dst := some 194, op := Go.Op.binOp Go.BinOp.eql 3 (Go.Operand.tmp 193) (Go.Operand.const (Go.Value.int Go.IntKind.i64 0)) 3, type := 4, pos := "law.go:186", after := #[{ on := 0, ground := Go.Ground.data }], guard := none }) (v := ?_) rfl (by kernel_rfl) (by kernel_rfl) (by kernel_rfl) (by kernel_rfl) (fun _ _ _ h => h) (Or.inl ⟨by rfl, ?_⟩) hS ?_
                rotate_left
                · intro w' hSw; have q0 := (hSw.cell (p := ⟨w2.heap.size, 0, none⟩) lx7).trans x7; have q1 := (hSw.cell (p := ⟨wr.heap.size + 1 + 1, 0, none⟩) ls7).trans s7; go_simp; try with_reducible rfl
                try simp only [Act.put, List.setIfInBounds_toArray, List.set_cons_zero, List.set_cons_succ]
                refine wpAnyF_take (i := 2) (oi := { dst := some 195, op := Go.Op.move (Go.Operand.tmp 194), type := 4, pos := "law.go:186", after := #[{ on := 1, ground := Go.Ground.data }], guard := none }) (v := ?_) rfl (by kernel_rfl) (by kernel_rfl) (by kernel_rfl) (by kernel_rfl) (fun _ _ _ h => h) (Or.inl ⟨by rfl, ?_⟩) hS ?_
                rotate_left
                · intro w' hSw; have q0 := (hSw.cell (p := ⟨w2.heap.size, 0, none⟩) lx7).trans x7; have q1 := (hSw.cell (p := ⟨wr.heap.size + 1 + 1, 0, none⟩) ls7).trans s7; go_simp; try with_reducible rfl
                try simp only [Act.put, List.setIfInBounds_toArray, List.set_cons_zero, List.set_cons_succ]
                refine wpAnyF_take (i := 3) (oi := { dst := some 196, op := Go.Op.move (Go.Operand.tmp 23), type := 23, pos := "law.go:186", after := #[{ on := 2, ground := Go.Ground.guard }], guard := some (2, true) }) (v := ?_) rfl (by kernel_rfl) (by kernel_rfl) (by kernel_rfl) (by kernel_rfl) (fun _ _ _ h => h) (Or.inl ⟨by rfl, ?_⟩) hS ?_
                rotate_left
                · intro w' hSw; have q0 := (hSw.cell (p := ⟨w2.heap.size, 0, none⟩) lx7).trans x7; have q1 := (hSw.cell (p := ⟨wr.heap.size + 1 + 1, 0, none⟩) ls7).trans s7; go_simp; try with_reducible rfl
                try simp only [Act.put, List.setIfInBounds_toArray, List.set_cons_zero, List.set_cons_succ]
                refine wpAnyF_take (i := 4) (oi := { dst := some 197, op := Go.Op.binOp Go.BinOp.neq 23 (Go.Operand.tmp 196) (Go.Operand.const (Go.Value.pointer none)) 23, type := 4, pos := "law.go:186", after := #[{ on := 3, ground := Go.Ground.data }, { on := 2, ground := Go.Ground.guard }], guard := some (2, true) }) (v := ?_) rfl (by kernel_rfl) (by kernel_rfl) (by kernel_rfl) (by kernel_rfl) (fun _ _ _ h => h) (Or.inl ⟨by rfl, ?_⟩) hS ?_
                rotate_left
                · intro w' hSw; have q0 := (hSw.cell (p := ⟨w2.heap.size, 0, none⟩) lx7).trans x7; have q1 := (hSw.cell (p := ⟨wr.heap.size + 1 + 1, 0, none⟩) ls7).trans s7; go_simp; try with_reducible rfl
                try simp only [Act.put, List.setIfInBounds_toArray, List.set_cons_zero, List.set_cons_succ]
                refine wpAnyF_take (i := 5) (oi := { dst := some 198, op := Go.Op.pick (Go.Operand.tmp 195) (Go.Operand.tmp 197) (Go.Operand.const (Go.Value.bool false)), type := 4, pos := "law.go:186", after := #[{ on := 2, ground := Go.Ground.data }, { on := 4, ground := Go.Ground.data }], guard := none }) (v := ?_) rfl (by kernel_rfl) (by kernel_rfl) (by kernel_rfl) (by kernel_rfl) (fun _ _ _ h => h) (Or.inl ⟨by rfl, ?_⟩) hS ?_
                rotate_left
                · intro w' hSw; have q0 := (hSw.cell (p := ⟨w2.heap.size, 0, none⟩) lx7).trans x7; have q1 := (hSw.cell (p := ⟨wr.heap.size + 1 + 1, 0, none⟩) ls7).trans s7; go_simp; try with_reducible rfl
                try simp only [Act.put, List.setIfInBounds_toArray, List.set_cons_zero, List.set_cons_succ]
                refine wpAnyF_take (i := 6) (oi := { dst := some 199, op := Go.Op.move (Go.Operand.tmp 198), type := 4, pos := "law.go:186", after := #[{ on := 5, ground := Go.Ground.data }, { on := 2, ground := Go.Ground.chain }], guard := none }) (v := ?_) rfl (by kernel_rfl) (by kernel_rfl) (by kernel_rfl) (by kernel_rfl) (fun _ _ _ h => h) (Or.inl ⟨by rfl, ?_⟩) hS ?_
                rotate_left
                · intro w' hSw; have q0 := (hSw.cell (p := ⟨w2.heap.size, 0, none⟩) lx7).trans x7; have q1 := (hSw.cell (p := ⟨wr.heap.size + 1 + 1, 0, none⟩) ls7).trans s7; go_simp; try with_reducible rfl
                try simp only [Act.put, List.setIfInBounds_toArray, List.set_cons_zero, List.set_cons_succ]
                refine wpAnyF_take (i := 7) (oi := { dst := some 200, op := Go.Op.move (Go.Operand.tmp 23), type := 23, pos := "law.go:186", after := #[{ on := 6, ground := Go.Ground.guard }], guard := some (6, true) }) (v := ?_) rfl (by kernel_rfl) (by kernel_rfl) (by kernel_rfl) (by kernel_rfl) (fun _ _ _ h => h) (Or.inl ⟨by rfl, ?_⟩) hS ?_
                rotate_left
                · intro w' hSw; have q0 := (hSw.cell (p := ⟨w2.heap.size, 0, none⟩) lx7).trans x7; have q1 := (hSw.cell (p := ⟨wr.heap.size + 1 + 1, 0, none⟩) ls7).trans s7; go_simp; try with_reducible rfl
                try simp only [Act.put, List.setIfInBounds_toArray, List.set_cons_zero, List.set_cons_succ]
                refine wpAnyF_take (i := 8) (oi := { dst := some 201, op := Go.Op.load 23 (Go.Operand.tmp 5), type := 23, pos := "law.go:186", after := #[{ on := 6, ground := Go.Ground.guard }], guard := some (6, true) }) (v := ?_) rfl (by kernel_rfl) (by kernel_rfl) (by kernel_rfl) (by kernel_rfl) (fun _ _ _ h => h) (Or.inl ⟨by rfl, ?_⟩) hS ?_
                rotate_left
                · intro w' hSw; have q0 := (hSw.cell (p := ⟨w2.heap.size, 0, none⟩) lx7).trans x7; have q1 := (hSw.cell (p := ⟨wr.heap.size + 1 + 1, 0, none⟩) ls7).trans s7; go_simp; try with_reducible rfl
                try simp only [Act.put, List.setIfInBounds_toArray, List.set_cons_zero, List.set_cons_succ]
                refine wpAnyF_ready (rs := [9]) (by kernel_rfl) (by simp) ?_
                refine AllReadyF.cons (o := { dst := some 202, op := Go.Op.call { callee := Go.Callee.value (Go.Operand.func 10), args := #[Go.Operand.tmp 200, Go.Operand.tmp 201], argTypes := #[23, 23] }, type := 4, pos := "law.go:186", after := #[{ on := 7, ground := Go.Ground.data }, { on := 8, ground := Go.Ground.data }, { on := 6, ground := Go.Ground.chain }, { on := 6, ground := Go.Ground.guard }], guard := some (6, true) }) rfl (by rfl) (fun K hK => ?_) ?_
                · go_simp
                  refine (same_live (HN7.out.grow hS) (HA7.out.grow hS) HO.out.h.rise HO.out.h.rise).mono ?_
                  rintro e W8 ⟨rfl, hb8⟩
                  rw [show sameB ⟨a.bud, a.sp, a.M⟩ a = true from same_eq.2 rfl]
                  refine hK.out _ _ ?_ (fun hS => ?_)
                  · exact hS.trans (hb8.mono hS.size)
                  clear hK K
                  try simp only [Act.put, List.setIfInBounds_toArray, List.set_cons_zero, List.set_cons_succ]
                  clear hb8
                  refine wpAnyF_take (i := 10) (oi := { dst := some 203, op := Go.Op.pick (Go.Operand.tmp 199) (Go.Operand.tmp 202) (Go.Operand.const (Go.Value.bool false)), type := 4, pos := "law.go:186", after := #[{ on := 6, ground := Go.Ground.data }, { on := 9, ground := Go.Ground.data }], guard := none }) (v := ?_) rfl (by kernel_rfl) (by kernel_rfl) (by kernel_rfl) (by kernel_rfl) (fun _ _ _ h => h) (Or.inl ⟨by rfl, ?_⟩) hS ?_
                  rotate_left
                  · intro w' hSw; have q0 := (hSw.cell (p := ⟨w2.heap.size, 0, none⟩) lx7).trans x7; have q1 := (hSw.cell (p := ⟨wr.heap.size + 1 + 1, 0, none⟩) ls7).trans s7; go_simp; try with_reducible rfl
                  try simp only [Act.put, List.setIfInBounds_toArray, List.set_cons_zero, List.set_cons_succ]
                  refine wpAnyF_take (i := 11) (oi := { dst := some 204, op := Go.Op.move (Go.Operand.tmp 203), type := 4, pos := "law.go:186", after := #[{ on := 10, ground := Go.Ground.data }, { on := 9, ground := Go.Ground.chain }], guard := none }) (v := ?_) rfl (by kernel_rfl) (by kernel_rfl) (by kernel_rfl) (by kernel_rfl) (fun _ _ _ h => h) (Or.inl ⟨by rfl, ?_⟩) hS ?_
                  rotate_left
                  · intro w' hSw; have q0 := (hSw.cell (p := ⟨w2.heap.size, 0, none⟩) lx7).trans x7; have q1 := (hSw.cell (p := ⟨wr.heap.size + 1 + 1, 0, none⟩) ls7).trans s7; go_simp; try with_reducible rfl
                  try simp only [Act.put, List.setIfInBounds_toArray, List.set_cons_zero, List.set_cons_succ]
                  refine wpAnyF_take (i := 12) (oi := { dst := some 205, op := Go.Op.load 2 (Go.Operand.tmp 20), type := 2, pos := "law.go:186", after := #[{ on := 11, ground := Go.Ground.guard }], guard := some (11, true) }) (v := ?_) rfl (by kernel_rfl) (by kernel_rfl) (by kernel_rfl) (by kernel_rfl) (fun _ _ _ h => h) (Or.inl ⟨by rfl, ?_⟩) hS ?_
                  rotate_left
                  · intro w' hSw; have q0 := (hSw.cell (p := ⟨w2.heap.size, 0, none⟩) lx7).trans x7; have q1 := (hSw.cell (p := ⟨wr.heap.size + 1 + 1, 0, none⟩) ls7).trans s7; go_simp; try with_reducible rfl
                  try simp only [Act.put, List.setIfInBounds_toArray, List.set_cons_zero, List.set_cons_succ]
                  refine wpAnyF_take (i := 13) (oi := { dst := some 206, op := Go.Op.load 23 (Go.Operand.tmp 5), type := 23, pos := "law.go:186", after := #[{ on := 11, ground := Go.Ground.guard }], guard := some (11, true) }) (v := ?_) rfl (by kernel_rfl) (by kernel_rfl) (by kernel_rfl) (by kernel_rfl) (fun _ _ _ h => h) (Or.inl ⟨by rfl, ?_⟩) hS ?_
                  rotate_left
                  · intro w' hSw; have q0 := (hSw.cell (p := ⟨w2.heap.size, 0, none⟩) lx7).trans x7; have q1 := (hSw.cell (p := ⟨wr.heap.size + 1 + 1, 0, none⟩) ls7).trans s7; go_simp; try with_reducible rfl
                  try simp only [Act.put, List.setIfInBounds_toArray, List.set_cons_zero, List.set_cons_succ]
                  refine wpAnyF_ready (rs := [14]) (by kernel_rfl) (by simp) ?_
                  refine AllReadyF.cons (o := { dst := some 207, op := Go.Op.call { callee := Go.Callee.value (Go.Operand.func 23), args := #[Go.Operand.tmp 206], argTypes := #[23] }, type := 2, pos := "law.go:186", after := #[{ on := 13, ground := Go.Ground.data }, { on := 11, ground := Go.Ground.chain }, { on := 11, ground := Go.Ground.guard }], guard := some (11, true) }) rfl (by rfl) (fun K hK => ?_) ?_
                  · go_simp
                    refine (held_any (HP7.out.grow hS) HO.out).mono ?_
                    rintro e W9 ⟨rfl, hb9⟩
                    rw [HSM.out]
                    refine hK.out _ _ ?_ (fun hS => ?_)
                    · exact hS.trans (hb9.mono hS.size)
                    clear hK K
                    try simp only [Act.put, List.setIfInBounds_toArray, List.set_cons_zero, List.set_cons_succ]
                    have HS9 := Lib.hid hS
                    have r9 : W9.cell? ⟨w.heap.size, 0, none⟩ = some (.bool false) := (HR7.out.grow hS).cell 0
                    have f9 : W9.frozen? ⟨w.heap.size, 0, none⟩ = false := (HR7.out.grow hS).frozen 0
                    clear hb9
                    refine wpAnyF_take (i := 15) (oi := { dst := some 208, op := Go.Op.binOp Go.BinOp.eql 2 (Go.Operand.tmp 205) (Go.Operand.tmp 207) 2, type := 4, pos := "law.go:186", after := #[{ on := 12, ground := Go.Ground.data }, { on := 14, ground := Go.Ground.data }, { on := 11, ground := Go.Ground.guard }], guard := some (11, true) }) (v := ?_) rfl (by kernel_rfl) (by kernel_rfl) (by kernel_rfl) (by kernel_rfl) (fun _ _ _ h => h) (Or.inl ⟨by rfl, ?_⟩) hS ?_
                    rotate_left
                    · intro w' hSw; have q0 := (hSw.cell (p := ⟨w2.heap.size, 0, none⟩) lx7).trans x7; have q1 := (hSw.cell (p := ⟨wr.heap.size + 1 + 1, 0, none⟩) ls7).trans s7; go_simp; try with_reducible rfl
                    try simp only [Act.put, List.setIfInBounds_toArray, List.set_cons_zero, List.set_cons_succ]
                    refine wpAnyF_take (i := 16) (oi := { dst := some 209, op := Go.Op.pick (Go.Operand.tmp 204) (Go.Operand.tmp 208) (Go.Operand.const (Go.Value.bool false)), type := 4, pos := "law.go:186", after := #[{ on := 11, ground := Go.Ground.data }, { on := 15, ground := Go.Ground.data }], guard := none }) (v := ?_) rfl (by kernel_rfl) (by kernel_rfl) (by kernel_rfl) (by kernel_rfl) (fun _ _ _ h => h) (Or.inl ⟨by rfl, ?_⟩) hS ?_
                    rotate_left
                    · intro w' hSw; have q0 := (hSw.cell (p := ⟨w2.heap.size, 0, none⟩) lx7).trans x7; have q1 := (hSw.cell (p := ⟨wr.heap.size + 1 + 1, 0, none⟩) ls7).trans s7; go_simp; try with_reducible rfl
                    try simp only [Act.put, List.setIfInBounds_toArray, List.set_cons_zero, List.set_cons_succ]
                    refine wpAnyF_ready (rs := [17]) (by kernel_rfl) (by simp) ?_
                    refine AllReadyF.fin (o := { dst := none, op := Go.Op.store 4 (Go.Operand.tmp 4) (Go.Operand.tmp 209), type := 0, pos := "law.go:186", after := #[{ on := 16, ground := Go.Ground.data }, { on := 14, ground := Go.Ground.chain }, { on := 0, ground := Go.Ground.phase }, { on := 1, ground := Go.Ground.phase }, { on := 2, ground := Go.Ground.phase }, { on := 3, ground := Go.Ground.phase }, { on := 4, ground := Go.Ground.phase }, { on := 5, ground := Go.Ground.phase }, { on := 6, ground := Go.Ground.phase }, { on := 7, ground := Go.Ground.phase }, { on := 8, ground := Go.Ground.phase }, { on := 9, ground := Go.Ground.phase }, { on := 10, ground := Go.Ground.phase }, { on := 11, ground := Go.Ground.phase }, { on := 12, ground := Go.Ground.phase }, { on := 13, ground := Go.Ground.phase }, { on := 14, ground := Go.Ground.phase }, { on := 15, ground := Go.Ground.phase }, { on := 16, ground := Go.Ground.phase }], guard := none }) rfl (by rfl) (fun K hK => ?_) ?_
                    · go_simp
                      refine hK.out _ _ ?_
                      clear hK K
                      try simp only [Act.put, List.setIfInBounds_toArray, List.set_cons_zero, List.set_cons_succ]
                      refine wpAnyF_done (by kernel_rfl) (noPanic_normal ?_) _
                      go_wp2_with fail
                      have hb9 := HB7.out.trans (HS9.out.mono HB7.out.size)
                      have hK9 : W9.heap[D]? = some (.deferred (some [])) := (hb9.block D hDW).trans HK.out
                      have hK10 := (KeepsOthers.setCell W9 ⟨w.heap.size, 0, none⟩ (.bool true)).same D _ hK9 rfl
                      have hc5 := cell_kept (World.cell?_setCell_same' W9 ⟨w.heap.size, 0, none⟩ (.bool true) (by rw [r9]; rfl)) (grownBy_putObj' _ D (.deferred none)) (fun r e => by cases e; exact ⟨_, hK10, rfl⟩)
                      have hD' : w.heap.size ≤ D := by omega
                      refine ⟨by simp, .inl ⟨_, _, rfl, run_takeDeferred hK10, ?_⟩⟩
                      exact ⟨.bool true, by simp [results, Try.results5, go_sem, hc5], rfl, ((HBW.out.trans (hb9.mono HBW.out.size)).setCell (p := ⟨w.heap.size, 0, none⟩) (by simp) _).trans (belowK_b (w := w) (Nat.le_refl _) _ D _ _ hD' hK10 rfl rfl)⟩
                    exact AllReadyF.nil
                  exact AllReadyF.nil
                exact AllReadyF.nil
              exact AllReadyF.nil
            exact AllReadyF.nil
          exact AllReadyF.nil
        case stop =>
          rintro hi D c pre W hD hpre2 hf hK
          exact hf.elim
end Go.Proofs.Ytibhmgeckghoeaa.Ac

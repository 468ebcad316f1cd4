/- Account: Of. -/
import Derived.Test.YtibhmgeckghoeaaAccM
namespace Go.Proofs.Ytibhmgeckghoeaa.Ac
open Go.RowKit Go.Shelf Go.Maps
open Go.Proofs.Ytibhmgeckghoeaa.Vb
attribute [local go_sem] Oper.semAt_some

set_option maxRecDepth 100000 in
set_option maxHeartbeats 4000000 in
theorem of_any {bud sp : Int} {l : HM} {v : Value} {R : Nat → Prop} {w : World} (h : Helds w R v l) :
    Calls Try.prog 11 #[.int .i64 bud, .int .i64 sp, v] w fun e w' => Below w.heap.size w w' ∧
      ((ofE bud sp l ≠ 0 ∧ e = .returned (.tuple #[.pointer none, .int .i64 (ofE bud sp l)])) ∨
       (ofE bud sp l = 0 ∧ e = .returned (.tuple #[.pointer (some ⟨w.heap.size + 1, 0, none⟩), .int .i64 0]) ∧ AccAt w' (w.heap.size + 1) w.heap.size l.length ⟨bud, sp, l⟩)) := by
  have HL := Lib.hid h
  have HWF := Lib.hid h.2
  obtain ⟨⟨_, A, cap, rfl, hncap, hcap, _⟩, _⟩ := h
  unfold maxLen at hcap
  have hmm := @run_makeMap Try.prog
  by_cases c1 : coin bud
  · by_cases c2 : coin sp
    · have HC1 := Lib.hid c1
      have HC2 := Lib.hid c2
      have HD1 := Lib.hid (decide_eq_true c1)
      have HD2 := Lib.hid (decide_eq_true c2)
      clear c1 c2
      go_enter Try.func11, Try.ntmps11
      go_wp2_with fail
      refine (coins_any bud w).mono ?_
      rintro e w1 ⟨rfl, rfl⟩
      rw [HD1.out]
      go_wp2_with fail
      refine (coins_any sp w1).mono ?_
      rintro e w2 ⟨rfl, rfl⟩
      rw [HD2.out]
      go_wp2_with fail
      obtain ⟨U, hU⟩ : ∃ U, U = (w2.alloc (.map #[] 0)).alloc (.cells #[.int .i64 bud, .int .i64 sp, .map (some w2.heap.size)] 67) := ⟨_, rfl⟩
      have hB : Below w2.heap.size w2 U := by rw [hU]; exact ((Below.refl _ _).alloc (Nat.le_refl _) _).alloc (by simp) _
      have hA : AccAt U (w2.heap.size + 1) w2.heap.size 0 ⟨bud, sp, []⟩ := by
        rw [hU]
        exact ⟨Blk.new' _ _ (by simp), (World.ownsMap_made w2 _ _ _).alloc _⟩
      rw [← hU]
      have hs0 : U.heap.size = w2.heap.size + 2 := by rw [hU]; simp
      have HB := Lib.hid hB
      have HA := Lib.hid hA
      clear hU hB hA hmm
      go_loopw [9, 29] (fun s i wr => ∃ k : Nat, k ≤ l.length ∧ i = .int .i64 k ∧ s = .int .i64 (lastL l k) ∧ okL (-1) l = okL (lastL l k) (l.drop k) ∧ Below U.heap.size U wr) (fun _ i _ => l.length - (intOf i).toNat)
      case atStart => exact ⟨0, Nat.zero_le _, rfl, rfl, rfl, Below.refl _ _⟩
      case round =>
        obtain ⟨k, hk, rfl, rfl, hok, hb⟩ := hrel
        by_cases hlt : k < l.length
        · obtain ⟨o, ho⟩ : ∃ o, l[k]? = some o := ⟨_, List.getElem?_eq_getElem hlt⟩
          have hbw := HB.out.trans (hb.mono HB.out.size)
          obtain ⟨bq, off, rfl, hbq, q0, q1⟩ := (HL.out.grow hbw).at_ ho
          have hst := okL_step ho
          have hsl := lastL_succ ho
          have hob := HWF.out o (List.mem_of_getElem? ho)
          obtain ⟨⟨ob1, ob2⟩, ob3, ob4⟩ := hob
          obtain ⟨ol, oc⟩ := o
          simp only at q0 q1 hst hsl ob1 ob2 ob3 ob4
          obtain ⟨la, hla⟩ : ∃ z, z = lastL l k := ⟨_, rfl⟩
          rw [← hla] at hok hst ⊢
          have HOK := Lib.hid hok
          have HST := Lib.hid hst
          have HSL := Lib.hid hsl
          have HBB := Lib.hid hb
          have HBW := Lib.hid hbw
          have hsz := hb.size
          clear hok hst hsl hb hbw hla ho
          by_cases t1 : ol ≤ la
          · have HE := Lib.hid (ofE_arg (bud := bud) (sp := sp) (.inr (.inr (HOK.out.trans (HST.out.trans (by simp; omega))))))
            go_wp2_with fail
            refine bodyPost_ret (v := .tuple #[.pointer none, .int .i64 2]) (by simp [results, Try.results11, go_sem]) rfl ⟨HBW.out.alloc (by have := HBW.out.size; omega) _, .inl ⟨by rw [HE.out]; decide, by rw [HE.out]⟩⟩
          · by_cases t2 : oc < 1
            · have HE := Lib.hid (ofE_arg (bud := bud) (sp := sp) (.inr (.inr (HOK.out.trans (HST.out.trans (by simp; omega))))))
              go_wp2_with fail
              refine bodyPost_ret (v := .tuple #[.pointer none, .int .i64 2]) (by simp [results, Try.results11, go_sem]) rfl ⟨HBW.out.alloc (by have := HBW.out.size; omega) _, .inl ⟨by rw [HE.out]; decide, by rw [HE.out]⟩⟩
            · by_cases t3 : coin oc
              · have HD := Lib.hid (decide_eq_true t3)
                have HOK2 := Lib.hid (show okL (-1) l = okL (lastL l (k + 1)) (l.drop (k + 1)) from HOK.out.trans (HST.out.trans (by simp [t3]; omega)))
                clear t3
                go_wp2_with fail
                refine (coins_any oc _).mono ?_
                rintro e w5 ⟨rfl, rfl⟩
                rw [HD.out]
                go_wp2_with fail
                go_roundw
                case rel => exact ⟨k + 1, by omega, by go_num, by rw [HSL.out], HOK2.out, HBB.out.alloc (by omega) _⟩
                case measure => simp [intOf]; omega
              · have HD := Lib.hid (decide_eq_false t3)
                have HE := Lib.hid (ofE_arg (bud := bud) (sp := sp) (.inr (.inr (HOK.out.trans (HST.out.trans (by simp [t3]))))))
                clear t3
                go_wp2_with fail
                refine (coins_any oc _).mono ?_
                rintro e w5 ⟨rfl, rfl⟩
                rw [HD.out]
                go_wp2_with fail
                refine bodyPost_ret (v := .tuple #[.pointer none, .int .i64 2]) (by simp [results, Try.results11, go_sem]) rfl ⟨HBW.out.alloc (by have := HBW.out.size; omega) _, .inl ⟨by rw [HE.out]; decide, by rw [HE.out]⟩⟩
        · obtain rfl : k = l.length := by omega
          rw [List.drop_length] at hok
          have HOK := Lib.hid (show okL (-1) l = true from hok)
          have HBW := Lib.hid (HB.out.trans (hb.mono HB.out.size))
          have HAC := Lib.hid (HA.out.grow hb)
          have hsz := hb.size
          have hr := (okL_all HOK.out).1
          have hea := (okL_all HOK.out).2
          have HR := Lib.hid hr
          have HEA := Lib.hid hea
          clear hok hb hr hea HA HB
          obtain ⟨wq, hwq⟩ : ∃ wq : World, wq = wr := ⟨_, rfl⟩
          rw [← hwq] at HBW HAC hsz ⊢
          clear hwq
          go_wp2_with fail
          go_loopw [53] (fun i wr => ∃ k : Nat, k ≤ l.length ∧ i = .int .i64 k ∧ AccAt wr (w2.heap.size + 1) w2.heap.size k ⟨bud, sp, l.take k⟩ ∧ (k = 0 ∨ sumM (l.take k) ≤ bud - sp) ∧ Below w2.heap.size w2 wr) (fun i _ => l.length - (intOf i).toNat)
          case atStart => exact ⟨0, Nat.zero_le _, rfl, HAC.out, .inl rfl, HBW.out⟩
          case round =>
            obtain ⟨k, hk, rfl, hac, hsm, hb⟩ := hrel
            have htl := sum_take_le (l := l) (fun p hp => (HEA.out p hp).2.2.1) k
            have hok : (Fm.live ⟨bud, sp, l.take k⟩).Ok := by
              refine ⟨HC1.out, HC2.out, HR.out.sublist (List.take_sublist _ _), fun p hp => ?_, ?_⟩
              · have h1 := HEA.out p (List.mem_of_mem_take hp)
                exact ⟨by omega, (HWF.out p (List.mem_of_mem_take hp)).1.2, h1.2.1⟩
              · rcases hsm with rfl | h
                · simp [sumM]
                · have := HC1.out.2
                  have := HC2.out.1
                  show sumM (l.take k) ≤ _
                  omega
            by_cases hlt : k < l.length
            · obtain ⟨o, ho⟩ : ∃ o, l[k]? = some o := ⟨_, List.getElem?_eq_getElem hlt⟩
              obtain ⟨bq, off, rfl, hbq, q0, q1⟩ := (HL.out.grow hb).at_ ho
              have hpt := put_take HR.out ho
              have hst := sum_take ho
              have hle := (sum_take_le (l := l) (fun p hp => (HEA.out p hp).2.2.1) (k + 1)).2
              obtain ⟨⟨ob1, ob2⟩, ob3, ob4⟩ := HWF.out o (List.mem_of_getElem? ho)
              obtain ⟨ol, oc⟩ := o
              simp only at q0 q1 hpt hst ob1 ob2 ob3 ob4
              have HPT := Lib.hid hpt
              have HST := Lib.hid hst
              have HLE := Lib.hid hle
              have HA2 := Lib.hid hac
              have HOK2 := Lib.hid hok
              have HB2 := Lib.hid hb
              have HSM := Lib.hid hsm
              clear hpt hst hle hac hok hb hsm htl ho
              go_wp2_with fail
              obtain ⟨V, hV⟩ : ∃ V, V = wr.alloc (.cells #[.int .i64 ol, .int .i64 oc] 29) := ⟨_, rfl⟩
              have hx : Blk V wr.heap.size 29 #[.int .i64 ol, .int .i64 oc] := by rw [hV]; exact Blk.new wr _ _
              have hBV : Below wr.heap.size wr V := by rw [hV]; exact (Below.refl _ _).alloc (Nat.le_refl _) _
              rw [← hV]
              clear hV
              have HX := Lib.hid hx
              have HBV := Lib.hid (HB2.out.trans (hBV.mono HB2.out.size))
              have HAV := Lib.hid (HA2.out.grow hBV)
              have x0 : V.cell? ⟨wr.heap.size, 0, none⟩ = some (.int .i64 ol) := hx.cell 0
              have x1 : V.cell? ⟨wr.heap.size, 1, none⟩ = some (.int .i64 oc) := hx.cell 1
              have lx := hx.lt
              obtain ⟨fr, hfr⟩ : ∃ z, z = (Fm.live ⟨bud, sp, l.take k⟩).free := ⟨_, rfl⟩
              have hfr2 : fr = bud - sp - sumM (l.take k) := hfr
              have HFR := Lib.hid hfr
              have HFR2 := Lib.hid hfr2
              clear hx hBV hfr hfr2 q0 q1
              refine wp_region_F (Below V.heap.size V) [] (by kernel_rfl) ((Below.refl _ _).drew) (fun hS => ?_)
              refine wpAnyF_take (i := 0) (oi := { dst := some 57, op := Go.Op.fieldAddr 29 (Go.Operand.tmp 13) 1, type := 0, pos := "account.go:38", after := #[], guard := none }) (v := ?_) rfl (by kernel_rfl) (by kernel_rfl) (by kernel_rfl) (by kernel_rfl) (fun _ _ _ h => h) (Or.inl ⟨by rfl, ?_⟩) hS ?_
              rotate_left
              · intro w' hSw; have q0 := (hSw.cell (p := ⟨wr.heap.size, 1, none⟩) lx).trans x1; go_simp; try with_reducible rfl
              try simp only [Act.put, List.setIfInBounds_toArray, List.set_cons_zero, List.set_cons_succ]
              refine wpAnyF_take (i := 1) (oi := { dst := some 58, op := Go.Op.load 2 (Go.Operand.tmp 57), type := 2, pos := "account.go:38", after := #[{ on := 0, ground := Go.Ground.data }], guard := none }) (v := ?_) rfl (by kernel_rfl) (by kernel_rfl) (by kernel_rfl) (by kernel_rfl) (fun _ _ _ h => h) (Or.inl ⟨by rfl, ?_⟩) hS ?_
              rotate_left
              · intro w' hSw; have q0 := (hSw.cell (p := ⟨wr.heap.size, 1, none⟩) lx).trans x1; go_simp; try with_reducible rfl
              try simp only [Act.put, List.setIfInBounds_toArray, List.set_cons_zero, List.set_cons_succ]
              refine wpAnyF_take (i := 2) (oi := { dst := some 59, op := Go.Op.move (Go.Operand.tmp 8), type := 23, pos := "account.go:38", after := #[], guard := none }) (v := ?_) rfl (by kernel_rfl) (by kernel_rfl) (by kernel_rfl) (by kernel_rfl) (fun _ _ _ h => h) (Or.inl ⟨by rfl, ?_⟩) hS ?_
              rotate_left
              · intro w' hSw; have q0 := (hSw.cell (p := ⟨wr.heap.size, 1, none⟩) lx).trans x1; go_simp; try with_reducible rfl
              try simp only [Act.put, List.setIfInBounds_toArray, List.set_cons_zero, List.set_cons_succ]
              refine wpAnyF_ready (rs := [3]) (by kernel_rfl) (by simp) ?_
              refine AllReadyF.cons (o := { dst := some 60, op := Go.Op.call { callee := Go.Callee.value (Go.Operand.func 22), args := #[Go.Operand.tmp 59], argTypes := #[23] }, type := 2, pos := "account.go:38", after := #[{ on := 2, ground := Go.Ground.data }], guard := none }) rfl (by rfl) (fun K hK => ?_) ?_
              · go_simp
                refine (free_any (f := .live ⟨bud, sp, l.take k⟩) (w := V.drew) ⟨_, _, _, rfl, HAV.out.grow (Below.refl _ _).drew⟩ HOK2.out).mono ?_
                rintro e w7 ⟨rfl, hb7⟩
                rw [← HFR.out]
                refine hK.out _ _ ?_ (fun hS => ?_)
                · exact (Below.refl V.heap.size V).drew.trans (hb7.mono (by simp))
                clear hK K
                try simp only [Act.put, List.setIfInBounds_toArray, List.set_cons_zero, List.set_cons_succ]
                have HB7 := Lib.hid ((Below.refl V.heap.size V).drew.trans (hb7.mono (by simp)))
                clear hb7
                refine wpAnyF_take (i := 4) (oi := { dst := some 61, op := Go.Op.binOp Go.BinOp.gtr 2 (Go.Operand.tmp 58) (Go.Operand.tmp 60) 2, type := 4, pos := "account.go:38", after := #[{ on := 1, ground := Go.Ground.data }, { on := 3, ground := Go.Ground.data }], guard := none }) (v := ?_) rfl (by kernel_rfl) (by kernel_rfl) (by kernel_rfl) (by kernel_rfl) (fun _ _ _ h => h) (Or.inl ⟨by rfl, ?_⟩) hS ?_
                rotate_left
                · intro w' hSw; have q0 := (hSw.cell (p := ⟨wr.heap.size, 1, none⟩) lx).trans x1; go_simp; try with_reducible rfl
                try simp only [Act.put, List.setIfInBounds_toArray, List.set_cons_zero, List.set_cons_succ]
                refine wpAnyF_done (by kernel_rfl) ?_ _
                by_cases hgt : fr < oc
                · have HE := Lib.hid (ofE_big HC1.out HC2.out HOK.out (by have := HFR2.out; have := HST.out; have := HLE.out; omega))
                  go_wp2_with fail
                  refine bodyPost_ret (v := .tuple #[.pointer none, .int .i64 8]) (by simp [results, Try.results11, go_sem]) rfl ⟨HBV.out.trans (HB7.out.mono HBV.out.size), .inl ⟨by rw [HE.out]; decide, by rw [HE.out]⟩⟩
                · have HLEF := Lib.hid (show oc ≤ fr by omega)
                  have y0 : w7.cell? ⟨wr.heap.size, 0, none⟩ = some (.int .i64 ol) := (HB7.out.cell (p := ⟨wr.heap.size, 0, none⟩) lx).trans x0
                  have y1 : w7.cell? ⟨wr.heap.size, 1, none⟩ = some (.int .i64 oc) := (HB7.out.cell (p := ⟨wr.heap.size, 1, none⟩) lx).trans x1
                  have hA7 := HAV.out.grow HB7.out
                  have y2 : w7.cell? ⟨w2.heap.size + 1, 2, none⟩ = some (.map (some w2.heap.size)) := hA7.blk.cell 2
                  have lx7 := HB7.out.size
                  have la7 := hA7.blk.lt
                  obtain ⟨W8, hrun, hA8, hC8⟩ := (hA7.grow (Below.refl w7.heap.size w7).drew).put (by unfold maxLen; omega) (x := ol) (v := oc) ⟨ob1, ob2⟩ ⟨ob3, ob4⟩
                  have hb8 : Below w2.heap.size w2 W8 := (HBV.out.trans (HB7.out.mono HBV.out.size)).trans (((Below.refl w7.heap.size w7).drew.mono (by have := HBV.out.size; have := HB7.out.size; omega)).trans (hC8.below (by have := HBV.out.size; have := HB7.out.size; simp; omega) (fun k hk e => by omega)))
                  have HA8 := Lib.hid hA8
                  have HB8 := Lib.hid hb8
                  clear hA7 hA8 hC8 hb8
                  go_wp2_with fail
                  refine wp_region_F (Below w7.heap.size w7) [8] (by kernel_rfl) ((Below.refl _ _).drew) (fun hS => ?_)
                  refine wpAnyF_take (i := 0) (oi := { dst := some 62, op := Go.Op.move (Go.Operand.tmp 8), type := 23, pos := "account.go:41", after := #[], guard := none }) (v := ?_) rfl (by kernel_rfl) (by kernel_rfl) (by kernel_rfl) (by kernel_rfl) (fun _ _ _ h => h) (Or.inl ⟨by rfl, ?_⟩) hS ?_
                  rotate_left
                  · intro w' hSw; have q0 := (hSw.cell (p := ⟨wr.heap.size, 0, none⟩) (by simp; omega)).trans y0; have q1 := (hSw.cell (p := ⟨wr.heap.size, 1, none⟩) (by simp; omega)).trans y1; have q2 := (hSw.cell (p := ⟨w2.heap.size + 1, 2, none⟩) la7).trans y2; go_simp; try with_reducible rfl
                  try simp only [Act.put, List.setIfInBounds_toArray, List.set_cons_zero, List.set_cons_succ]
                  refine wpAnyF_take (i := 1) (oi := { dst := some 63, op := Go.Op.nilCheck (Go.Operand.tmp 62), type := 0, pos := "account.go:41", after := #[{ on := 0, ground := Go.Ground.data }], guard := none }) (v := ?_) rfl (by kernel_rfl) (by kernel_rfl) (by kernel_rfl) (by kernel_rfl) (fun _ _ _ h => h) (Or.inl ⟨by rfl, ?_⟩) hS ?_
                  rotate_left
                  · intro w' hSw; have q0 := (hSw.cell (p := ⟨wr.heap.size, 0, none⟩) (by simp; omega)).trans y0; have q1 := (hSw.cell (p := ⟨wr.heap.size, 1, none⟩) (by simp; omega)).trans y1; have q2 := (hSw.cell (p := ⟨w2.heap.size + 1, 2, none⟩) la7).trans y2; go_simp; try with_reducible rfl
                  try simp only [Act.put, List.setIfInBounds_toArray, List.set_cons_zero, List.set_cons_succ]
                  refine wpAnyF_take (i := 2) (oi := { dst := some 64, op := Go.Op.fieldAddr 67 (Go.Operand.tmp 63) 2, type := 0, pos := "account.go:41", after := #[{ on := 1, ground := Go.Ground.data }], guard := none }) (v := ?_) rfl (by kernel_rfl) (by kernel_rfl) (by kernel_rfl) (by kernel_rfl) (fun _ _ _ h => h) (Or.inl ⟨by rfl, ?_⟩) hS ?_
                  rotate_left
                  · intro w' hSw; have q0 := (hSw.cell (p := ⟨wr.heap.size, 0, none⟩) (by simp; omega)).trans y0; have q1 := (hSw.cell (p := ⟨wr.heap.size, 1, none⟩) (by simp; omega)).trans y1; have q2 := (hSw.cell (p := ⟨w2.heap.size + 1, 2, none⟩) la7).trans y2; go_simp; try with_reducible rfl
                  try simp only [Act.put, List.setIfInBounds_toArray, List.set_cons_zero, List.set_cons_succ]
                  refine wpAnyF_take (i := 3) (oi := { dst := some 65, op := Go.Op.load 65 (Go.Operand.tmp 64), type := 65, pos := "account.go:41", after := #[{ on := 2, ground := Go.Ground.data }], guard := none }) (v := ?_) rfl (by kernel_rfl) (by kernel_rfl) (by kernel_rfl) (by kernel_rfl) (fun _ _ _ h => h) (Or.inl ⟨by rfl, ?_⟩) hS ?_
                  rotate_left
                  · intro w' hSw; have q0 := (hSw.cell (p := ⟨wr.heap.size, 0, none⟩) (by simp; omega)).trans y0; have q1 := (hSw.cell (p := ⟨wr.heap.size, 1, none⟩) (by simp; omega)).trans y1; have q2 := (hSw.cell (p := ⟨w2.heap.size + 1, 2, none⟩) la7).trans y2; go_simp; try with_reducible rfl
                  try simp only [Act.put, List.setIfInBounds_toArray, List.set_cons_zero, List.set_cons_succ]
                  refine wpAnyF_take (i := 4) (oi := { dst := some 66, op := Go.Op.fieldAddr 29 (Go.Operand.tmp 13) 0, type := 0, pos := "account.go:41", after := #[], guard := none }) (v := ?_) rfl (by kernel_rfl) (by kernel_rfl) (by kernel_rfl) (by kernel_rfl) (fun _ _ _ h => h) (Or.inl ⟨by rfl, ?_⟩) hS ?_
                  rotate_left
                  · intro w' hSw; have q0 := (hSw.cell (p := ⟨wr.heap.size, 0, none⟩) (by simp; omega)).trans y0; have q1 := (hSw.cell (p := ⟨wr.heap.size, 1, none⟩) (by simp; omega)).trans y1; have q2 := (hSw.cell (p := ⟨w2.heap.size + 1, 2, none⟩) la7).trans y2; go_simp; try with_reducible rfl
                  try simp only [Act.put, List.setIfInBounds_toArray, List.set_cons_zero, List.set_cons_succ]
                  refine wpAnyF_take (i := 5) (oi := { dst := some 67, op := Go.Op.load 3 (Go.Operand.tmp 66), type := 3, pos := "account.go:41", after := #[{ on := 4, ground := Go.Ground.data }], guard := none }) (v := ?_) rfl (by kernel_rfl) (by kernel_rfl) (by kernel_rfl) (by kernel_rfl) (fun _ _ _ h => h) (Or.inl ⟨by rfl, ?_⟩) hS ?_
                  rotate_left
                  · intro w' hSw; have q0 := (hSw.cell (p := ⟨wr.heap.size, 0, none⟩) (by simp; omega)).trans y0; have q1 := (hSw.cell (p := ⟨wr.heap.size, 1, none⟩) (by simp; omega)).trans y1; have q2 := (hSw.cell (p := ⟨w2.heap.size + 1, 2, none⟩) la7).trans y2; go_simp; try with_reducible rfl
                  try simp only [Act.put, List.setIfInBounds_toArray, List.set_cons_zero, List.set_cons_succ]
                  refine wpAnyF_take (i := 6) (oi := { dst := some 68, op := Go.Op.fieldAddr 29 (Go.Operand.tmp 13) 1, type := 0, pos := "account.go:41", after := #[], guard := none }) (v := ?_) rfl (by kernel_rfl) (by kernel_rfl) (by kernel_rfl) (by kernel_rfl) (fun _ _ _ h => h) (Or.inl ⟨by rfl, ?_⟩) hS ?_
                  rotate_left
                  · intro w' hSw; have q0 := (hSw.cell (p := ⟨wr.heap.size, 0, none⟩) (by simp; omega)).trans y0; have q1 := (hSw.cell (p := ⟨wr.heap.size, 1, none⟩) (by simp; omega)).trans y1; have q2 := (hSw.cell (p := ⟨w2.heap.size + 1, 2, none⟩) la7).trans y2; go_simp; try with_reducible rfl
                  try simp only [Act.put, List.setIfInBounds_toArray, List.set_cons_zero, List.set_cons_succ]
                  refine wpAnyF_take (i := 7) (oi := { dst := some 69, op := Go.Op.load 2 (Go.Operand.tmp 68), type := 2, pos := "account.go:41", after := #[{ on := 6, ground := Go.Ground.data }], guard := none }) (v := ?_) rfl (by kernel_rfl) (by kernel_rfl) (by kernel_rfl) (by kernel_rfl) (fun _ _ _ h => h) (Or.inl ⟨by rfl, ?_⟩) hS ?_
                  rotate_left
                  · intro w' hSw; have q0 := (hSw.cell (p := ⟨wr.heap.size, 0, none⟩) (by simp; omega)).trans y0; have q1 := (hSw.cell (p := ⟨wr.heap.size, 1, none⟩) (by simp; omega)).trans y1; have q2 := (hSw.cell (p := ⟨w2.heap.size + 1, 2, none⟩) la7).trans y2; go_simp; try with_reducible rfl
                  try simp only [Act.put, List.setIfInBounds_toArray, List.set_cons_zero, List.set_cons_succ]
                  refine wpAnyF_ready (rs := [8]) (by kernel_rfl) (by simp) ?_
                  refine AllReadyF.fin (o := { dst := none, op := Go.Op.mapUpdate 65 (Go.Operand.tmp 65) (Go.Operand.tmp 67) (Go.Operand.tmp 69), type := 0, pos := "account.go:41", after := #[{ on := 3, ground := Go.Ground.data }, { on := 5, ground := Go.Ground.data }, { on := 7, ground := Go.Ground.data }, { on := 0, ground := Go.Ground.phase }, { on := 1, ground := Go.Ground.phase }, { on := 2, ground := Go.Ground.phase }, { on := 3, ground := Go.Ground.phase }, { on := 4, ground := Go.Ground.phase }, { on := 5, ground := Go.Ground.phase }, { on := 6, ground := Go.Ground.phase }, { on := 7, ground := Go.Ground.phase }], guard := none }) rfl (by rfl) (fun K hK => ?_) ?_
                  · go_simp
                    refine hK.out _ _ ?_
                    clear hK K
                    try simp only [Act.put, List.setIfInBounds_toArray, List.set_cons_zero, List.set_cons_succ]
                    refine wpAnyF_done (by kernel_rfl) ?_ _
                    go_wp2_with fail
                    go_roundw
                    case rel =>
                      refine ⟨k + 1, by omega, by go_num, ?_, .inr (by have := HFR2.out; have := HST.out; have := HLEF.out; omega), HB8.out⟩
                      have := HA8.out
                      simp only [HPT.out] at this
                      exact this
                    case measure => simp [intOf]; omega
                  exact AllReadyF.nil
              exact AllReadyF.nil
            · obtain rfl : k = l.length := by omega
              rw [List.take_length] at hac hok hsm
              obtain ⟨fr, hfr⟩ : ∃ z, z = (Fm.live ⟨bud, sp, l⟩).free := ⟨_, rfl⟩
              have hfr2 : fr = bud - sp - sumM l := hfr
              have HFR := Lib.hid hfr
              have HFR2 := Lib.hid hfr2
              have HA2 := Lib.hid hac
              have HOK2 := Lib.hid hok
              have HB2 := Lib.hid hb
              clear hac hok hb hsm htl hfr hfr2
              go_wp2_with fail
              refine (free_any (f := .live ⟨bud, sp, l⟩) ⟨_, _, _, rfl, HA2.out⟩ HOK2.out).mono ?_
              rintro e w7 ⟨rfl, hb7⟩
              rw [← HFR.out]
              have HB7 := Lib.hid (HB2.out.trans (hb7.mono HB2.out.size))
              have HA7 := Lib.hid (HA2.out.grow hb7)
              clear hb7
              by_cases hlt0 : fr < 0
              · have HE := Lib.hid (ofE_big HC1.out HC2.out HOK.out (by have := HFR2.out; omega))
                go_wp2_with fail
                refine bodyPost_ret (v := .tuple #[.pointer none, .int .i64 8]) (by simp [results, Try.results11, go_sem]) rfl ⟨HB7.out, .inl ⟨by rw [HE.out]; decide, by rw [HE.out]⟩⟩
              · have HE := Lib.hid (ofE_ok HC1.out HC2.out HOK.out (by have := HFR2.out; omega))
                go_wp2_with fail
                refine bodyPost_ret (v := .tuple #[.pointer (some ⟨w2.heap.size + 1, 0, none⟩), .int .i64 0]) (by simp [results, Try.results11, go_sem]) rfl ⟨HB7.out, .inr ⟨HE.out, rfl, HA7.out⟩⟩
    · have HD1 := Lib.hid (decide_eq_true c1)
      have HD2 := Lib.hid (decide_eq_false c2)
      have HE := Lib.hid (ofE_arg (bud := bud) (sp := sp) (l := l) (.inr (.inl c2)))
      clear c1 c2
      go_enter Try.func11, Try.ntmps11
      go_wp2_with fail
      refine (coins_any bud w).mono ?_
      rintro e w1 ⟨rfl, rfl⟩
      rw [HD1.out]
      go_wp2_with fail
      refine (coins_any sp w1).mono ?_
      rintro e w2 ⟨rfl, rfl⟩
      rw [HD2.out]
      go_wp2_with fail
      refine bodyPost_ret (v := .tuple #[.pointer none, .int .i64 2]) (by simp [results, Try.results11, go_sem]) rfl ⟨Below.refl _ _, .inl ⟨by rw [HE.out]; decide, by rw [HE.out]⟩⟩
  · have HD1 := Lib.hid (decide_eq_false c1)
    have HE := Lib.hid (ofE_arg (bud := bud) (sp := sp) (l := l) (.inl c1))
    clear c1
    go_enter Try.func11, Try.ntmps11
    go_wp2_with fail
    refine (coins_any bud w).mono ?_
    rintro e w1 ⟨rfl, rfl⟩
    rw [HD1.out]
    go_wp2_with fail
    refine bodyPost_ret (v := .tuple #[.pointer none, .int .i64 2]) (by simp [results, Try.results11, go_sem]) rfl ⟨Below.refl _ _, .inl ⟨by rw [HE.out]; decide, by rw [HE.out]⟩⟩
end Go.Proofs.Ytibhmgeckghoeaa.Ac

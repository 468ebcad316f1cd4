/- Account: the document's New, Of, Same. (Printed by tools/gen_refof.py.) -/
import Derived.Test.YtibhmgeckghoeaaAccRc
namespace Go.Proofs.Ytibhmgeckghoeaa.Ac
open Go.RowKit Go.Shelf Go.Maps
open Go.Proofs.Ytibhmgeckghoeaa.Vb
attribute [local go_sem] Oper.semAt_some

theorem refNew_any (bud : Int) (w : World) : Calls Try.prog 12 #[.int .i64 bud] w fun e w' => Below w.heap.size w w' ∧
    ((¬ coin bud ∧ e = .returned (.tuple #[.pointer none, .int .i64 2])) ∨ (coin bud ∧ e = .returned (.tuple #[.pointer (some ⟨w.heap.size, 0, none⟩), .int .i64 0]) ∧ RefFrom w.heap.size w' w.heap.size (newA bud))) := by
  by_cases hc : coin bud
  · have HD := Lib.hid (decide_eq_true hc)
    have HC := Lib.hid hc
    clear hc
    go_enter Try.func12, Try.ntmps12
    go_wp2_with fail
    refine (refCoins_any bud w).mono ?_
    rintro e w1 ⟨rfl, hw⟩
    rw [hw, HD.out]
    clear hw
    go_wp2_with fail
    refine bodyPost_ret (v := .tuple #[.pointer (some ⟨w.heap.size, 0, none⟩), .int .i64 0]) (by simp [results, Try.results12, go_sem]) rfl ⟨(Below.refl _ _).alloc (Nat.le_refl _) _, .inr ⟨HC.out, rfl, Nat.le_refl _, _, Blk.new w _ _, ⟨rfl, none, 0, rfl, Nat.le_refl _, Nat.zero_le _, fun h => absurd h (Nat.lt_irrefl 0)⟩⟩⟩
  · have HD := Lib.hid (decide_eq_false hc)
    have HC := Lib.hid hc
    clear hc
    go_enter Try.func12, Try.ntmps12
    go_wp2_with fail
    refine (refCoins_any bud w).mono ?_
    rintro e w1 ⟨rfl, hw⟩
    rw [hw, HD.out]
    clear hw
    go_wp2_with fail
    refine bodyPost_ret (v := .tuple #[.pointer none, .int .i64 2]) (by simp [results, Try.results12, go_sem]) rfl ⟨Below.refl _ _, .inl ⟨HC.out, rfl⟩⟩

theorem ok_false {la ol oc : Int} {b : Bool} (h : ¬ la < ol ∨ ¬ 1 ≤ oc ∨ ¬ coin oc) : (decide (la < ol) && decide (1 ≤ oc) && decide (coin oc) && b) = false := by rcases h with h | h | h <;> simp [h]
theorem ok_true {la ol oc : Int} {b : Bool} (h1 : la < ol) (h2 : 1 ≤ oc) (h3 : coin oc) : (decide (la < ol) && decide (1 ≤ oc) && decide (coin oc) && b) = b := by simp [h1, h2, h3]

set_option maxRecDepth 100000 in
set_option maxHeartbeats 8000000 in
theorem refOf_any {bud sp : Int} {l : HM} {v : Value} {R : Nat → Prop} {w : World} (h : Helds w R v l) :
    Calls Try.prog 13 #[.int .i64 bud, .int .i64 sp, v] w fun e w' => Below w.heap.size w w' ∧
      ((ofE bud sp l ≠ 0 ∧ e = .returned (.tuple #[.pointer none, .int .i64 (ofE bud sp l)])) ∨
       (ofE bud sp l = 0 ∧ ∃ g, w.heap.size ≤ g ∧ e = .returned (.tuple #[.pointer (some ⟨g, 0, none⟩), .int .i64 0]) ∧ RefFrom w.heap.size w' g ⟨bud, sp, l⟩)) := by
  have HL := Lib.hid h
  have HWF := Lib.hid h.2
  obtain ⟨⟨_, A, cap, rfl, hncap, hcap, _⟩, _⟩ := h
  unfold maxLen at hcap
  by_cases c1 : coin bud
  · have HD1 := Lib.hid (decide_eq_true c1)
    by_cases c2 : coin sp
    · have HC1 := Lib.hid c1
      have HC2 := Lib.hid c2
      have HD2 := Lib.hid (decide_eq_true c2)
      clear c1 c2
      go_enter Try.func13, Try.ntmps13
      go_wp2_with fail
      refine (refCoins_any bud _).mono ?_
      rintro e w1 ⟨rfl, hw⟩
      rw [hw, HD1.out]
      clear hw
      go_wp2_with fail
      refine (refCoins_any sp _).mono ?_
      rintro e w1 ⟨rfl, hw⟩
      rw [hw, HD2.out]
      clear hw
      go_wp2_with fail
      go_loopw [8] (fun i wr => ∃ k : Nat, k ≤ l.length ∧ i = .int .i64 k ∧ okL (-1) l = okL (lastL l k) (l.drop k) ∧ -1 ≤ lastL l k ∧ Below w.heap.size w wr) (fun i _ => l.length - (intOf i).toNat)
      case atStart => exact ⟨0, Nat.zero_le _, rfl, rfl, by simp [lastL], Below.refl _ _⟩
      case round =>
        obtain ⟨k, hk, rfl, hok, hla, hb⟩ := hrel
        have HB := Lib.hid hb
        have hsz := hb.size
        by_cases hlt : k < l.length
        · obtain ⟨o, ho⟩ : ∃ o, l[k]? = some o := ⟨_, List.getElem?_eq_getElem hlt⟩
          obtain ⟨bq, off, rfl, hbq, q0, q1⟩ := HL.out.at_ ho
          have hst := okL_step ho
          have hsl := lastL_succ ho
          have HOK := Lib.hid hok
          have HST := Lib.hid hst
          have HSL := Lib.hid hsl
          obtain ⟨⟨ob1, ob2⟩, ob3, ob4⟩ := HWF.out o (List.mem_of_getElem? ho)
          obtain ⟨ol, oc⟩ := o
          simp only at q0 q1 ob1 ob2 ob3 ob4
          have c0 : wr.cell? ⟨bq, off + k * 2, none⟩ = some (.int .i64 ol) := (HB.out.cell (p := ⟨bq, off + k * 2, none⟩) hbq).trans q0
          have c1 : wr.cell? ⟨bq, off + k * 2 + 1, none⟩ = some (.int .i64 oc) := (HB.out.cell (p := ⟨bq, off + k * 2 + 1, none⟩) hbq).trans q1
          have e1 : (0 : Int) ≤ (k : Int) := by omega
          have e2 : (k : Int) < (l.length : Int) := by omega
          clear hok hst hsl hb q0 q1
          rcases k with _ | k
          · have hz : lastL l 0 = -1 := rfl
            rw [hz] at HST
            have c0' : wr.cell? ⟨bq, off, none⟩ = some (.int .i64 ol) := by simpa using c0
            have c1' : wr.cell? ⟨bq, off + 1, none⟩ = some (.int .i64 oc) := by simpa using c1
            have e2' : (0 : Int) < (l.length : Int) := by omega
            have hl0 : l.length ≠ 0 := by omega
            clear c0 c1 e1 e2
            have d0 : decide (((0 : Nat) : Int) > 0) = false := decide_eq_false (by omega)
            have d0' : decide ((0 : Int) < ((0 : Nat) : Int)) = false := decide_eq_false (by omega)
            by_cases t1 : ol < 0
            · have HE := Lib.hid (ofE_arg (bud := bud) (sp := sp) (.inr (.inr (HOK.out.trans (HST.out.trans (ok_false (.inl (by omega))))))))
              have b1 : decide (ol < 0) = true := by simpa using t1
              clear t1
              skip
              go_wp2_with fail
              go_quiet (fail)
              go_wp2_with fail
              refine bodyPost_ret (v := .tuple #[.pointer none, .int .i64 2]) (by simp [results, Try.results13, go_sem]) rfl ⟨below_drewN HB.out _, .inl ⟨by rw [HE.out]; decide, by rw [HE.out]⟩⟩
            · by_cases t3 : oc < 1
              · have HE := Lib.hid (ofE_arg (bud := bud) (sp := sp) (.inr (.inr (HOK.out.trans (HST.out.trans (ok_false (.inr (.inl (by omega)))))))))
                have b1 : decide (ol < 0) = false := by simpa using t1
                have b3 : decide (oc < 1) = true := by simpa using t3
                clear t1 t3
                skip
                go_wp2_with fail
                go_quiet (fail)
                go_wp2_with fail
                refine bodyPost_ret (v := .tuple #[.pointer none, .int .i64 2]) (by simp [results, Try.results13, go_sem]) rfl ⟨below_drewN HB.out _, .inl ⟨by rw [HE.out]; decide, by rw [HE.out]⟩⟩
              · by_cases t4 : oc > 1099511627776
                · have HE := Lib.hid (ofE_arg (bud := bud) (sp := sp) (.inr (.inr (HOK.out.trans (HST.out.trans (ok_false (.inr (.inr (by unfold coin; omega)))))))))
                  have b1 : decide (ol < 0) = false := by simpa using t1
                  have b3 : decide (oc < 1) = false := by simpa using t3
                  have b4 : decide (oc > 1099511627776) = true := by simpa using t4
                  have b4' : decide (1099511627776 < oc) = true := by simpa using t4
                  clear t1 t3 t4
                  skip
                  go_wp2_with fail
                  go_quiet (fail)
                  go_wp2_with fail
                  refine bodyPost_ret (v := .tuple #[.pointer none, .int .i64 2]) (by simp [results, Try.results13, go_sem]) rfl ⟨below_drewN HB.out _, .inl ⟨by rw [HE.out]; decide, by rw [HE.out]⟩⟩
                · have HOK2 := Lib.hid (show okL (-1) l = okL (lastL l (0 + 1)) (l.drop (0 + 1)) from HOK.out.trans (HST.out.trans (ok_true (by  omega) (by omega) ⟨by omega, by omega⟩)))
                  have HX := Lib.hid (show 0 ≤ ol by omega)
                  have b1 : decide (ol < 0) = false := by simpa using t1
                  have b3 : decide (oc < 1) = false := by simpa using t3
                  have b4 : decide (oc > 1099511627776) = false := by simpa using t4
                  have b4' : decide (1099511627776 < oc) = false := by simpa using t4
                  clear t1 t3 t4
                  skip
                  go_wp2_with fail
                  go_quiet (fail)
                  go_wp2_with fail
                  go_roundw
                  case rel => exact ⟨0 + 1, by omega, by go_num, HOK2.out, by rw [HSL.out]; have := HX.out; omega, below_drewN HB.out _⟩
                  case measure => simp [intOf]; omega
          · obtain ⟨p, hp⟩ : ∃ p, l[k]? = some p := ⟨_, List.getElem?_eq_getElem (by omega)⟩
            obtain ⟨bp, off', hbp, _, p0, _⟩ := HL.out.at_ hp
            injection hbp with hbp
            injection hbp with hbp hof _
            subst hbp hof
            have hlp := lastL_succ hp
            obtain ⟨pl, pc⟩ := p
            simp only at p0 hlp
            rw [hlp] at hla
            have HPL := Lib.hid hlp
            have g0 : wr.cell? ⟨bq, off + k * 2, none⟩ = some (.int .i64 pl) := (HB.out.cell (p := ⟨bq, off + k * 2, none⟩) hbq).trans p0
            have hwk : IntKind.i64.wrap (((k + 1 : Nat) : Int) - 1) = (k : Int) := by rw [show (((k + 1 : Nat) : Int) - 1) = (k : Int) from by omega]; exact IntWalk.i64_in _ (by omega)
            have d0 : decide (((k + 1 : Nat) : Int) > 0) = true := decide_eq_true (by omega)
            have d0' : decide ((0 : Int) < ((k + 1 : Nat) : Int)) = true := decide_eq_true (by omega)
            have e3 : (0 : Int) ≤ (k : Int) := by omega
            have e4 : (k : Int) < (l.length : Int) := by omega
            clear p0 hp hlp
            by_cases t1 : ol < 0
            · have HE := Lib.hid (ofE_arg (bud := bud) (sp := sp) (.inr (.inr (HOK.out.trans (HST.out.trans (ok_false (.inl (by have := HPL.out; omega))))))))
              have b1 : decide (ol < 0) = true := by simpa using t1
              clear t1
              skip
              go_wp2_with fail
              go_quiet (fail)
              go_wp2_with fail
              refine bodyPost_ret (v := .tuple #[.pointer none, .int .i64 2]) (by simp [results, Try.results13, go_sem]) rfl ⟨below_drewN HB.out _, .inl ⟨by rw [HE.out]; decide, by rw [HE.out]⟩⟩
            · by_cases t2 : pl ≥ ol
              · have HE := Lib.hid (ofE_arg (bud := bud) (sp := sp) (.inr (.inr (HOK.out.trans (HST.out.trans (ok_false (.inl (by have := HPL.out; omega))))))))
                have b1 : decide (ol < 0) = false := by simpa using t1
                have b2 : decide (pl ≥ ol) = true := by simpa using t2
                have b2' : decide (ol ≤ pl) = true := by simpa using t2
                clear t1 t2
                skip
                go_wp2_with fail
                go_quiet (fail)
                go_wp2_with fail
                refine bodyPost_ret (v := .tuple #[.pointer none, .int .i64 2]) (by simp [results, Try.results13, go_sem]) rfl ⟨below_drewN HB.out _, .inl ⟨by rw [HE.out]; decide, by rw [HE.out]⟩⟩
              · by_cases t3 : oc < 1
                · have HE := Lib.hid (ofE_arg (bud := bud) (sp := sp) (.inr (.inr (HOK.out.trans (HST.out.trans (ok_false (.inr (.inl (by omega)))))))))
                  have b1 : decide (ol < 0) = false := by simpa using t1
                  have b2 : decide (pl ≥ ol) = false := by simpa using t2
                  have b2' : decide (ol ≤ pl) = false := by simpa using t2
                  have b3 : decide (oc < 1) = true := by simpa using t3
                  clear t1 t2 t3
                  skip
                  go_wp2_with fail
                  go_quiet (fail)
                  go_wp2_with fail
                  refine bodyPost_ret (v := .tuple #[.pointer none, .int .i64 2]) (by simp [results, Try.results13, go_sem]) rfl ⟨below_drewN HB.out _, .inl ⟨by rw [HE.out]; decide, by rw [HE.out]⟩⟩
                · by_cases t4 : oc > 1099511627776
                  · have HE := Lib.hid (ofE_arg (bud := bud) (sp := sp) (.inr (.inr (HOK.out.trans (HST.out.trans (ok_false (.inr (.inr (by unfold coin; omega)))))))))
                    have b1 : decide (ol < 0) = false := by simpa using t1
                    have b2 : decide (pl ≥ ol) = false := by simpa using t2
                    have b2' : decide (ol ≤ pl) = false := by simpa using t2
                    have b3 : decide (oc < 1) = false := by simpa using t3
                    have b4 : decide (oc > 1099511627776) = true := by simpa using t4
                    have b4' : decide (1099511627776 < oc) = true := by simpa using t4
                    clear t1 t2 t3 t4
                    skip
                    go_wp2_with fail
                    go_quiet (fail)
                    go_wp2_with fail
                    refine bodyPost_ret (v := .tuple #[.pointer none, .int .i64 2]) (by simp [results, Try.results13, go_sem]) rfl ⟨below_drewN HB.out _, .inl ⟨by rw [HE.out]; decide, by rw [HE.out]⟩⟩
                  · have HOK2 := Lib.hid (show okL (-1) l = okL (lastL l ((k + 1) + 1)) (l.drop ((k + 1) + 1)) from HOK.out.trans (HST.out.trans (ok_true (by have := HPL.out; omega) (by omega) ⟨by omega, by omega⟩)))
                    have HX := Lib.hid (show 0 ≤ ol by omega)
                    have b1 : decide (ol < 0) = false := by simpa using t1
                    have b2 : decide (pl ≥ ol) = false := by simpa using t2
                    have b2' : decide (ol ≤ pl) = false := by simpa using t2
                    have b3 : decide (oc < 1) = false := by simpa using t3
                    have b4 : decide (oc > 1099511627776) = false := by simpa using t4
                    have b4' : decide (1099511627776 < oc) = false := by simpa using t4
                    clear t1 t2 t3 t4
                    skip
                    go_wp2_with fail
                    go_quiet (fail)
                    go_wp2_with fail
                    go_roundw
                    case rel => exact ⟨(k + 1) + 1, by omega, by go_num, HOK2.out, by rw [HSL.out]; have := HX.out; omega, below_drewN HB.out _⟩
                    case measure => simp [intOf]; omega
        · obtain rfl : k = l.length := by omega
          rw [List.drop_length] at hok
          have HOK := Lib.hid (show okL (-1) l = true from hok)
          have hea := (okL_all HOK.out).2
          have HEA := Lib.hid hea
          obtain ⟨b1, b2⟩ := HC1.out
          obtain ⟨s1, s2⟩ := HC2.out
          have hwr : IntKind.i64.wrap (bud - sp) = bud - sp := IntWalk.i64_in _ (by omega)
          clear hok hb hea hla
          obtain ⟨wq, hwq⟩ : ∃ wq : World, wq = wr := ⟨_, rfl⟩
          rw [← hwq] at HB hsz ⊢
          clear hwq
          go_wp2_with fail
          go_loopw [9, 10] (fun s i wr => ∃ k : Nat, k ≤ l.length ∧ i = .int .i64 k ∧ s = .int .i64 (bud - sp - sumM (l.take k)) ∧ sumM (l.take k) ≤ 2199023255552 ∧ wr = wq) (fun _ i _ => l.length - (intOf i).toNat)
          case atStart => exact ⟨0, Nat.zero_le _, rfl, by simp [sumM], by simp [sumM], rfl⟩
          case round =>
            obtain ⟨k, hk, rfl, rfl, hsm, hw⟩ := hrel
            rw [hw]
            clear hw
            have htl := sum_take_le (l := l) (fun p hp => (HEA.out p hp).2.2.1) k
            by_cases hlt : k < l.length
            · by_cases hneg : bud - sp - sumM (l.take k) < 0
              · have HE := Lib.hid (ofE_big HC1.out HC2.out HOK.out (by omega))
                have b0 : decide (bud - sp - sumM (l.take k) ≥ 0) = false := decide_eq_false (by omega)
                have b0' : decide (0 ≤ bud - sp - sumM (l.take k)) = false := decide_eq_false (by omega)
                have b1 : decide (bud - sp - sumM (l.take k) < 0) = true := decide_eq_true (by omega)
                have e2 : (k : Int) < (l.length : Int) := by omega
                obtain ⟨z, hz⟩ : ∃ z, z = bud - sp - sumM (l.take k) := ⟨_, rfl⟩
                rw [← hz] at b0 b0' b1 ⊢
                clear hz hneg htl hsm
                go_wp2_with fail
                refine bodyPost_ret (v := .tuple #[.pointer none, .int .i64 8]) (by simp [results, Try.results13, go_sem]) rfl ⟨HB.out, .inl ⟨by rw [HE.out]; decide, by rw [HE.out]⟩⟩
              · obtain ⟨o, ho⟩ : ∃ o, l[k]? = some o := ⟨_, List.getElem?_eq_getElem hlt⟩
                obtain ⟨bq, off, rfl, hbq, q0, q1⟩ := (HL.out.grow HB.out).at_ ho
                have hst := sum_take ho
                have hoc := (HEA.out o (List.mem_of_getElem? ho)).2
                obtain ⟨hoc1, hoc2⟩ := hoc.2
                obtain ⟨ol, oc⟩ := o
                simp only at q0 q1 hst hoc1 hoc2
                have e1 : (0 : Int) ≤ (k : Int) := by omega
                have e2 : (k : Int) < (l.length : Int) := by omega
                obtain ⟨z, hz⟩ : ∃ z, z = bud - sp - sumM (l.take k) := ⟨_, rfl⟩
                rw [← hz] at hneg ⊢
                have b0 : decide (z ≥ 0) = true := decide_eq_true (by omega)
                have b0' : decide (0 ≤ z) = true := decide_eq_true (by omega)
                have hwz : IntKind.i64.wrap (z - oc) = z - oc := IntWalk.i64_in _ (by omega)
                have HZ := Lib.hid (show bud - sp - sumM (l.take (k + 1)) = z - oc from by rw [hst, hz]; omega)
                have HSM := Lib.hid (show sumM (l.take (k + 1)) ≤ 2199023255552 from by rw [hst]; omega)
                clear hst hz htl hsm hneg ho hoc hoc1 hoc2
                go_wp2_with fail
                go_roundw
                case rel => exact ⟨k + 1, by omega, by go_num, by rw [HZ.out], HSM.out, trivial⟩
                case measure => simp [intOf]; omega
            · obtain rfl : k = l.length := by omega
              rw [List.take_length] at htl hsm ⊢
              obtain ⟨z, hz⟩ : ∃ z, z = bud - sp - sumM l := ⟨_, rfl⟩
              rw [← hz]
              by_cases hneg : z < 0
              · have HE := Lib.hid (ofE_big HC1.out HC2.out HOK.out (by omega))
                clear hz htl hsm
                go_wp2_with fail
                refine bodyPost_ret (v := .tuple #[.pointer none, .int .i64 8]) (by simp [results, Try.results13, go_sem]) rfl ⟨HB.out, .inl ⟨by rw [HE.out]; decide, by rw [HE.out]⟩⟩
              · have HE := Lib.hid (ofE_ok HC1.out HC2.out HOK.out (by omega))
                have hll : l.length ≤ 1099511627776 := by
                  have := len_le_sum fun p hp => (HEA.out p hp).2.1
                  omega
                have HLW := Lib.hid (HL.out.grow HB.out).1
                clear hz htl hsm
                go_wp2_with (at_builtin; refine wpList_app _ rfl (.const (.slice none 0 0)) (.tmp 89) et_held rfl w.heap.size (.slice none 0 0) 0 [] rfl (World.ownsRow_nil _ _ _ _) R _ l.length (hcells l) rfl HLW.out (hcells_one l) (by omega) (by unfold maxLen; omega) hsz ?_; intro A2 c2 w3 hown hg hloc; rw [Nat.zero_add, List.nil_append] at hown; rw [Nat.zero_add]; have hb3 := HB.out.grown hg (by omega) (fun g e => by simp [Value.ownBlock] at e); have HN3 := Lib.hid hown; have HB3 := Lib.hid hb3; clear hown hg hloc hb3)
                have h3 := HB3.out.size
                refine bodyPost_ret (v := .tuple #[.pointer (some ⟨w3.heap.size, 0, none⟩), .int .i64 0]) (by simp [results, Try.results13, go_sem]) rfl ⟨HB3.out.alloc h3 _, .inr ⟨HE.out, _, h3, rfl, h3, _, Blk.new w3 _ _, HeldsF.of_own (own_grow HN3.out ((Below.refl _ _).alloc (Nat.le_refl _) _))⟩⟩
    · have HD2 := Lib.hid (decide_eq_false c2)
      have HE := Lib.hid (ofE_arg (bud := bud) (sp := sp) (l := l) (.inr (.inl c2)))
      clear c1 c2
      go_enter Try.func13, Try.ntmps13
      go_wp2_with fail
      refine (refCoins_any bud _).mono ?_
      rintro e w1 ⟨rfl, hw⟩
      rw [hw, HD1.out]
      clear hw
      go_wp2_with fail
      refine (refCoins_any sp _).mono ?_
      rintro e w1 ⟨rfl, hw⟩
      rw [hw, HD2.out]
      clear hw
      go_wp2_with fail
      refine bodyPost_ret (v := .tuple #[.pointer none, .int .i64 2]) (by simp [results, Try.results13, go_sem]) rfl ⟨Below.refl _ _, .inl ⟨by rw [HE.out]; decide, by rw [HE.out]⟩⟩
  · have HD1 := Lib.hid (decide_eq_false c1)
    have HE := Lib.hid (ofE_arg (bud := bud) (sp := sp) (l := l) (.inl c1))
    clear c1
    go_enter Try.func13, Try.ntmps13
    go_wp2_with fail
    refine (refCoins_any bud _).mono ?_
    rintro e w1 ⟨rfl, hw⟩
    rw [hw, HD1.out]
    clear hw
    go_wp2_with fail
    refine bodyPost_ret (v := .tuple #[.pointer none, .int .i64 2]) (by simp [results, Try.results13, go_sem]) rfl ⟨Below.refl _ _, .inl ⟨by rw [HE.out]; decide, by rw [HE.out]⟩⟩
end Go.Proofs.Ytibhmgeckghoeaa.Ac

/- Stats: the document's add. (Printed by tools/gen_sxb.py.) -/
import Derived.Test.YtidejikolcgojaaGreatSxA
namespace Go.Proofs.YtidejikolcgojaaGreat.St
open Go.RowKit Go.Shelf
open Go.Proofs.YtidejikolcgojaaGreat.Vb Go.Proofs.YtidejikolcgojaaGreat.Ac

theorem et_pair : ElemT Tryz.prog 67 71 2 16 := elemT_of Tryz.underlying67 (by omega) (z := .agg #[.int .i64 0, .int .i64 0]) (by kernel_rfl) rfl
abbrev PairT : TypeId := 71
theorem ownP_form {w : World} {lo g n c : Nat} {xs : List Value} {e : TypeId} {sz : Nat} (h : w.ownsRow lo e sz (.slice (some ⟨g, 0, none⟩) n c) n xs) : g < w.heap.size ∧ lo ≤ g ∧ n ≤ c ∧ c ≤ maxLen := by
  rcases h.2 with ⟨h0, _⟩ | ⟨g', cp, cur, hv, hb, hg, h1, h2, _⟩
  · cases h0
  · injection hv with hA _ hc
    injection hA with hA
    injection hA with hA _
    subst hA hc
    exact ⟨(Array.getElem?_eq_some_iff.1 hg).1, hb, h1, h2⟩
theorem own_takeP {w : World} {lo g n c k : Nat} {M : HM} {e : TypeId} (h : w.ownsRow lo e 2 (.slice (some ⟨g, 0, none⟩) n c) n (pcells M)) (hn : M.length = n) (hk : k ≤ n) : Sl w (· = g) (.slice (some ⟨g, 0, none⟩) k c) k 2 (pcells (M.take k)) := by
  obtain ⟨h1, h2, h3, h4⟩ := ownP_form h
  refine ⟨by rw [pcells_length, List.length_take]; omega, _, _, rfl, by omega, h4, fun _ => ⟨g, 0, rfl, rfl, h1, fun j u hu => ?_⟩⟩
  have hj := (List.getElem?_eq_some_iff.1 hu).1
  rw [pcells_length, List.length_take] at hj
  rw [Nat.zero_add, h.cellAt j (by omega), ← List.take_append_drop k M, pcells_append, List.getElem?_append_left (by rw [pcells_length, List.length_take]; omega)]
  exact hu
theorem own_dropP {w : World} {lo g n c k : Nat} {M : HM} {e : TypeId} (h : w.ownsRow lo e 2 (.slice (some ⟨g, 0, none⟩) n c) n (pcells M)) (hn : M.length = n) (hk : k < n) : Sl w (· = g) (.slice (some ⟨g, k * 2, none⟩) (n - k) (c - k)) (n - k) 2 (pcells (M.drop k)) := by
  obtain ⟨h1, h2, h3, h4⟩ := ownP_form h
  refine ⟨by rw [pcells_length, List.length_drop]; omega, _, _, rfl, by omega, by omega, fun _ => ⟨g, k * 2, rfl, rfl, h1, fun j u hu => ?_⟩⟩
  have hj := (List.getElem?_eq_some_iff.1 hu).1
  rw [pcells_length, List.length_drop] at hj
  rw [← pcells_drop M k (by omega), List.getElem?_drop] at hu
  rw [h.cellAt (k * 2 + j) (by omega)]
  exact hu
theorem sl_zero {w : World} {A : Option Addr} {c sz : Nat} (hc : c ≤ maxLen) : Sl w (fun _ => True) (.slice A 0 c) 0 sz [] := ⟨by simp, A, c, rfl, Nat.zero_le _, hc, fun h => absurd h (by decide)⟩
set_option maxRecDepth 100000 in
set_option maxHeartbeats 8000000 in
theorem refadd_any {M : HM} {v : Value} {lo : Nat} {w : World} {n c : Int} (h : w.ownsRow lo PairT 2 v M.length (pcells M)) (hn0 : M = [] → v = .slice none 0 0) (hr : Rising M) (hle : M.length ≤ 1000) (hlo : lo ≤ w.heap.size) (hc : int64b c) :
    Calls Tryz.prog 76 #[v, .int .i64 n, .int .i64 c] w fun e w' => ∃ A' c', e = .returned (.slice A' (addP M n c).length c') ∧ w'.ownsRow lo PairT 2 (.slice A' (addP M n c).length c') (addP M n c).length (pcells (addP M n c)) ∧ Below lo w w' := by
  have HLO := Lib.hid hlo
  have HR := Lib.hid hr
  have HC := Lib.hid hc
  by_cases hm : M = []
  · obtain rfl := hn0 hm
    subst hm
    obtain ⟨M, hM⟩ : ∃ M : HM, M = [] := ⟨_, rfl⟩
    have HSP := Lib.hid (show addP M n c = [] ++ [(n, c)] by rw [hM]; exact addP_new (q := 0) hr (Nat.le_refl _) (fun i p hi => absurd hi (by omega)) (fun p hp => by cases hp) hc)
    have hml : M.length = 0 := by rw [hM]; rfl
    rw [← hM]
    clear h hn0 hr hlo hc hM
    go_enter Tryz.func76, Tryz.ntmps76
    go_wp2_with fail
    go_loopw [7] (fun i W => i = .int .i64 0 ∧ W = w) (fun _ _ => 0)
    case atStart => exact ⟨rfl, rfl⟩
    case round =>
      obtain ⟨rfl, hW⟩ := hrel
      subst hW
      go_wp2_with (first | (at_builtin; (refine wpList_app _ rfl (.const (.slice none 0 0)) (.tmp 51) et_pair rfl wr.heap.size (.slice none 0 0) 0 [] rfl (World.ownsRow_nil _ _ _ _) _ (.slice none 0 0) 0 ([] : List Value) rfl (sl_zero (w := wr) (by unfold maxLen; omega)) (pcells_one []) (by omega) (by unfold maxLen; omega) (Nat.le_refl _) ?_; intro A1 c1 w1 hown hg _; rw [Nat.zero_add] at hown ⊢; rw [List.nil_append] at hown; have HO1 := Lib.hid hown; have HB1 := Lib.hid ((Below.refl wr.heap.size wr).grown hg (Nat.le_refl _) (fun r e => by cases e)); have hs1 := HB1.out.size; clear hown hg)) | (at_builtin; (refine wpList_app _ rfl (.tmp 53) (.tmp 57) et_pair rfl wr.heap.size (.slice A1 0 c1) 0 ([] : List Value) rfl (own_grow HO1.out ((Below.refl w1.heap.size w1).alloc (Nat.le_refl _) (.cells #[.int .i64 n, .int .i64 c] 71))) (fun _ => True) (.slice (some ⟨w1.heap.size, 0, none⟩) 1 1) 1 [.int .i64 n, .int .i64 c] rfl ((Sl.new w1 #[.int .i64 n, .int .i64 c] 71 1 2 (by unfold maxLen; omega) rfl).mono fun _ _ _ => trivial) (by simp [Value.oneCell']) (by omega) (by unfold maxLen; omega) (by simp; omega) ?_; intro A2 c2 w2 hown hg _; have HB2 := Lib.hid ((HB1.out.alloc hs1 (.cells #[.int .i64 n, .int .i64 c] 71)).grown hg (by simp; omega) (fun r e => (HO1.out.lt r e).1)); have hs2 := HB2.out.size; have HO2 := Lib.hid hown; clear hown hg)) | (at_builtin; go_must (refine wpList_app _ rfl (.tmp 59) (.tmp 62) et_pair rfl wr.heap.size (.slice A2 (0 + 1) c2) (0 + 1) (([] : List Value) ++ [.int .i64 n, .int .i64 c]) rfl HO2.out (fun _ => True) (.slice none 0 0) 0 [] rfl ((sl_zero (w := wr) (by unfold maxLen; omega)).grow HB2.out) (by simp) (by omega) (by unfold maxLen; omega) hs2 ?_; intro A3 c3 w3 hown hg _; have HB3 := Lib.hid (HB2.out.grown hg hs2 (fun r e => (HO2.out.lt r e).1)); have HO3 := Lib.hid hown; clear hown hg)))
      go_ret
      refine ⟨A3, c3, ?_, ?_, HB3.out.mono HLO.out⟩
      · rw [HSP.out, List.length_append, List.length_singleton]
        rfl
      · rw [HSP.out, List.length_append, List.length_singleton, pcells_append]
        have h := own_mono HO3.out HLO.out
        rw [List.append_nil] at h
        exact h
  · have hpos : 0 < M.length := List.length_pos_iff.2 hm
    obtain ⟨g, cap, rfl, hlg, hg2⟩ := World.ownsRow.form h hpos
    obtain ⟨_, hlg2, hc1, hc2⟩ := ownP_form h
    have HO := Lib.hid h
    have HPO := Lib.hid hpos
    unfold maxLen at hc2
    clear hn0 h hr hlo hc hm
    go_enter Tryz.func76, Tryz.ntmps76
    go_wp2_with fail
    go_loopw [7] (fun i W => ∃ q : Nat, q ≤ M.length ∧ i = .int .i64 q ∧ (∀ i p, i < q → M[i]? = some p → p.1 < n) ∧ W = w) (fun i _ => M.length - (intOf i).toNat)
    case atStart => exact ⟨0, Nat.zero_le _, rfl, fun i p h => absurd h (by omega), rfl⟩
    case round =>
      obtain ⟨q, hq, rfl, hall, hW⟩ := hrel
      subst hW
      have HAL := Lib.hid hall
      clear hall
      have e1 : (0 : Int) ≤ (q : Int) := by omega
      have e2 : (q : Int) ≤ (M.length : Int) := by omega
      have e3 : (q : Int) ≤ (cap : Int) := by omega
      have e4 : (q : Int).toNat = q := by omega
      have e5 : (M.length : Int) ≤ (cap : Int) := by omega
      have e6 : ¬ cap = 0 := by omega
      by_cases hlt : q < M.length
      · obtain ⟨p, hp⟩ : ∃ p, M[q]? = some p := ⟨_, List.getElem?_eq_getElem hlt⟩
        have p0 := (HO.out.cellAt (q * 2) (by omega)).trans (pcells_fst M q p hp)
        have p1 := (HO.out.cellAt (q * 2 + 1) (by omega)).trans (pcells_snd M q p hp)
        have p2 := HO.out.frozenAt (q * 2 + 1)
        have e7 : (q : Int) < (M.length : Int) := by omega
        have d1 : decide ((q : Int) < (M.length : Int)) = true := by simp; omega
        obtain ⟨pn, pv⟩ := p
        dsimp only at p0 p1
        have HP := Lib.hid hp
        clear hp
        by_cases h1 : pn < n
        · have d2 : decide (pn < n) = true := by simpa using h1
          have H1 := Lib.hid h1
          clear h1 p1 p2
          go_wp2_with fail
          go_roundw
          case rel => exact ⟨q + 1, by omega, by go_num, fun i p hi hp => by
            by_cases hiq : i = q
            · subst hiq
              rw [HP.out] at hp
              injection hp with hp
              rw [← hp]
              exact H1.out
            · exact HAL.out i p (by omega) hp, trivial⟩
          case measure => simp [intOf]; omega
        · have d2 : decide (pn < n) = false := by simpa using h1
          by_cases h2 : pn = n
          · subst h2
            obtain ⟨cw, hcw⟩ : ∃ z, IntKind.i64.wrap (pv + c) = z := ⟨_, rfl⟩
            have HSP := Lib.hid (show addP M pn c = M.set q (pn, cw) by rw [← hcw]; exact addP_in (c := c) HR.out HAL.out HP.out)
            have HST := Lib.hid (show (wr.setCell ⟨g, q * 2 + 1, none⟩ (.int .i64 cw)).ownsRow lo PairT 2 (.slice (some ⟨g, 0, none⟩) M.length cap) M.length (pcells (M.set q (pn, cw))) by
              have h := (World.ownsRow.stored HO.out (q * 2 + 1) (.int .i64 cw)).1
              rw [pcells_set M q pn pv _ HP.out] at h
              exact h)
            have HBS := Lib.hid ((Below.refl lo wr).setCell (p := ⟨g, q * 2 + 1, none⟩) hlg2 (.int .i64 cw))
            have d3 : ((pn : Int) == pn) = true := by simp
            clear h1
            go_wp2_with fail
            go_ret
            exact ⟨some ⟨g, 0, none⟩, cap, by rw [HSP.out, List.length_set]; rfl, by rw [HSP.out, List.length_set]; exact HST.out, HBS.out⟩
          · have d3 : ((pn : Int) == n) = false := by simpa using h2
            have HSP := Lib.hid (addP_new HR.out hq HAL.out (fun p hp => by rw [HP.out] at hp; injection hp with hp; rw [← hp]; show n < pn; omega) HC.out)
            have HTK := Lib.hid (own_takeP HO.out rfl hq)
            have HDR := Lib.hid (own_dropP HO.out rfl hlt)
            have e8 : ¬ cap = q := by omega
            clear h1 h2 p1 p2
            go_wp2_with (first | (at_builtin; (refine wpList_app _ rfl (.const (.slice none 0 0)) (.tmp 51) et_pair rfl wr.heap.size (.slice none 0 0) 0 [] rfl (World.ownsRow_nil _ _ _ _) (· = g) _ q (pcells (M.take q)) rfl HTK.out (pcells_one _) (by omega) (by unfold maxLen; omega) (Nat.le_refl _) ?_; intro A1 c1 w1 hown hg _; rw [Nat.zero_add] at hown ⊢; rw [List.nil_append] at hown; have HO1 := Lib.hid hown; have HB1 := Lib.hid ((Below.refl wr.heap.size wr).grown hg (Nat.le_refl _) (fun r e => by cases e)); have hs1 := HB1.out.size; clear hown hg)) | (at_builtin; (refine wpList_app _ rfl (.tmp 53) (.tmp 57) et_pair rfl wr.heap.size (.slice A1 q c1) q (pcells (M.take q)) rfl (own_grow HO1.out ((Below.refl w1.heap.size w1).alloc (Nat.le_refl _) (.cells #[.int .i64 n, .int .i64 c] 71))) (fun _ => True) (.slice (some ⟨w1.heap.size, 0, none⟩) 1 1) 1 [.int .i64 n, .int .i64 c] rfl ((Sl.new w1 #[.int .i64 n, .int .i64 c] 71 1 2 (by unfold maxLen; omega) rfl).mono fun _ _ _ => trivial) (by simp [Value.oneCell']) (by omega) (by unfold maxLen; omega) (by simp; omega) ?_; intro A2 c2 w2 hown hg _; have HB2 := Lib.hid ((HB1.out.alloc hs1 (.cells #[.int .i64 n, .int .i64 c] 71)).grown hg (by simp; omega) (fun r e => (HO1.out.lt r e).1)); have hs2 := HB2.out.size; have HO2 := Lib.hid hown; clear hown hg)) | (at_builtin; go_must (refine wpList_app _ rfl (.tmp 59) (.tmp 62) et_pair rfl wr.heap.size (.slice A2 (q + 1) c2) (q + 1) (pcells (M.take q) ++ [.int .i64 n, .int .i64 c]) rfl HO2.out (· = g) _ (M.length - q) (pcells (M.drop q)) rfl (HDR.out.grow HB2.out) (pcells_one _) (by omega) (by unfold maxLen; omega) hs2 ?_; intro A3 c3 w3 hown hg _; have HB3 := Lib.hid (HB2.out.grown hg hs2 (fun r e => (HO2.out.lt r e).1)); have HO3 := Lib.hid hown; clear hown hg)))
            go_ret
            refine ⟨A3, c3, ?_, ?_, HB3.out.mono HLO.out⟩
            · rw [HSP.out, List.length_append, List.length_cons, List.length_take, List.length_drop, show min q M.length + (M.length - q + 1) = q + 1 + (M.length - q) by omega]
              rfl
            · rw [HSP.out, List.length_append, List.length_cons, List.length_take, List.length_drop, show min q M.length + (M.length - q + 1) = q + 1 + (M.length - q) by omega, pcells_append]
              have h := own_mono HO3.out HLO.out
              rw [List.append_assoc] at h
              exact h
      · obtain rfl : q = M.length := by omega
        have d1 : decide ((M.length : Int) < (M.length : Int)) = false := by simp
        have HSP := Lib.hid (show addP M n c = M ++ [(n, c)] by
          have h := addP_new HR.out hq HAL.out (fun p hp => absurd (List.getElem?_eq_some_iff.1 hp).1 (by omega)) HC.out
          rwa [List.take_length, List.drop_length] at h)
        have HTK := Lib.hid (show Sl wr (· = g) (.slice (some ⟨g, 0, none⟩) M.length cap) M.length 2 (pcells M) by have h := own_takeP HO.out rfl hq; rwa [List.take_length] at h)
        by_cases e8 : cap = M.length
        · subst e8
          go_wp2_with (first | (at_builtin; (refine wpList_app _ rfl (.const (.slice none 0 0)) (.tmp 51) et_pair rfl wr.heap.size (.slice none 0 0) 0 [] rfl (World.ownsRow_nil _ _ _ _) _ _ M.length (pcells M) rfl HTK.out (pcells_one _) (by omega) (by unfold maxLen; omega) (Nat.le_refl _) ?_; intro A1 c1 w1 hown hg _; rw [Nat.zero_add] at hown ⊢; rw [List.nil_append] at hown; have HO1 := Lib.hid hown; have HB1 := Lib.hid ((Below.refl wr.heap.size wr).grown hg (Nat.le_refl _) (fun r e => by cases e)); have hs1 := HB1.out.size; clear hown hg)) | (at_builtin; (refine wpList_app _ rfl (.tmp 53) (.tmp 57) et_pair rfl wr.heap.size (.slice A1 M.length c1) M.length (pcells M) rfl (own_grow HO1.out ((Below.refl w1.heap.size w1).alloc (Nat.le_refl _) (.cells #[.int .i64 n, .int .i64 c] 71))) (fun _ => True) (.slice (some ⟨w1.heap.size, 0, none⟩) 1 1) 1 [.int .i64 n, .int .i64 c] rfl ((Sl.new w1 #[.int .i64 n, .int .i64 c] 71 1 2 (by unfold maxLen; omega) rfl).mono fun _ _ _ => trivial) (by simp [Value.oneCell']) (by omega) (by unfold maxLen; omega) (by simp; omega) ?_; intro A2 c2 w2 hown hg _; have HB2 := Lib.hid ((HB1.out.alloc hs1 (.cells #[.int .i64 n, .int .i64 c] 71)).grown hg (by simp; omega) (fun r e => (HO1.out.lt r e).1)); have hs2 := HB2.out.size; have HO2 := Lib.hid hown; clear hown hg)) | (at_builtin; go_must (refine wpList_app _ rfl (.tmp 59) (.tmp 62) et_pair rfl wr.heap.size (.slice A2 (M.length + 1) c2) (M.length + 1) ((pcells M) ++ [.int .i64 n, .int .i64 c]) rfl HO2.out (fun _ => True) _ 0 [] rfl ((sl_zero (by unfold maxLen; omega)).grow HB2.out) (by simp) (by omega) (by unfold maxLen; omega) hs2 ?_; intro A3 c3 w3 hown hg _; have HB3 := Lib.hid (HB2.out.grown hg hs2 (fun r e => (HO2.out.lt r e).1)); have HO3 := Lib.hid hown; clear hown hg)))
          go_ret
          refine ⟨A3, c3, ?_, ?_, HB3.out.mono HLO.out⟩
          · rw [HSP.out, List.length_append, List.length_singleton]
            rfl
          · rw [HSP.out, List.length_append, List.length_singleton, pcells_append]
            have h := own_mono HO3.out HLO.out
            rw [List.append_nil] at h
            exact h
        · go_wp2_with (first | (at_builtin; (refine wpList_app _ rfl (.const (.slice none 0 0)) (.tmp 51) et_pair rfl wr.heap.size (.slice none 0 0) 0 [] rfl (World.ownsRow_nil _ _ _ _) _ _ M.length (pcells M) rfl HTK.out (pcells_one _) (by omega) (by unfold maxLen; omega) (Nat.le_refl _) ?_; intro A1 c1 w1 hown hg _; rw [Nat.zero_add] at hown ⊢; rw [List.nil_append] at hown; have HO1 := Lib.hid hown; have HB1 := Lib.hid ((Below.refl wr.heap.size wr).grown hg (Nat.le_refl _) (fun r e => by cases e)); have hs1 := HB1.out.size; clear hown hg)) | (at_builtin; (refine wpList_app _ rfl (.tmp 53) (.tmp 57) et_pair rfl wr.heap.size (.slice A1 M.length c1) M.length (pcells M) rfl (own_grow HO1.out ((Below.refl w1.heap.size w1).alloc (Nat.le_refl _) (.cells #[.int .i64 n, .int .i64 c] 71))) (fun _ => True) (.slice (some ⟨w1.heap.size, 0, none⟩) 1 1) 1 [.int .i64 n, .int .i64 c] rfl ((Sl.new w1 #[.int .i64 n, .int .i64 c] 71 1 2 (by unfold maxLen; omega) rfl).mono fun _ _ _ => trivial) (by simp [Value.oneCell']) (by omega) (by unfold maxLen; omega) (by simp; omega) ?_; intro A2 c2 w2 hown hg _; have HB2 := Lib.hid ((HB1.out.alloc hs1 (.cells #[.int .i64 n, .int .i64 c] 71)).grown hg (by simp; omega) (fun r e => (HO1.out.lt r e).1)); have hs2 := HB2.out.size; have HO2 := Lib.hid hown; clear hown hg)) | (at_builtin; go_must (refine wpList_app _ rfl (.tmp 59) (.tmp 62) et_pair rfl wr.heap.size (.slice A2 (M.length + 1) c2) (M.length + 1) ((pcells M) ++ [.int .i64 n, .int .i64 c]) rfl HO2.out (fun _ => True) _ 0 [] rfl ((sl_zero (by unfold maxLen; omega)).grow HB2.out) (by simp) (by omega) (by unfold maxLen; omega) hs2 ?_; intro A3 c3 w3 hown hg _; have HB3 := Lib.hid (HB2.out.grown hg hs2 (fun r e => (HO2.out.lt r e).1)); have HO3 := Lib.hid hown; clear hown hg)))
          go_ret
          refine ⟨A3, c3, ?_, ?_, HB3.out.mono HLO.out⟩
          · rw [HSP.out, List.length_append, List.length_singleton]
            rfl
          · rw [HSP.out, List.length_append, List.length_singleton, pcells_append]
            have h := own_mono HO3.out HLO.out
            rw [List.append_nil] at h
            exact h
end Go.Proofs.YtidejikolcgojaaGreat.St

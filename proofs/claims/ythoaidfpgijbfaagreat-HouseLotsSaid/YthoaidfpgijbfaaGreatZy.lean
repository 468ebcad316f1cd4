import Derived.Test.YthoaidfpgijbfaaGreatZr
import Derived.Test.YthoaidfpgijbfaaGreatZn
namespace Go.Proofs.YthoaidfpgijbfaaGreat.Vb
open Go.RowKit
def sellBad (floor : Int) (l : List Sec) : Bool := !coinB floor || l.any secBad
instance (l : List Int) : Decidable l.Nodup := inferInstance
def sellE (floor : Int) (l : List Sec) : Int := if sellBad floor l = true then 2 else if (l.map (·.b)).Nodup then 0 else 5
def sellV (floor : Int) (l : List Sec) : Value := if sellE floor l = 0 then soldVal floor l else .agg #[.bool false, .int .i64 0, .int .i64 0, .int .i64 0]
theorem soldVal_form (floor : Int) (l : List Sec) : ∃ (b : Bool) (x y z : Int), soldVal floor l = .agg #[.bool b, .int .i64 x, .int .i64 y, .int .i64 z] := by
  unfold soldVal
  split
  · exact ⟨_, _, _, _, rfl⟩
  · exact ⟨_, _, _, _, rfl⟩
def seenF (l : List Sec) (k : Nat) : Int → Option Int := fun x => if x ∈ (l.take k).map (·.b) then some 1 else none
theorem take_snocS {l : List Sec} {k : Nat} {s : Sec} (h : l[k]? = some s) : (l.take (k + 1)).map (·.b) = (l.take k).map (·.b) ++ [s.b] := by
  rw [List.take_add_one, h]; simp
set_option maxRecDepth 100000 in
set_option maxHeartbeats 3200000 in
theorem sell_any (floor : Int) (l : List Sec) (v : Value) (R : Nat → Prop) (w : World) (hl : Secs w R v l) :
    Calls Tryz.prog 283 #[.int .i64 floor, v] w fun e w' => e = .returned (.tuple #[sellV floor l, .int .i64 (sellE floor l)]) ∧ Below w.heap.size w w' := by
  have HL := Lib.hid hl
  obtain ⟨⟨_, A, cap, rfl, hncap, hcap, hcells⟩, hwf⟩ := hl
  unfold maxLen at hcap
  have HC := Lib.hid hcells
  have HWF := Lib.hid hwf
  have hk0 := Blk.new w 376 #[.bool false, .int .i64 0, .int .i64 0, .int .i64 0]
  have HK0 := Lib.hid hk0
  clear hcells hwf hk0
  cases hbad : sellBad floor l with
  | true =>
    have hE : sellE floor l = 2 := by unfold sellE; rw [if_pos hbad]
    have hV : sellV floor l = .agg #[.bool false, .int .i64 0, .int .i64 0, .int .i64 0] := by unfold sellV; rw [hE, if_neg (by decide)]
    have HE := Lib.hid hE
    have HV := Lib.hid hV
    cases hcf : coinB floor with
    | false =>
      have HCF := Lib.hid hcf
      have hq := (((HK0.out.set_ 0 (.bool false)).set_ 1 (.int .i64 0)).set_ 2 (.int .i64 0)).set_ 3 (.int .i64 0)
      have r0 := hq.cell 0
      have r1 := hq.cell 1
      have r2 := hq.cell 2
      have r3 := hq.cell 3
      simp at r0 r1 r2 r3
      clear hE hV hbad hcf hq
      go_enter Tryz.func283, Tryz.ntmps283
      go_wp2_with (go_at_call 285; refine (coins_any floor _).mono ?_; rintro e w1 ⟨rfl, rfl⟩; rw [HCF.out])
      rw [HE.out, HV.out]
      refine bodyPost_ret (v := .tuple #[.agg #[.bool false, .int .i64 0, .int .i64 0, .int .i64 0], .int .i64 2]) (by simp [results, Tryz.results283, go_sem]) rfl ⟨rfl, ?_⟩
      exact (Below.refl w.heap.size w).alloc (Nat.le_refl _) _
    | true =>
      have hany : l.any secBad = true := by simpa [sellBad, hcf] using hbad
      have HCF := Lib.hid hcf
      have HANY := Lib.hid hany
      clear hE hV hbad hcf hany
      go_enter Tryz.func283, Tryz.ntmps283
      go_wp2_with (first
        | (go_at_call 285; refine (coins_any floor _).mono ?_; rintro e w1 ⟨rfl, rfl⟩; rw [HCF.out])
        | (go_at_call 286; refine (containsSec_any l _ R _ (HL.out.alloc _)).mono ?_; rintro e w1 ⟨rfl, hb1⟩; rw [HANY.out]; have hk := HK0.out.grow hb1; have q0 := hk.cell 0; have q1 := hk.cell 1; have q2 := hk.cell 2; have q3 := hk.cell 3; have qf := hk.frozen; simp at q0 q1 q2 q3; have HK := Lib.hid hk; have HB1 := Lib.hid (((Below.refl _ _).alloc (Nat.le_refl _) _).trans (hb1.mono (B' := w.heap.size) (by simp))); clear hb1 hk))
      have hq := (((HK.out.set_ 0 (.bool false)).set_ 1 (.int .i64 0)).set_ 2 (.int .i64 0)).set_ 3 (.int .i64 0)
      have r0 := hq.cell 0
      have r1 := hq.cell 1
      have r2 := hq.cell 2
      have r3 := hq.cell 3
      simp at r0 r1 r2 r3
      rw [HE.out, HV.out]
      refine bodyPost_ret (v := .tuple #[.agg #[.bool false, .int .i64 0, .int .i64 0, .int .i64 0], .int .i64 2]) (by simp [results, Tryz.results283, go_sem, r0, r1, r2, r3]) rfl ⟨rfl, ?_⟩
      exact (((HB1.out.setCell (p := ⟨w.heap.size, 0, none⟩) (by simp) _).setCell (p := ⟨w.heap.size, 1, none⟩) (by simp) _).setCell (p := ⟨w.heap.size, 2, none⟩) (by simp) _).setCell (p := ⟨w.heap.size, 3, none⟩) (by simp) _
  | false =>
    have hcf : coinB floor = true := by
      cases h : coinB floor with
      | true => rfl
      | false => simp [sellBad, h] at hbad
    have hany : l.any secBad = false := by simpa [sellBad, hcf] using hbad
    have hE : sellE floor l = if (l.map (·.b)).Nodup then 0 else 5 := by unfold sellE; rw [if_neg (by rw [hbad]; decide)]
    have HCF := Lib.hid hcf
    have HANY := Lib.hid hany
    have HE := Lib.hid hE
    have hmm := @run_makeMap Tryz.prog
    clear hbad hcf hany hE
    go_enter Tryz.func283, Tryz.ntmps283
    go_wp2_with (first
      | (go_at_call 285; refine (coins_any floor _).mono ?_; rintro e w1 ⟨rfl, rfl⟩; rw [HCF.out])
      | (go_at_call 286; refine (containsSec_any l _ R _ (HL.out.alloc _)).mono ?_; rintro e w1 ⟨rfl, hb1⟩; rw [HANY.out]; have HK1 := Lib.hid (HK0.out.grow hb1); have HB1 := Lib.hid (((Below.refl _ _).alloc (Nat.le_refl _) _).trans (hb1.mono (B' := w.heap.size) (by simp))); clear hb1))
    clear hmm
    have hb2 := HB1.out.alloc HB1.out.size (.map #[] 0)
    have hk2 := HK1.out.alloc (.map #[] 0)
    have hklt := HK1.out.lt
    have hm2 := MapI.made (P := Tryz.prog) (kt := 3) (et := 3) w1
    obtain ⟨u2, hu2⟩ : ∃ u, u = w1.alloc (.map #[] 0) := ⟨_, rfl⟩
    rw [← hu2] at hb2 hk2 hm2 ⊢
    clear hu2
    have HB2 := Lib.hid hb2
    have HK2 := Lib.hid hk2
    have HM2 := Lib.hid hm2
    clear hb2 hk2 hm2
    go_loopw [22] (fun i wr => ∃ k : Nat, k ≤ l.length ∧ i = .int .i64 k ∧ ((l.take k).map (·.b)).Nodup ∧ MapI Tryz.prog 3 3 wr w1.heap.size k (seenF l k) ∧ Blk wr w.heap.size 376 #[.bool false, .int .i64 0, .int .i64 0, .int .i64 0] ∧ Below w.heap.size w wr) (fun i _ => l.length - (intOf i).toNat)
    case atStart => exact ⟨0, Nat.zero_le _, rfl, by simp, by
      have h := HM2.out
      have e : seenF l 0 = fun _ => none := by funext x; simp [seenF]
      rw [e]; exact h, HK2.out, HB2.out⟩
    case round =>
      obtain ⟨k, hk, rfl, hnd, hm, hkb, hb⟩ := hrel
      have HND := Lib.hid hnd
      have HM := Lib.hid hm
      have HKB := Lib.hid hkb
      have HB := Lib.hid hb
      by_cases hlt : k < l.length
      · obtain ⟨bb, off, rfl, _, hbb, hcs⟩ := HC.out (by omega)
        obtain ⟨o, ho⟩ : ∃ o, l[k]? = some o := ⟨_, List.getElem?_eq_getElem hlt⟩
        have c0 : wr.cell? ⟨bb, off + k * 2, none⟩ = some (.int .i64 o.b) := (hb.cell hbb).trans (hcs _ _ (Sec.all_fst l k o ho))
        have c1 : wr.cell? ⟨bb, off + k * 2 + 1, none⟩ = some (.int .i64 o.c) := (hb.cell hbb).trans (hcs _ _ (Sec.all_snd l k o ho))
        have hw := HWF.out o (List.mem_of_getElem? ho)
        have hwf : (Lit.int .i64 o.b).wf = true := WalkArith.wf_i64 ⟨hw.1.1, hw.1.2⟩
        have e1 : (0 : Int) ≤ (k : Int) := by omega
        have e2 : (k : Int) < (l.length : Int) := by omega
        have hsn := take_snocS ho
        have hmx := hm.alloc (.cells #[.int .i64 o.b, .int .i64 o.c] 374)
        have hl1 := hmx.look int_keyed' Tryz.underlying381 Tryz.underlying3 Tryz.underlying3 (Tryz.zeroValue3 _) hwf
        have HO := Lib.hid ho
        have HSN := Lib.hid hsn
        have hmlt := hm.lt
        by_cases hin : o.b ∈ (l.take k).map (·.b)
        · have hv : (seenF l k o.b).getD 0 = 1 := by unfold seenF; rw [if_pos hin]; rfl
          rw [hv] at hl1
          obtain ⟨w', hs1, hm1, hg1⟩ := hmx.store int_keyed' Tryz.underlying381 Tryz.underlying3 Tryz.underlying3 (by unfold maxLen; omega) hwf (show (Lit.int .i64 2).wf = true by decide)
          have hl2 := hm1.look int_keyed' Tryz.underlying381 Tryz.underlying3 Tryz.underlying3 (Tryz.zeroValue3 _) hwf
          simp only [if_true, Option.getD_some] at hl2
          have hne : w1.heap.size ≠ w.heap.size := by have := HK1.out.lt; omega
          have hkb' := (hkb.alloc (.cells #[.int .i64 o.b, .int .i64 o.c] 374)).grown hg1 (fun e => hne (by injection e with e; exact e.symm))
          have n0 := (Blk.new wr 374 #[.int .i64 o.b, .int .i64 o.c]).grown hg1 (fun e => by injection e with e; omega)
          have n00 : w'.cell? ⟨wr.heap.size, 0, none⟩ = some (.int .i64 o.b) := n0.cell 0
          have q0 := hkb'.cell 0
          have q1 := hkb'.cell 1
          have q2 := hkb'.cell 2
          have q3 := hkb'.cell 3
          have qf := hkb'.frozen
          have hq := (((hkb'.set_ 0 (.bool false)).set_ 1 (.int .i64 0)).set_ 2 (.int .i64 0)).set_ 3 (.int .i64 0)
          have r0 := hq.cell 0
          have r1 := hq.cell 1
          have r2 := hq.cell 2
          have r3 := hq.cell 3
          simp at q0 q1 q2 q3 r0 r1 r2 r3
          have hbw := (HB.out.alloc HB.out.size (.cells #[.int .i64 o.b, .int .i64 o.c] 374)).grown hg1 (by have := HB.out.size; simp; omega) (fun g e => by injection e with e; have := HB1.out.size; omega)
          have HBW := Lib.hid hbw
          have hnot : ¬ (l.map (·.b)).Nodup := fun hn => by
            have h1 : ((l.take (k + 1)).map (·.b)).Nodup := hn.sublist ((List.take_sublist (k + 1) l).map _)
            rw [HSN.out] at h1
            exact (List.nodup_append.1 h1).2.2 _ hin _ (by simp) rfl
          have hE5 : sellE floor l = 5 := by rw [HE.out, if_neg hnot]
          have hV5 : sellV floor l = .agg #[.bool false, .int .i64 0, .int .i64 0, .int .i64 0] := by unfold sellV; rw [hE5, if_neg (by decide)]
          have HE5 := Lib.hid hE5
          have HV5 := Lib.hid hV5
          clear hnd hm hkb hb hcs ho hsn hmx hm1 hg1 hkb' n0 hq hbw hnot hE5 hV5 hin hv
          go_wp2_with fail
          rw [HE5.out, HV5.out]
          refine bodyPost_ret (v := .tuple #[.agg #[.bool false, .int .i64 0, .int .i64 0, .int .i64 0], .int .i64 5]) (by simp [results, Tryz.results283, go_sem, r0, r1, r2, r3]) rfl ⟨rfl, ?_⟩
          exact (((HBW.out.setCell (p := ⟨w.heap.size, 0, none⟩) (by simp) _).setCell (p := ⟨w.heap.size, 1, none⟩) (by simp) _).setCell (p := ⟨w.heap.size, 2, none⟩) (by simp) _).setCell (p := ⟨w.heap.size, 3, none⟩) (by simp) _
        · have hv : (seenF l k o.b).getD 0 = 0 := by unfold seenF; rw [if_neg hin]; rfl
          rw [hv] at hl1
          obtain ⟨w', hs1, hm1, hg1⟩ := hmx.store int_keyed' Tryz.underlying381 Tryz.underlying3 Tryz.underlying3 (by unfold maxLen; omega) hwf (show (Lit.int .i64 1).wf = true by decide)
          have hl2 := hm1.look int_keyed' Tryz.underlying381 Tryz.underlying3 Tryz.underlying3 (Tryz.zeroValue3 _) hwf
          simp only [if_true, Option.getD_some] at hl2
          have hne : w1.heap.size ≠ w.heap.size := by have := HK1.out.lt; omega
          have hkb' := (hkb.alloc (.cells #[.int .i64 o.b, .int .i64 o.c] 374)).grown hg1 (fun e => hne (by injection e with e; exact e.symm))
          have n0 := (Blk.new wr 374 #[.int .i64 o.b, .int .i64 o.c]).grown hg1 (fun e => by injection e with e; omega)
          have n00 : w'.cell? ⟨wr.heap.size, 0, none⟩ = some (.int .i64 o.b) := n0.cell 0
          have hbw := (HB.out.alloc HB.out.size (.cells #[.int .i64 o.b, .int .i64 o.c] 374)).grown hg1 (by have := HB.out.size; simp; omega) (fun g e => by injection e with e; have := HB1.out.size; omega)
          have hF : (fun y => if y = o.b then some (1 : Int) else seenF l k y) = seenF l (k + 1) := by
            funext y
            unfold seenF
            rw [HSN.out]
            by_cases hy : y = o.b <;> simp [hy]
          rw [hF] at hm1
          have HBW := Lib.hid hbw
          have HM1 := Lib.hid hm1
          have HKB1 := Lib.hid hkb'
          have HIN := Lib.hid hin
          clear hnd hm hkb hb hcs ho hsn hmx hm1 hg1 hkb' n0 hbw hF hin hv
          go_wp2_with fail
          go_roundw
          case rel =>
            refine ⟨k + 1, by omega, by go_num, ?_, HM1.out, HKB1.out, HBW.out⟩
            rw [HSN.out]
            refine List.nodup_append.2 ⟨HND.out, by simp, fun a ha b hb => ?_⟩
            simp at hb
            subst hb
            exact fun e => HIN.out (by rw [← e]; exact ha)
          case measure => simp [intOf]; omega
      · obtain rfl : k = l.length := by omega
        have hn : (l.map (·.b)).Nodup := by rw [List.take_length] at hnd; exact hnd
        have hE0 : sellE floor l = 0 := by rw [HE.out, if_pos hn]
        have hV0 : sellV floor l = soldVal floor l := by unfold sellV; rw [hE0, if_pos rfl]
        have HE0 := Lib.hid hE0
        have HV0 := Lib.hid hV0
        have hbw : Below w.heap.size w wr := hb
        obtain ⟨vb, vx, vy, vz, hform⟩ := soldVal_form floor l
        have HF := Lib.hid hform
        clear hnd hm hkb hb hn hE0 hV0 hbw hform
        go_wp2_with (go_at_call 287; refine (come_any floor l _ R _ (HL.out.grow HB.out)).mono ?_; rintro e w2 ⟨rfl, hb2⟩; rw [HF.out]; have hk := HKB.out.grow hb2; have q0 := hk.cell 0; have q1 := hk.cell 1; have q2 := hk.cell 2; have q3 := hk.cell 3; have qf := hk.frozen; simp at q0 q1 q2 q3; have HKX := Lib.hid hk; have HBX := Lib.hid (HB.out.trans (hb2.mono HB.out.size)); clear hb2 hk)
        have hq := (((HKX.out.set_ 0 (.bool vb)).set_ 1 (.int .i64 vx)).set_ 2 (.int .i64 vy)).set_ 3 (.int .i64 vz)
        have r0 := hq.cell 0
        have r1 := hq.cell 1
        have r2 := hq.cell 2
        have r3 := hq.cell 3
        simp at r0 r1 r2 r3
        rw [HE0.out, HV0.out, HF.out]
        refine bodyPost_ret (v := .tuple #[.agg #[.bool vb, .int .i64 vx, .int .i64 vy, .int .i64 vz], .int .i64 0]) (by simp [results, Tryz.results283, go_sem, r0, r1, r2, r3]) rfl ⟨rfl, ?_⟩
        exact (((HBX.out.setCell (p := ⟨w.heap.size, 0, none⟩) (by simp) _).setCell (p := ⟨w.heap.size, 1, none⟩) (by simp) _).setCell (p := ⟨w.heap.size, 2, none⟩) (by simp) _).setCell (p := ⟨w.heap.size, 3, none⟩) (by simp) _
end Go.Proofs.YthoaidfpgijbfaaGreat.Vb
namespace Go.Proofs.YthoaidfpgijbfaaGreat.Ho
open Go.RowKit
open Go.Proofs.YthoaidfpgijbfaaGreat.Vb Go.Proofs.YthoaidfpgijbfaaGreat.Ac
theorem et_sec : ElemT Tryz.prog 372 374 2 16 := elemT_of Tryz.underlying372 (by omega) (z := .agg #[.int .i64 0, .int .i64 0]) (by kernel_rfl) rfl
def secsOf (ss : List Stand) : List Sec := ss.map fun s => ⟨s.bidder, s.held⟩
def sealedSold (fl : Int) (ss : List Stand) : Option (Int × Int) :=
  if sellE fl (secsOf ss) = 0 then match bestK fl (-1) (secsOf ss) (secsOf ss).length with | none => none | some (j, _) => some ((((secsOf ss)[j]?).map (·.b)).getD 0, nextC fl (secsOf ss) j) else none
theorem sold_none {fl : Int} {ss : List Stand} (h : sealedSold fl ss = none) : sellV fl (secsOf ss) = .agg #[.bool false, .int .i64 0, .int .i64 0, .int .i64 0] := by
  unfold sealedSold at h
  unfold sellV
  split at h
  · rw [if_pos (by assumption)]
    unfold soldVal
    split at h
    · rename_i h1; rw [h1]
    · cases h
  · rw [if_neg (by assumption)]
theorem sold_some {fl : Int} {ss : List Stand} {w p : Int} (h : sealedSold fl ss = some (w, p)) : ∃ c, sellV fl (secsOf ss) = .agg #[.bool true, .int .i64 w, .int .i64 c, .int .i64 p] := by
  unfold sealedSold at h
  unfold sellV
  split at h
  · rw [if_pos (by assumption)]
    unfold soldVal
    split at h
    · cases h
    · rename_i j c h1
      rw [h1]
      cases h
      exact ⟨c, rfl⟩
  · cases h
def sealedSales (l : LotS) : List SaleR := match sealedSold l.put.floor l.stands with | none => [] | some (w, p) => [saleOf w p]
def sealedLot (l : LotS) : LotS := match sealedSold l.put.floor l.stands with | none => l | some (_, p) => { l with price := p }
theorem Sl.none0 (W : World) (R : Nat → Prop) (sz : Nat) : Sl W R (.slice none 0 0) 0 sz [] := ⟨by simp, none, 0, rfl, Nat.le_refl _, Nat.zero_le _, fun h => absurd h (by omega)⟩
theorem StandsAt.stepB {W W' : World} {T : Nat → Part} {v : Value} {n b : Nat} {ss : List Stand} (h : StandsAt W T (fun x => T x = .lot n ∧ x ≠ b) v ss) (ht : T b = .lot n) (hc : Chg (· = b) W W') : StandsAt W' T (fun x => T x = .lot n ∧ x ≠ b) v ss := by
  obtain ⟨vo, h1, h2⟩ := h
  exact ⟨vo, h1.chg hc fun x _ hr e => hr.2 e, h2.step hc (fun x hx e => by rw [e, ht] at hx; cases hx) fun _ _ => rfl⟩
set_option maxRecDepth 100000 in
set_option maxHeartbeats 8000000 in
theorem ssell_any {W : World} {T : Nat → Part} {j b : Nat} {l : LotS} (hL : LotAt W T j b l) (hT : ∀ x, W.heap.size ≤ x → T x = .no) (hw : ∀ s ∈ l.stands, (0 ≤ s.bidder ∧ s.bidder ≤ 4096) ∧ coin s.held) (hn : l.stands.length ≤ 1000000) :
    Calls Tryz.prog 281 #[.agg #[], .pointer (some ⟨b, 0, none⟩)] W (SellQ W T j b (sealedLot l) (sealedSales l)) := by
  obtain ⟨W1, hW1⟩ : ∃ W1, W1 = W.alloc (.cells #[] 187) := ⟨_, rfl⟩
  have hb1 : Below W.heap.size W W1 := by rw [hW1]; exact (Below.refl _ _).alloc (Nat.le_refl _) _
  obtain ⟨v, htb, hblk, hst⟩ := hL
  obtain ⟨sA, sc, hsv⟩ := hst.form
  subst hsv
  obtain ⟨n, hnn⟩ : ∃ z, z = l.stands.length := ⟨_, rfl⟩
  rw [← hnn] at hst hblk
  have l14 : W.cell? ⟨b, 14, none⟩ = some (.slice sA n sc) := hblk.cell 14
  have lb := hblk.lt
  have HTB := Lib.hid htb
  have HBLK := Lib.hid hblk
  have HST := Lib.hid hst
  have HTN := Lib.hid hT
  have HWF := Lib.hid hw
  have HN := Lib.hid hnn
  have hnb : n ≤ 1000000 := by omega
  have HB1 := Lib.hid hb1
  obtain ⟨S, hS⟩ : ∃ z, z = secsOf l.stands := ⟨_, rfl⟩
  have HSS := Lib.hid hS
  have HSN := Lib.hid (show S.length = n by rw [hS, hnn]; simp [secsOf])
  clear htb hblk hst hT hw hn hnn hb1 hS
  go_enter Tryz.func281, Tryz.ntmps281
  go_wp2_with fail
  rw [← hW1]
  clear hW1
  have e4 : (0 : Int) ≤ (n : Int) := by omega
  go_loopw [5, 15] (fun t i wr => ∃ (k : Nat) (A' : Option Addr) (c' : Nat), k ≤ n ∧ i = .int .i64 k ∧ t = .slice A' k c' ∧ RowAt wr (fun x => W.heap.size ≤ x) 374 2 (.slice A' k c') k (Sec.all (S.take k)) ∧ Below W.heap.size W wr) (fun _ i _ => n - (intOf i).toNat)
  case atStart => exact ⟨0, none, 0, Nat.zero_le _, rfl, rfl, RowAt.nil, HB1.out⟩
  case round =>
    obtain ⟨k, A', c', hk, rfl, rfl, hrw, hb⟩ := hrel
    by_cases hlt : k < n
    · obtain ⟨s, hs⟩ : ∃ s, l.stands[k]? = some s := ⟨_, List.getElem?_eq_getElem (by rw [← HN.out]; exact hlt)⟩
      obtain ⟨sq, scap, uA, uc, hsv, _, hsq, d0, d1, d2, _⟩ := StandsAt.at_ (HST.out.step (T' := T) (Chg.of (fun _ => False) hb) (fun _ _ => id) fun _ _ => rfl) hs
      injection hsv with hv1 hv2 hv3
      subst hv1 hv3
      clear hv2
      have e5 : (0 : Int) ≤ (k : Int) := by omega
      have e6 : (k : Int) < (n : Int) := by omega
      have htk : Sec.all (S.take (k + 1)) = Sec.all (S.take k) ++ [.int .i64 s.bidder, .int .i64 s.held] := by
        have : S[k]? = some ⟨s.bidder, s.held⟩ := by rw [HSS.out]; simp [secsOf, hs]
        rw [take_succ' this, ← Sec.all_app]
      obtain ⟨sb, hsb⟩ : ∃ z, z = s.bidder := ⟨_, rfl⟩
      obtain ⟨sh, hsh⟩ : ∃ z, z = s.held := ⟨_, rfl⟩
      obtain ⟨un, hun⟩ : ∃ z, z = s.offers.length := ⟨_, rfl⟩
      rw [← hsb] at d0 htk
      rw [← hun] at d1
      rw [← hsh] at d2 htk
      have HTK := Lib.hid htk
      have HRW := Lib.hid hrw
      have HB := Lib.hid hb
      have HSZ := Lib.hid hb.size
      clear hsb hsh hun hs htk hrw hb
      have hwr : IntKind.i64.wrap ((k : Int) + 1) = (k : Int) + 1 := IntWalk.i64_in _ (by omega)
      have HRW1 := Lib.hid ((HRW.out.grow ((Below.refl _ _).alloc (Nat.le_refl _) (.cells #[.int .i64 sb, .slice uA un uc, .int .i64 sh] 103))).grow ((Below.refl _ _).alloc (Nat.le_refl _) (.cells #[.int .i64 sb, .int .i64 sh] 374)))
      go_wp2_with (at_builtin; go_must (refine wpList_row _ (.tmp 19) (.tmp 25) rfl et_sec rfl (.slice A' k c') k (Sec.all (S.take k)) rfl HRW1.out (.slice (some ⟨wr.heap.size + 1, 0, none⟩) 1 1) 1 [.int .i64 sb, .int .i64 sh] rfl (Sl.lit1 (Blk.new' 374 #[.int .i64 sb, .int .i64 sh] (by simp)) rfl) (by simp [Value.oneCell']) (by omega) (by unfold maxLen; omega) ?_); intro A3 c3 Z hrZ hcZ; have HRZ := Lib.hid hrZ; have HCZ := Lib.hid hcZ; clear hrZ hcZ)
      go_roundw
      case rel =>
        refine ⟨k + 1, A3, c3, by omega, by go_num, rfl, ?_, ?_⟩
        · rw [HTK.out]
          refine HRZ.out.mono fun b _ hb => hb.elim id fun e => ?_
          rw [e]
          have := HSZ.out
          simp
          omega
        · refine ((HB.out.alloc HSZ.out (.cells #[.int .i64 sb, .slice uA un uc, .int .i64 sh] 103)).alloc (by simp; have := HSZ.out; omega) (.cells #[.int .i64 sb, .int .i64 sh] 374)).trans (HCZ.out.below (by have := HSZ.out; simp; omega) fun b hb e => ?_)
          have := HRW1.out.blk b e
          omega
      case measure => simp [intOf]; omega
    · obtain rfl : k = n := by omega
      have hall : S.take k = S := List.take_of_length_le (by have := HSN.out; omega)
      rw [hall] at hrw
      have HRW := Lib.hid hrw
      have HB := Lib.hid hb
      have hblk2 := HBLK.out.grow hb
      have l7 : wr.cell? ⟨b, 7, none⟩ = some (.int .i64 l.put.floor) := hblk2.cell 7
      have l14 : wr.cell? ⟨b, 14, none⟩ = some (.slice sA k sc) := hblk2.cell 14
      have lb2 := hblk2.lt
      have HBL2 := Lib.hid hblk2
      obtain ⟨fl, hfl⟩ : ∃ z, z = l.put.floor := ⟨_, rfl⟩
      rw [← hfl] at l7
      have HFL := Lib.hid hfl
      have hsec : Secs wr (fun x => W.heap.size ≤ x) (.slice A' k c') S := ⟨by have := hrw.sl; rw [← HSN.out] at this ⊢; exact this, fun s hs => by
        rw [HSS.out] at hs
        obtain ⟨x, hx, rfl⟩ := List.mem_map.1 hs
        have := HWF.out x hx
        unfold coin at this
        unfold Sec.wf
        simp only
        omega⟩
      have HSEC := Lib.hid hsec
      have HEE := Lib.hid (sell_any fl S _ _ wr hsec)
      clear hrw hb hblk2 hsec hall hfl e4 hlt hk
      go_wp2_with fail
      refine HEE.out.mono ?_
      rintro e W2 ⟨rfl, hb2⟩
      have HB2 := Lib.hid (HB.out.trans (hb2.mono HB.out.size))
      have hblk2 := HBL2.out.grow hb2
      have HBL3 := Lib.hid hblk2
      have f19 := hblk2.frozen 19
      have c19 : W2.cell? ⟨b, 19, none⟩ = some (.int .i64 l.price) := hblk2.cell 19
      have lb3 := hblk2.lt
      clear hb2 hblk2 l7 l14
      cases hso : sealedSold fl l.stands with
      | none =>
        have hv : sellV fl S = .agg #[.bool false, .int .i64 0, .int .i64 0, .int .i64 0] := by rw [HSS.out]; exact sold_none hso
        have hl1 : sealedLot l = l := by unfold sealedLot; rw [← HFL.out, hso]
        have hl2 : sealedSales l = [] := by unfold sealedSales; rw [← HFL.out, hso]
        have HL1 := Lib.hid hl1
        have HL2 := Lib.hid hl2
        rw [hv]
        clear hv hl1 hl2 hso
        go_wp2_with fail
        go_ret
        have hbe := HB2.out.alloc HB2.out.size (.cells #[.bool false, .int .i64 0, .int .i64 0, .int .i64 0] 376)
        rw [HL1.out, HL2.out]
        exact ⟨none, 0, rfl, Sl.none0 _ _ _, (show LotAt W T j b l from ⟨_, HTB.out, HBLK.out, HST.out⟩).step (Chg.of (fun _ => False) hbe) (fun _ _ => id) fun _ _ => rfl, Chg.of _ hbe⟩
      | some wp =>
        obtain ⟨w, p⟩ := wp
        obtain ⟨co, hv⟩ : ∃ c, sellV fl S = .agg #[.bool true, .int .i64 w, .int .i64 c, .int .i64 p] := by rw [HSS.out]; exact sold_some hso
        have hl1 : sealedLot l = { l with price := p } := by unfold sealedLot; rw [← HFL.out, hso]
        have hl2 : sealedSales l = [saleOf w p] := by unfold sealedSales; rw [← HFL.out, hso]
        have HL1 := Lib.hid hl1
        have HL2 := Lib.hid hl2
        rw [hv]
        clear hv hl1 hl2 hso
        go_wp2_with fail
        obtain ⟨V1, hV1⟩ : ∃ V1, V1 = (W2.setCell ⟨b, 19, none⟩ (.int .i64 p)).alloc (.cells #[.bool true, .int .i64 w, .int .i64 co, .int .i64 p] 376) := ⟨_, rfl⟩
        have hsz : W2.heap.size + 1 = V1.heap.size := by rw [hV1]; simp [World.setCell]
        rw [hsz, ← hV1]
        have hc1 : Chg (· = b) W V1 := by
          rw [hV1]
          exact ((Chg.of _ HB2.out).step (Chg.set W2 ⟨b, 19, none⟩ _) (fun x _ e => e)).grow ((Below.refl _ _).alloc (Nat.le_refl _) _)
        have hk1 : Ac.Blk V1 b 137 (({ l with price := p } : LotS).cells (.slice sA k sc)).toArray := by
          rw [hV1]
          exact (HBL3.out.set_ 19 _).alloc _
        have hle : W.heap.size ≤ V1.heap.size := hc1.size
        go_ret
        rw [HL1.out, HL2.out]
        have hcV := hc1.grow ((Below.refl _ _).alloc (Nat.le_refl _) (.cells (saleOf w p).cells.toArray 44))
        exact ⟨_, _, rfl, (Sl.new V1 (saleOf w p).cells.toArray 44 1 7 (by unfold maxLen; omega) rfl).mono (fun x _ e => e ▸ hle), ⟨_, HTB.out, hk1.alloc _, HST.out.stepB HTB.out hcV⟩, hcV⟩
end Go.Proofs.YthoaidfpgijbfaaGreat.Ho

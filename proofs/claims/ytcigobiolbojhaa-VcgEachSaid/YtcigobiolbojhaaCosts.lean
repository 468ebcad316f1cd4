/- vcg.Costs. -/
import Derived.Test.YtcigobiolbojhaaVcg2
namespace Go.Proofs.Ytcigobiolbojhaa.Vb
open Go.RowKit

set_option maxHeartbeats 800000 in
theorem lost_err (n : Int) (bs : List (List Off)) (v : Value) (R : Nat → Prop) (w : World) (hl : Buys w R v bs) (hi : instE n bs ≠ 0) :
    Calls Try.prog 84 #[.agg #[.int .i64 n, v]] w fun e w' => e = .returned (.tuple #[.agg #[.slice none 0 0, .int .i64 0], .nilFunc, .int .i64 (instE n bs)]) ∧ Below w.heap.size w w' := by
  obtain ⟨vs, ⟨_, A, cap, rfl, _⟩, _⟩ := id hl
  have HB := Lib.hid hl
  have hcb : (instE n bs != 0) = true := by simpa using hi
  have HI := Lib.hid hi
  clear hl hi
  go_enter Try.func84, Try.ntmps84
  go_wp2_with (go_at_call 31; refine (best_err n bs _ R _ ((HB.out.alloc _).alloc _) HI.out).mono ?_; rintro e w1 ⟨rfl, hb1⟩; have hb1a := hb1.mono (B' := w.heap.size + 2) (by simp); obtain ⟨c0, c1, y0, y1, fx, fy, hs1, hbw⟩ := two_new hb1a; have HK := Lib.hid (two_blk hb1a).2; have HB1 := Lib.hid hbw; clear hb1 hb1a hbw)
  have hk := (((HK.out.set_ 0 (.slice none 0 0)).set_ 1 (.int .i64 0)).set_ 0 (.slice none 0 0)).set_ 1 (.int .i64 0)
  have q0 := hk.cell 0
  have q1 := hk.cell 1
  simp at q0 q1
  refine bodyPost_ret (v := .tuple #[.agg #[.slice none 0 0, .int .i64 0], .nilFunc, .int .i64 (instE n bs)]) (by simp [results, Try.results84, go_sem, q0, q1]) rfl ⟨rfl, ?_⟩
  exact (((HB1.out.setCell (p := ⟨w.heap.size + 1, 0, none⟩) (by simp) _).setCell (p := ⟨w.heap.size + 1, 1, none⟩) (by simp) _).setCell (p := ⟨w.heap.size + 1, 0, none⟩) (by simp) _).setCell (p := ⟨w.heap.size + 1, 1, none⟩) (by simp) _

/-- each number of the best choice is an offer's, or -1 -/
theorem pickAt_get (g : Nat → Int) (f : Nat) (left : Int) : ∀ (l : List Off) (p : Nat × Nat), pickAt g f left l = some p → ∃ o, l[p.1]? = some o ∧ o.g = p.2 ∧ pickB g f left o = true
  | [], p, h => by simp [pickAt] at h
  | o :: l, p, h => by
    unfold pickAt at h
    split at h
    · rename_i hb
      injection h with h
      subst h
      exact ⟨o, rfl, rfl, hb⟩
    · rw [Option.map_eq_some_iff] at h
      obtain ⟨q, hq, rfl⟩ := h
      obtain ⟨o', h1, h2, h3⟩ := pickAt_get g f left l q hq
      exact ⟨o', by simpa using h1, h2, h3⟩
theorem choose_get : ∀ (bs : List (List Off)) (f : Nat) (i : Nat) (c : Int), (choose bs f)[i]? = some c → c = -1 ∨ ∃ (j : Nat) (l : List Off) (o : Off), c = (j : Int) ∧ bs[i]? = some l ∧ l[j]? = some o
  | [], f, i, c, h => by simp [choose] at h
  | l :: bs, f, 0, c, h => by
    simp only [choose, List.getElem?_cons_zero, Option.some.injEq] at h
    unfold pickN at h
    cases hp : pickAt (W bs) f (W (l :: bs) f) l with
    | none => rw [hp] at h; exact .inl h.symm
    | some p =>
      rw [hp] at h
      obtain ⟨o, ho, _, _⟩ := pickAt_get _ _ _ _ _ hp
      exact .inr ⟨p.1, l, o, h.symm, rfl, ho⟩
  | l :: bs, f, i + 1, c, h => by
    simp only [choose, List.getElem?_cons_succ] at h
    exact choose_get bs _ i c h

/-- the coins of what a buyer wins -/
def coinAt (bs : List (List Off)) (i : Nat) (c : Int) : Int := if c < 0 then 0 else (((bs[i]?).getD [])[c.toNat]?.map (·.c)).getD 0
def payAt (n : Int) (bs : List (List Off)) (i : Nat) (c : Int) : Int := if c < 0 then 0 else coinAt bs i c - (W bs (allOf n) - woW n bs i)
/-- what each buyer pays -/
def paysC (n : Int) (bs : List (List Off)) : List Int := (bestC n bs).mapIdx fun i c => payAt n bs i c
theorem paysC_length (n : Int) (bs : List (List Off)) : (paysC n bs).length = bs.length := by simp [paysC, bestC, choose_length]
theorem paysC_get {n : Int} {bs : List (List Off)} {i : Nat} {c : Int} (h : (bestC n bs)[i]? = some c) : (paysC n bs)[i]? = some (payAt n bs i c) := by simp [paysC, h]

theorem own_far {w w' : World} {base : Nat} {e : TypeId} {sz n : Nat} {v : Value} {xs : List Value} {row : Option Nat} (h : w.ownsRow base e sz v n xs) (hg : w.grownBy w' row) (hr : ∀ g, row = some g → v.ownBlock ≠ some g) : w'.ownsRow base e sz v n xs := by
  refine h.kept hg ?_
  cases hv : v.ownBlock with
  | none => exact .inl rfl
  | some g => exact .inr fun e => hr g e.symm hv
theorem own_ne {w : World} {base base' : Nat} {e e' : TypeId} {sz sz' n n' : Nat} {v v' : Value} {xs xs' : List Value} (h : w.ownsRow base e sz v n xs) (h' : w.ownsRow base' e' sz' v' n' xs') (he : e ≠ e') {g : Nat} (hg : v.ownBlock = some g) : v'.ownBlock ≠ some g := by
  intro hg'
  rcases h.2 with ⟨rfl, _⟩ | ⟨g1, cap1, cur1, rfl, _, h1, _⟩
  · simp [Value.ownBlock] at hg
  · rcases h'.2 with ⟨rfl, _⟩ | ⟨g2, cap2, cur2, rfl, _, h2, _⟩
    · simp [Value.ownBlock] at hg'
    · simp [Value.ownBlock] at hg hg'
      subst hg hg'
      rw [h1] at h2
      injection h2 with h2
      injection h2 with _ h2
      exact he h2
theorem own_ne_blk {w : World} {base : Nat} {e t : TypeId} {sz n g : Nat} {v : Value} {xs : List Value} {cs : Array Value} (h : w.ownsRow base e sz v n xs) (hb : Blk w g t cs) (he : e ≠ t) : v.ownBlock ≠ some g := by
  intro hg
  rcases h.2 with ⟨rfl, _⟩ | ⟨g1, cap1, cur1, rfl, _, h1, _⟩
  · simp [Value.ownBlock] at hg
  · simp [Value.ownBlock] at hg
    subst hg
    unfold Blk at hb
    rw [h1] at hb
    injection hb with hb
    injection hb with _ hb
    exact he hb
theorem own_ne_map {P : Program} {kt et : TypeId} {w : World} {base : Nat} {e : TypeId} {sz n b : Nat} {v : Value} {xs : List Value} {Good : Value → Value → Prop} (h : w.ownsRow base e sz v n xs) (hm : MapG P kt et w b Good) : v.ownBlock ≠ some b := by
  intro hg
  rcases h.2 with ⟨rfl, _⟩ | ⟨g1, cap1, cur1, rfl, _, h1, _⟩
  · simp [Value.ownBlock] at hg
  · simp [Value.ownBlock] at hg
    subst hg
    obtain ⟨es, clock, h2, _⟩ := hm
    rw [h1] at h2
    cases h2

set_option maxRecDepth 100000 in
set_option maxHeartbeats 3200000 in
theorem costs_ok (n : Int) (bs : List (List Off)) (v : Value) (R : Nat → Prop) (w : World) (hl : Buys w R v bs) (hi : instE n bs = 0) :
    Calls Try.prog 21 #[.agg #[.int .i64 n, v]] w fun e w' => ∃ A1 c1 A2 c2, e = .returned (.tuple #[.agg #[.slice A1 bs.length c1, .int .i64 (W bs (allOf n)), .slice A2 bs.length c2], .int .i64 0]) ∧
      w'.ownsRow w.heap.size 3 1 (.slice A1 bs.length c1) bs.length (ints (bestC n bs)) ∧ w'.ownsRow w.heap.size 2 1 (.slice A2 bs.length c2) bs.length (ints (paysC n bs)) ∧ Below w.heap.size w w' := by
  obtain ⟨vs, ⟨_, A, cap, rfl, hnc, hcm, hcs⟩, hvs⟩ := id hl
  have HB := Lib.hid hl
  have HI := Lib.hid hi
  have HCS := Lib.hid hcs
  have HVS := Lib.hid hvs
  have hl32 := (instE_zero hi).2.2.1
  have HWF := Lib.hid (buys_wf hl)
  clear hl hi hcs hvs hcm
  go_enter Try.func21, Try.ntmps21
  go_wp2_with (go_at_call 84; refine (lost_ok n bs _ R _ ((HB.out.alloc _).alloc _) HI.out).mono ?_; rintro e w1 ⟨AC, cC, b5, b1, b2, mm, rfl, hown1, hlo1, hmm1, hb1⟩; have hb1a := hb1.mono (B' := w.heap.size + 2) (by simp); have hX := (two_blk hb1a).1; have hR := (two_blk hb1a).2; have hs1 := hb1a.size; simp at hs1; simp at hmm1; have HX := Lib.hid hX; have HR := Lib.hid hR; have HO1 := Lib.hid hown1; have HL1 := Lib.hid hlo1; have HB1 := Lib.hid hb1a; clear hown1 hlo1 hb1 hb1a hX hR)
  have hP0 : Blk ((w1.alloc (.cells #[.slice AC bs.length cC, .int .i64 (W bs (allOf n))] 66)).alloc (.cells #[.slice AC bs.length cC, .int .i64 (W bs (allOf n)), .slice none 0 0] 36)) (w1.heap.size + 1) 36 #[.slice AC bs.length cC, .int .i64 (W bs (allOf n)), .slice none 0 0] := by
    have := Blk.new (w1.alloc (.cells #[.slice AC bs.length cC, .int .i64 (W bs (allOf n))] 66)) 36 #[.slice AC bs.length cC, .int .i64 (W bs (allOf n)), .slice none 0 0]
    rwa [World.size_alloc] at this
  have hlt5 := World.block_lt_of_cell? _ _ HL1.out.c5
  have hltb := World.block_lt_of_cell? _ _ HL1.out.x0
  have hltc := World.block_lt_of_cell? _ _ HL1.out.w1
  have hltm := HL1.out.map.lt
  simp only at hlt5 hltb hltc
  go_loopw [29] (fun i wr => ∃ (k : Nat) (A' : Option Addr) (cap' : Nat), k ≤ bs.length ∧ i = .int .i64 k ∧ LostAt wr (w.heap.size + 2) b5 b1 b2 mm n (.slice A bs.length cap) bs ∧
      Blk wr (w1.heap.size + 1) 36 #[.slice AC bs.length cC, .int .i64 (W bs (allOf n)), .slice A' k cap'] ∧ wr.ownsRow (w1.heap.size + 2) 2 1 (.slice A' k cap') k (ints ((paysC n bs).take k)) ∧
      wr.ownsRow (w.heap.size + 2) 3 1 (.slice AC bs.length cC) bs.length (ints (bestC n bs)) ∧ Blk wr w.heap.size 24 #[.int .i64 n, .slice A bs.length cap] ∧
      Blk wr (w.heap.size + 1) 36 #[.slice none 0 0, .int .i64 0, .slice none 0 0] ∧ Below w.heap.size w wr ∧ w1.heap.size + 2 ≤ wr.heap.size)
    (fun i _ => bs.length - (intOf i).toNat)
  case atStart =>
    refine ⟨0, none, 0, Nat.zero_le _, rfl, ?_, hP0, World.ownsRow_nil _ _ _ _, ?_, (HX.out.alloc _).alloc _, (HR.out.alloc _).alloc _, ?_, by simp⟩
    · simpa using (HL1.out.alloc _).alloc _
    · simpa using (HO1.out.alloc _).alloc _
    · exact ((((((Below.refl _ _).alloc (Nat.le_refl _) _).alloc (by simp) _).trans (HB1.out.mono (by omega))).alloc (by omega) _).alloc (by simp; omega) _)
  case round =>
    obtain ⟨k, A', cap', hk, rfl, hlo, hP, hown, hch, hX, hR, hbw, hsz⟩ := hrel
    have HLO := Lib.hid hlo
    have HP := Lib.hid hP
    have HO := Lib.hid hown
    have HC := Lib.hid hch
    have HX2 := Lib.hid hX
    have HR2 := Lib.hid hR
    have HBW := Lib.hid hbw
    clear hP0
    by_cases hlt : k < bs.length
    · obtain ⟨c, hc⟩ : ∃ c, (bestC n bs)[k]? = some c := ⟨_, List.getElem?_eq_getElem (by rw [bestC, choose_length]; exact hlt)⟩
      have hpg := paysC_get hc
      obtain ⟨gC, capC, hAC, hgC, hgC2⟩ := World.ownsRow.form hch (by omega)
      injection hAC with hAC _ hcC
      subst hAC hcC
      have hcc : wr.cell? ⟨gC, k, none⟩ = some (.int .i64 c) := by
        have h1 := hch.cellAt k (by omega)
        rw [h1]
        simp [ints, hc]
      rcases choose_get bs (allOf n) k c hc with rfl | ⟨j, l, o, rfl, hl, ho⟩
      · have hpay : payAt n bs k (-1) = 0 := rfl
        rw [hpay] at hpg
        have HPG := Lib.hid hpg
        clear hlo hP hown hch hX hR hbw hpg hc hpay
        have g2 : wr.cell? ⟨w1.heap.size + 1, 2, none⟩ = some (.slice A' k cap') := (HP.out.cell 2)
        have g2a := cellAlloc g2 (.cells #[.int .i64 0] 2)
        have hszt : w1.heap.size + 2 ≤ wr.heap.size := hsz
        go_wp2_with (at_builtin; refine wpList_app _ rfl (.tmp 50) (.tmp 52) et_i64 rfl (w1.heap.size + 2) (.slice A' k cap') k (ints ((paysC n bs).take k)) rfl (HO.out.alloc _) _ _ 1 _ rfl (Sl.new wr #[.int .i64 0] _ 1 1 (by unfold maxLen; omega) rfl) (by simp [Value.oneCell']) (by omega) (by unfold maxLen; omega) (by simp; omega) ?_; intro A3 cap3 w3 hown3 hg3 hloc3; have hb3 : Blk w3 (w1.heap.size + 1) 36 #[.slice (some ⟨gC, 0, none⟩) bs.length cC, .int .i64 (W bs (allOf n)), .slice A' k cap'] := (HP.out.alloc _).grown hg3 (fun e => by have := (HO.out.lt _ e.symm).1; omega); have k0 : w3.cell? ⟨w1.heap.size + 1, 2, none⟩ = some (.slice A' k cap') := hb3.cell 2; have k1 := hb3.frozen 2; have HB3 := Lib.hid hb3; have HG3 := Lib.hid hg3; have HO3 := Lib.hid hown3; clear hb3 hg3 hown3 hloc3)
        go_roundw
        case rel =>
          have hro : ∀ g, (Value.slice A' k cap').ownBlock = some g → w1.heap.size + 2 ≤ g := fun g e => (HO.out.lt g e).1
          have hs3 := HG3.out.size
          simp at hs3
          refine ⟨k + 1, A3, cap3, by omega, by go_num, ?_, HB3.out.set_ 2 _, ?_, ?_, ?_, ?_, ?_, by simp [World.setCell]; omega⟩
          · exact ((HLO.out.alloc _).far HG3.out (fun g e => by have := hro g e; omega)).far (grownBy_setCell _ ⟨w1.heap.size + 1, 2, none⟩ _) (fun g e => by simp at e; omega)
          · have h1 := ownsRow_setCell_below HO3.out (a := ⟨w1.heap.size + 1, 2, none⟩) (by simp) (.slice A3 (k + 1) cap3)
            rw [List.take_add_one, HPG.out]
            simpa [ints] using h1
          · have h1 := own_far (HC.out.alloc (.cells #[.int .i64 0] 2)) HG3.out (fun g e => own_ne (HO.out.alloc (.cells #[.int .i64 0] 2)) (HC.out.alloc (.cells #[.int .i64 0] 2)) (by decide) e)
            exact own_far h1 (grownBy_setCell _ ⟨w1.heap.size + 1, 2, none⟩ _) (fun g e => by simp at e; subst e; exact own_ne_blk h1 HB3.out (by decide))
          · exact (((HX2.out.alloc _).grown HG3.out (fun e => by have := hro _ e.symm; omega)).far (p := ⟨w1.heap.size + 1, 2, none⟩) (by simp; omega) _)
          · exact (((HR2.out.alloc _).grown HG3.out (fun e => by have := hro _ e.symm; omega)).far (p := ⟨w1.heap.size + 1, 2, none⟩) (by simp; omega) _)
          · exact ((HBW.out.alloc (by omega) _).grown HG3.out (by simp; omega) (fun g e => by have := hro g e; omega)).setCell (p := ⟨w1.heap.size + 1, 2, none⟩) (by simp; omega) _
        case measure => simp [intOf]; omega
      · have HPG := Lib.hid hpg
        obtain ⟨hw0, hw1⟩ := woW_bd HWF.out HI.out k
        have hok := (okb_of HWF.out HI.out).1
        have hW0 := W_nonneg bs (allOf n)
        have hW1 : W bs (allOf n) ≤ 35184372088832 := by simpa using hok.W_le 0 (allOf n)
        obtain ⟨ho1, ho2, ho3, ho4⟩ := hok.offer hl ho
        have hpay : payAt n bs k (j : Int) = o.c - (W bs (allOf n) - woW n bs k) := by
          unfold payAt coinAt
          rw [if_neg (by omega), if_neg (by omega), hl]
          simp [ho]
        have hl8 := hok.len hl
        have hjl : j < l.length := (List.getElem?_eq_some_iff.1 ho).1
        obtain ⟨bq, off, rfl, _, hbq, hcs⟩ := HCS.out (by omega)
        obtain ⟨u, hu, hol⟩ := HVS.out k l hl
        have cl := (hbw.cell hbq).trans (hcs k u hu)
        obtain ⟨⟨_, A1, cap1, rfl, hnc1, _, hcs1⟩, _⟩ := hol
        obtain ⟨b1', off1, rfl, _, hb1', hcs1⟩ := hcs1 (by omega)
        have co : wr.cell? ⟨b1', off1 + j * 2 + 1, none⟩ = some (.int .i64 o.c) := (hbw.cell hb1').trans (hcs1 _ _ (Off.all_snd l j o ho))
        have cx : wr.cell? ⟨w.heap.size, 1, none⟩ = some (.slice (some ⟨bq, off, none⟩) bs.length cap) := hX.cell 1
        have hsub : IntKind.i64.wrap (o.c - (W bs (allOf n) - woW n bs k)) = o.c - (W bs (allOf n) - woW n bs k) := IntWalk.i64_in _ (by omega)
        have hk0 : (0 : Int) ≤ (k : Int) := by omega
        have hk1 : (k : Int) < (bs.length : Int) := by omega
        have hj0 : (0 : Int) ≤ (j : Int) := by omega
        have hj1 : (j : Int) < (l.length : Int) := by omega
        have HPAY := Lib.hid hpay
        have HCX := Lib.hid cx
        have HCL := Lib.hid cl
        have HCO := Lib.hid co
        clear hlo hP hown hch hX hR hbw hpg hc hpay hcs hcs1 hu hl ho
        go_wp2_with fail
        go_region_held3 (fun w' => w'.cell? ⟨w.heap.size, 1, none⟩ = some (.slice (some ⟨bq, off, none⟩) bs.length cap) ∧ w'.cell? ⟨bq, off + k, none⟩ = some (.slice (some ⟨b1', off1, none⟩) l.length cap1) ∧ w'.cell? ⟨b1', off1 + j * 2 + 1, none⟩ = some (.int .i64 o.c)) (go_keep)
          ((go_at_call 118; refine (each_any _ b5 b1 b2 mm n _ bs k hlt _ HLO.out.drew).mono ?_; rintro e w5 ⟨rfl, hl5, hg5⟩; have z0 := HLO.out.drew.keep hg5 (show wr.drew.cell? _ = _ from HCX.out); have z1 := HLO.out.drew.keep hg5 (show wr.drew.cell? _ = _ from HCL.out); have z2 := HLO.out.drew.keep hg5 (show wr.drew.cell? _ = _ from HCO.out); have z3 := HLO.out.drew.keep hg5 (show wr.drew.cell? _ = _ from hcc)))
        have hsz5 : w1.heap.size + 2 ≤ w5.heap.size := Nat.le_trans hsz hg5.size
        have HL5 := Lib.hid hl5
        have HP5 := Lib.hid (HP.out.drew.grown hg5 (fun e => by injection e with e; omega))
        have HO5 := Lib.hid (own_far (show wr.drew.ownsRow _ _ _ _ _ _ from HO.out) hg5 (fun g e => by injection e with e; subst e; exact own_ne_map HO.out HLO.out.map))
        have HC5 := Lib.hid (own_far (show wr.drew.ownsRow _ _ _ _ _ _ from HC.out) hg5 (fun g e => by injection e with e; subst e; exact own_ne_map HC.out HLO.out.map))
        have HX5 := Lib.hid (HX2.out.drew.grown hg5 (fun e => by injection e with e; omega))
        have HR5 := Lib.hid (HR2.out.drew.grown hg5 (fun e => by injection e with e; omega))
        have HB5 := Lib.hid (HBW.out.drew.grown hg5 (by have := HBW.out.size; simpa using this) (fun g e => by injection e with e; omega))
        rw [HPAY.out] at HPG
        clear hl5 hg5 hsub
        have g2 : w5.cell? ⟨w1.heap.size + 1, 2, none⟩ = some (.slice A' k cap') := (HP5.out.cell 2)
        have g2a := cellAlloc g2 (.cells #[.int .i64 (o.c - (W bs (allOf n) - woW n bs k))] 2)
        have hszt : w1.heap.size + 2 ≤ w5.heap.size := hsz5
        go_wp2_with (at_builtin; refine wpList_app _ rfl (.tmp 50) (.tmp 52) et_i64 rfl (w1.heap.size + 2) (.slice A' k cap') k (ints ((paysC n bs).take k)) rfl (HO5.out.alloc _) _ _ 1 _ rfl (Sl.new w5 #[.int .i64 (o.c - (W bs (allOf n) - woW n bs k))] _ 1 1 (by unfold maxLen; omega) rfl) (by simp [Value.oneCell']) (by omega) (by unfold maxLen; omega) (by simp; omega) ?_; intro A3 cap3 w3 hown3 hg3 hloc3; have hb3 : Blk w3 (w1.heap.size + 1) 36 #[.slice (some ⟨gC, 0, none⟩) bs.length cC, .int .i64 (W bs (allOf n)), .slice A' k cap'] := (HP5.out.alloc _).grown hg3 (fun e => by have := (HO5.out.lt _ e.symm).1; omega); have k0 : w3.cell? ⟨w1.heap.size + 1, 2, none⟩ = some (.slice A' k cap') := hb3.cell 2; have k1 := hb3.frozen 2; have HB3 := Lib.hid hb3; have HG3 := Lib.hid hg3; have HO3 := Lib.hid hown3; clear hb3 hg3 hown3 hloc3)
        go_roundw
        case rel =>
          have hro : ∀ g, (Value.slice A' k cap').ownBlock = some g → w1.heap.size + 2 ≤ g := fun g e => (HO5.out.lt g e).1
          have hs3 := HG3.out.size
          simp at hs3
          refine ⟨k + 1, A3, cap3, by omega, by go_num, ?_, HB3.out.set_ 2 _, ?_, ?_, ?_, ?_, ?_, by simp [World.setCell]; omega⟩
          · exact ((HL5.out.alloc _).far HG3.out (fun g e => by have := hro g e; omega)).far (grownBy_setCell _ ⟨w1.heap.size + 1, 2, none⟩ _) (fun g e => by simp at e; omega)
          · have h1 := ownsRow_setCell_below HO3.out (a := ⟨w1.heap.size + 1, 2, none⟩) (by simp) (.slice A3 (k + 1) cap3)
            rw [List.take_add_one, HPG.out]
            simpa [ints] using h1
          · have h1 := own_far (HC5.out.alloc (.cells #[.int .i64 (o.c - (W bs (allOf n) - woW n bs k))] 2)) HG3.out (fun g e => own_ne (HO5.out.alloc (.cells #[.int .i64 (o.c - (W bs (allOf n) - woW n bs k))] 2)) (HC5.out.alloc (.cells #[.int .i64 (o.c - (W bs (allOf n) - woW n bs k))] 2)) (by decide) e)
            exact own_far h1 (grownBy_setCell _ ⟨w1.heap.size + 1, 2, none⟩ _) (fun g e => by simp at e; subst e; exact own_ne_blk h1 HB3.out (by decide))
          · exact (((HX5.out.alloc _).grown HG3.out (fun e => by have := hro _ e.symm; omega)).far (p := ⟨w1.heap.size + 1, 2, none⟩) (by simp; omega) _)
          · exact (((HR5.out.alloc _).grown HG3.out (fun e => by have := hro _ e.symm; omega)).far (p := ⟨w1.heap.size + 1, 2, none⟩) (by simp; omega) _)
          · exact ((HB5.out.alloc (by omega) _).grown HG3.out (by simp; omega) (fun g e => by have := hro g e; omega)).setCell (p := ⟨w1.heap.size + 1, 2, none⟩) (by simp; omega) _
        case measure => simp [intOf]; omega
    · obtain rfl : k = bs.length := by omega
      have p0 := hP.cell 0
      have p1 := hP.cell 1
      have p2 := hP.cell 2
      have r0 := hR.cell 0
      have r1 := hR.cell 1
      have r2 := hR.cell 2
      have rf := hR.frozen
      simp at p0 p1 p2 r0 r1 r2
      have htk : (paysC n bs).take bs.length = paysC n bs := List.take_of_length_le (by rw [paysC_length]; exact Nat.le_refl _)
      rw [htk] at hown
      have HO := Lib.hid hown
      clear hlo hP hown hch hX hbw htk
      have hq := ((HR2.out.set_ 0 (.slice AC bs.length cC)).set_ 1 (.int .i64 (W bs (allOf n)))).set_ 2 (.slice A' bs.length cap')
      have q0 := hq.cell 0
      have q1 := hq.cell 1
      have q2 := hq.cell 2
      simp at q0 q1 q2
      clear hq hR
      go_wp2_with fail
      refine bodyPost_ret (v := .tuple #[.agg #[.slice AC bs.length cC, .int .i64 (W bs (allOf n)), .slice A' bs.length cap'], .int .i64 0]) (by simp [results, Try.results21, go_sem, q0, q1, q2]) rfl ⟨AC, cC, A', cap', rfl, ?_, ?_, ?_⟩
      · exact own_mono (ownsRow_setCell_below (ownsRow_setCell_below (ownsRow_setCell_below HC.out (a := ⟨w.heap.size + 1, 0, none⟩) (by simp) _) (a := ⟨w.heap.size + 1, 1, none⟩) (by simp) _) (a := ⟨w.heap.size + 1, 2, none⟩) (by simp) _) (by omega)
      · exact own_mono (ownsRow_setCell_below (ownsRow_setCell_below (ownsRow_setCell_below HO.out (a := ⟨w.heap.size + 1, 0, none⟩) (by simp; omega) _) (a := ⟨w.heap.size + 1, 1, none⟩) (by simp; omega) _) (a := ⟨w.heap.size + 1, 2, none⟩) (by simp; omega) _) (by omega)
      · exact ((HBW.out.setCell (p := ⟨w.heap.size + 1, 0, none⟩) (by simp) _).setCell (p := ⟨w.heap.size + 1, 1, none⟩) (by simp) _).setCell (p := ⟨w.heap.size + 1, 2, none⟩) (by simp) _
end Go.Proofs.Ytcigobiolbojhaa.Vb

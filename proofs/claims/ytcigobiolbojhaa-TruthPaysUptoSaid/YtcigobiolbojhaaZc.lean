/- Joined by program: Costs Gains Ref08a Ref08b Ref08c Ref08d Tab Ref17a Ref17b. -/
import Derived.Test.YtcigobiolbojhaaZb
import Derived.Deep.OwnRows
/- vcg.Costs. -/
namespace Go.Proofs.Ytcigobiolbojhaa.Vb
open Go.RowKit

/-- each number of the best choice is an offer's, or -1 -/
theorem pickAt_get (g : Nat → Int) (f : Nat) (left : Int) : ∀ (l : List Off) (p : Nat × Nat), pickAt g f left l = some p → ∃ o, l[p.1]? = some o ∧ o.g = p.2 ∧ pickB g f left o = true
  | [], p, h => by simp [pickAt] at h
  | o :: l, p, h => by
    unfold pickAt at h
    split at h
    · rename_i hb
      injection h with h
      subst h
      exact ⟨o, rfl, rfl, hb⟩
    · rw [Option.map_eq_some_iff] at h
      obtain ⟨q, hq, rfl⟩ := h
      obtain ⟨o', h1, h2, h3⟩ := pickAt_get g f left l q hq
      exact ⟨o', by simpa using h1, h2, h3⟩
theorem choose_get : ∀ (bs : List (List Off)) (f : Nat) (i : Nat) (c : Int), (choose bs f)[i]? = some c → c = -1 ∨ ∃ (j : Nat) (l : List Off) (o : Off), c = (j : Int) ∧ bs[i]? = some l ∧ l[j]? = some o
  | [], f, i, c, h => by simp [choose] at h
  | l :: bs, f, 0, c, h => by
    simp only [choose, List.getElem?_cons_zero, Option.some.injEq] at h
    unfold pickN at h
    cases hp : pickAt (W bs) f (W (l :: bs) f) l with
    | none => rw [hp] at h; exact .inl h.symm
    | some p =>
      rw [hp] at h
      obtain ⟨o, ho, _, _⟩ := pickAt_get _ _ _ _ _ hp
      exact .inr ⟨p.1, l, o, h.symm, rfl, ho⟩
  | l :: bs, f, i + 1, c, h => by
    simp only [choose, List.getElem?_cons_succ] at h
    exact choose_get bs _ i c h

/-- the coins of what a buyer wins -/
def coinAt (bs : List (List Off)) (i : Nat) (c : Int) : Int := if c < 0 then 0 else (((bs[i]?).getD [])[c.toNat]?.map (·.c)).getD 0
def payAt (n : Int) (bs : List (List Off)) (i : Nat) (c : Int) : Int := if c < 0 then 0 else coinAt bs i c - (W bs (allOf n) - woW n bs i)
/-- what each buyer pays -/
def paysC (n : Int) (bs : List (List Off)) : List Int := (bestC n bs).mapIdx fun i c => payAt n bs i c
theorem paysC_length (n : Int) (bs : List (List Off)) : (paysC n bs).length = bs.length := by simp [paysC, bestC, choose_length]
theorem paysC_get {n : Int} {bs : List (List Off)} {i : Nat} {c : Int} (h : (bestC n bs)[i]? = some c) : (paysC n bs)[i]? = some (payAt n bs i c) := by simp [paysC, h]

theorem own_far {w w' : World} {base : Nat} {e : TypeId} {sz n : Nat} {v : Value} {xs : List Value} {row : Option Nat} (h : w.ownsRow base e sz v n xs) (hg : w.grownBy w' row) (hr : ∀ g, row = some g → v.ownBlock ≠ some g) : w'.ownsRow base e sz v n xs := by
  refine h.kept hg ?_
  cases hv : v.ownBlock with
  | none => exact .inl rfl
  | some g => exact .inr fun e => hr g e.symm hv
theorem own_ne {w : World} {base base' : Nat} {e e' : TypeId} {sz sz' n n' : Nat} {v v' : Value} {xs xs' : List Value} (h : w.ownsRow base e sz v n xs) (h' : w.ownsRow base' e' sz' v' n' xs') (he : e ≠ e') {g : Nat} (hg : v.ownBlock = some g) : v'.ownBlock ≠ some g := by
  intro hg'
  rcases h.2 with ⟨rfl, _⟩ | ⟨g1, cap1, cur1, rfl, _, h1, _⟩
  · simp [Value.ownBlock] at hg
  · rcases h'.2 with ⟨rfl, _⟩ | ⟨g2, cap2, cur2, rfl, _, h2, _⟩
    · simp [Value.ownBlock] at hg'
    · simp [Value.ownBlock] at hg hg'
      subst hg hg'
      rw [h1] at h2
      injection h2 with h2
      injection h2 with _ h2
      exact he h2
theorem own_ne_blk {w : World} {base : Nat} {e t : TypeId} {sz n g : Nat} {v : Value} {xs : List Value} {cs : Array Value} (h : w.ownsRow base e sz v n xs) (hb : Blk w g t cs) (he : e ≠ t) : v.ownBlock ≠ some g := by
  intro hg
  rcases h.2 with ⟨rfl, _⟩ | ⟨g1, cap1, cur1, rfl, _, h1, _⟩
  · simp [Value.ownBlock] at hg
  · simp [Value.ownBlock] at hg
    subst hg
    unfold Blk at hb
    rw [h1] at hb
    injection hb with hb
    injection hb with _ hb
    exact he hb
theorem own_ne_map {P : Program} {kt et : TypeId} {w : World} {base : Nat} {e : TypeId} {sz n b : Nat} {v : Value} {xs : List Value} {Good : Value → Value → Prop} (h : w.ownsRow base e sz v n xs) (hm : MapG P kt et w b Good) : v.ownBlock ≠ some b := by
  intro hg
  rcases h.2 with ⟨rfl, _⟩ | ⟨g1, cap1, cur1, rfl, _, h1, _⟩
  · simp [Value.ownBlock] at hg
  · simp [Value.ownBlock] at hg
    subst hg
    obtain ⟨es, clock, h2, _⟩ := hm
    rw [h1] at h2
    cases h2

set_option maxRecDepth 100000 in
set_option maxHeartbeats 3200000 in
theorem costs_ok (n : Int) (bs : List (List Off)) (v : Value) (R : Nat → Prop) (w : World) (hl : Buys w R v bs) (hi : instE n bs = 0) :
    Calls Try.prog 21 #[.agg #[.int .i64 n, v]] w fun e w' => ∃ A1 c1 A2 c2, e = .returned (.tuple #[.agg #[.slice A1 bs.length c1, .int .i64 (W bs (allOf n)), .slice A2 bs.length c2], .int .i64 0]) ∧
      w'.ownsRow w.heap.size 3 1 (.slice A1 bs.length c1) bs.length (ints (bestC n bs)) ∧ w'.ownsRow w.heap.size 2 1 (.slice A2 bs.length c2) bs.length (ints (paysC n bs)) ∧ Below w.heap.size w w' := by
  obtain ⟨vs, ⟨_, A, cap, rfl, hnc, hcm, hcs⟩, hvs⟩ := id hl
  have HB := Lib.hid hl
  have HI := Lib.hid hi
  have HCS := Lib.hid hcs
  have HVS := Lib.hid hvs
  have hl32 := (instE_zero hi).2.2.1
  have HWF := Lib.hid (buys_wf hl)
  clear hl hi hcs hvs hcm
  go_enter Try.func21, Try.ntmps21
  go_wp2_with (go_at_call 84; refine (lost_ok n bs _ R _ ((HB.out.alloc _).alloc _) HI.out).mono ?_; rintro e w1 ⟨AC, cC, b5, b1, b2, mm, rfl, hown1, hlo1, hmm1, hb1⟩; have hb1a := hb1.mono (B' := w.heap.size + 2) (by simp); have hX := (two_blk hb1a).1; have hR := (two_blk hb1a).2; have hs1 := hb1a.size; simp at hs1; simp at hmm1; have HX := Lib.hid hX; have HR := Lib.hid hR; have HO1 := Lib.hid hown1; have HL1 := Lib.hid hlo1; have HB1 := Lib.hid hb1a; clear hown1 hlo1 hb1 hb1a hX hR)
  have hP0 : Blk ((w1.alloc (.cells #[.slice AC bs.length cC, .int .i64 (W bs (allOf n))] 66)).alloc (.cells #[.slice AC bs.length cC, .int .i64 (W bs (allOf n)), .slice none 0 0] 36)) (w1.heap.size + 1) 36 #[.slice AC bs.length cC, .int .i64 (W bs (allOf n)), .slice none 0 0] := by
    have := Blk.new (w1.alloc (.cells #[.slice AC bs.length cC, .int .i64 (W bs (allOf n))] 66)) 36 #[.slice AC bs.length cC, .int .i64 (W bs (allOf n)), .slice none 0 0]
    rwa [World.size_alloc] at this
  have hlt5 := World.block_lt_of_cell? _ _ HL1.out.c5
  have hltb := World.block_lt_of_cell? _ _ HL1.out.x0
  have hltc := World.block_lt_of_cell? _ _ HL1.out.w1
  have hltm := HL1.out.map.lt
  simp only at hlt5 hltb hltc
  go_loopw [29] (fun i wr => ∃ (k : Nat) (A' : Option Addr) (cap' : Nat), k ≤ bs.length ∧ i = .int .i64 k ∧ LostAt wr (w.heap.size + 2) b5 b1 b2 mm n (.slice A bs.length cap) bs ∧
      Blk wr (w1.heap.size + 1) 36 #[.slice AC bs.length cC, .int .i64 (W bs (allOf n)), .slice A' k cap'] ∧ wr.ownsRow (w1.heap.size + 2) 2 1 (.slice A' k cap') k (ints ((paysC n bs).take k)) ∧
      wr.ownsRow (w.heap.size + 2) 3 1 (.slice AC bs.length cC) bs.length (ints (bestC n bs)) ∧ Blk wr w.heap.size 24 #[.int .i64 n, .slice A bs.length cap] ∧
      Blk wr (w.heap.size + 1) 36 #[.slice none 0 0, .int .i64 0, .slice none 0 0] ∧ Below w.heap.size w wr ∧ w1.heap.size + 2 ≤ wr.heap.size)
    (fun i _ => bs.length - (intOf i).toNat)
  case atStart =>
    refine ⟨0, none, 0, Nat.zero_le _, rfl, ?_, hP0, World.ownsRow_nil _ _ _ _, ?_, (HX.out.alloc _).alloc _, (HR.out.alloc _).alloc _, ?_, by simp⟩
    · simpa using (HL1.out.alloc _).alloc _
    · simpa using (HO1.out.alloc _).alloc _
    · exact ((((((Below.refl _ _).alloc (Nat.le_refl _) _).alloc (by simp) _).trans (HB1.out.mono (by omega))).alloc (by omega) _).alloc (by simp; omega) _)
  case round =>
    obtain ⟨k, A', cap', hk, rfl, hlo, hP, hown, hch, hX, hR, hbw, hsz⟩ := hrel
    have HLO := Lib.hid hlo
    have HP := Lib.hid hP
    have HO := Lib.hid hown
    have HC := Lib.hid hch
    have HX2 := Lib.hid hX
    have HR2 := Lib.hid hR
    have HBW := Lib.hid hbw
    clear hP0
    by_cases hlt : k < bs.length
    · obtain ⟨c, hc⟩ : ∃ c, (bestC n bs)[k]? = some c := ⟨_, List.getElem?_eq_getElem (by rw [bestC, choose_length]; exact hlt)⟩
      have hpg := paysC_get hc
      obtain ⟨gC, capC, hAC, hgC, hgC2⟩ := World.ownsRow.form hch (by omega)
      injection hAC with hAC _ hcC
      subst hAC hcC
      have hcc : wr.cell? ⟨gC, k, none⟩ = some (.int .i64 c) := by
        have h1 := hch.cellAt k (by omega)
        rw [h1]
        simp [ints, hc]
      rcases choose_get bs (allOf n) k c hc with rfl | ⟨j, l, o, rfl, hl, ho⟩
      · have hpay : payAt n bs k (-1) = 0 := rfl
        rw [hpay] at hpg
        have HPG := Lib.hid hpg
        clear hlo hP hown hch hX hR hbw hpg hc hpay
        have g2 : wr.cell? ⟨w1.heap.size + 1, 2, none⟩ = some (.slice A' k cap') := (HP.out.cell 2)
        have g2a := cellAlloc g2 (.cells #[.int .i64 0] 2)
        have hszt : w1.heap.size + 2 ≤ wr.heap.size := hsz
        go_wp2_with (at_builtin; refine wpList_app _ rfl (.tmp 50) (.tmp 52) et_i64 rfl (w1.heap.size + 2) (.slice A' k cap') k (ints ((paysC n bs).take k)) rfl (HO.out.alloc _) _ _ 1 _ rfl (Sl.new wr #[.int .i64 0] _ 1 1 (by unfold maxLen; omega) rfl) (by simp [Value.oneCell']) (by omega) (by unfold maxLen; omega) (by simp; omega) ?_; intro A3 cap3 w3 hown3 hg3 hloc3; have hb3 : Blk w3 (w1.heap.size + 1) 36 #[.slice (some ⟨gC, 0, none⟩) bs.length cC, .int .i64 (W bs (allOf n)), .slice A' k cap'] := (HP.out.alloc _).grown hg3 (fun e => by have := (HO.out.lt _ e.symm).1; omega); have k0 : w3.cell? ⟨w1.heap.size + 1, 2, none⟩ = some (.slice A' k cap') := hb3.cell 2; have k1 := hb3.frozen 2; have HB3 := Lib.hid hb3; have HG3 := Lib.hid hg3; have HO3 := Lib.hid hown3; clear hb3 hg3 hown3 hloc3)
        go_roundw
        case rel =>
          have hro : ∀ g, (Value.slice A' k cap').ownBlock = some g → w1.heap.size + 2 ≤ g := fun g e => (HO.out.lt g e).1
          have hs3 := HG3.out.size
          simp at hs3
          refine ⟨k + 1, A3, cap3, by omega, by go_num, ?_, HB3.out.set_ 2 _, ?_, ?_, ?_, ?_, ?_, by simp [World.setCell]; omega⟩
          · exact ((HLO.out.alloc _).far HG3.out (fun g e => by have := hro g e; omega)).far (grownBy_setCell _ ⟨w1.heap.size + 1, 2, none⟩ _) (fun g e => by simp at e; omega)
          · have h1 := ownsRow_setCell_below HO3.out (a := ⟨w1.heap.size + 1, 2, none⟩) (by simp) (.slice A3 (k + 1) cap3)
            rw [List.take_add_one, HPG.out]
            simpa [ints] using h1
          · have h1 := own_far (HC.out.alloc (.cells #[.int .i64 0] 2)) HG3.out (fun g e => own_ne (HO.out.alloc (.cells #[.int .i64 0] 2)) (HC.out.alloc (.cells #[.int .i64 0] 2)) (by decide) e)
            exact own_far h1 (grownBy_setCell _ ⟨w1.heap.size + 1, 2, none⟩ _) (fun g e => by simp at e; subst e; exact own_ne_blk h1 HB3.out (by decide))
          · exact (((HX2.out.alloc _).grown HG3.out (fun e => by have := hro _ e.symm; omega)).far (p := ⟨w1.heap.size + 1, 2, none⟩) (by simp; omega) _)
          · exact (((HR2.out.alloc _).grown HG3.out (fun e => by have := hro _ e.symm; omega)).far (p := ⟨w1.heap.size + 1, 2, none⟩) (by simp; omega) _)
          · exact ((HBW.out.alloc (by omega) _).grown HG3.out (by simp; omega) (fun g e => by have := hro g e; omega)).setCell (p := ⟨w1.heap.size + 1, 2, none⟩) (by simp; omega) _
        case measure => simp [intOf]; omega
      · have HPG := Lib.hid hpg
        obtain ⟨hw0, hw1⟩ := woW_bd HWF.out HI.out k
        have hok := (okb_of HWF.out HI.out).1
        have hW0 := W_nonneg bs (allOf n)
        have hW1 : W bs (allOf n) ≤ 35184372088832 := by simpa using hok.W_le 0 (allOf n)
        obtain ⟨ho1, ho2, ho3, ho4⟩ := hok.offer hl ho
        have hpay : payAt n bs k (j : Int) = o.c - (W bs (allOf n) - woW n bs k) := by
          unfold payAt coinAt
          rw [if_neg (by omega), if_neg (by omega), hl]
          simp [ho]
        have hl8 := hok.len hl
        have hjl : j < l.length := (List.getElem?_eq_some_iff.1 ho).1
        obtain ⟨bq, off, rfl, _, hbq, hcs⟩ := HCS.out (by omega)
        obtain ⟨u, hu, hol⟩ := HVS.out k l hl
        have cl := (hbw.cell hbq).trans (hcs k u hu)
        obtain ⟨⟨_, A1, cap1, rfl, hnc1, _, hcs1⟩, _⟩ := hol
        obtain ⟨b1', off1, rfl, _, hb1', hcs1⟩ := hcs1 (by omega)
        have co : wr.cell? ⟨b1', off1 + j * 2 + 1, none⟩ = some (.int .i64 o.c) := (hbw.cell hb1').trans (hcs1 _ _ (Off.all_snd l j o ho))
        have cx : wr.cell? ⟨w.heap.size, 1, none⟩ = some (.slice (some ⟨bq, off, none⟩) bs.length cap) := hX.cell 1
        have hsub : IntKind.i64.wrap (o.c - (W bs (allOf n) - woW n bs k)) = o.c - (W bs (allOf n) - woW n bs k) := IntWalk.i64_in _ (by omega)
        have hk0 : (0 : Int) ≤ (k : Int) := by omega
        have hk1 : (k : Int) < (bs.length : Int) := by omega
        have hj0 : (0 : Int) ≤ (j : Int) := by omega
        have hj1 : (j : Int) < (l.length : Int) := by omega
        have HPAY := Lib.hid hpay
        have HCX := Lib.hid cx
        have HCL := Lib.hid cl
        have HCO := Lib.hid co
        clear hlo hP hown hch hX hR hbw hpg hc hpay hcs hcs1 hu hl ho
        go_wp2_with fail
        go_region_held3 (fun w' => w'.cell? ⟨w.heap.size, 1, none⟩ = some (.slice (some ⟨bq, off, none⟩) bs.length cap) ∧ w'.cell? ⟨bq, off + k, none⟩ = some (.slice (some ⟨b1', off1, none⟩) l.length cap1) ∧ w'.cell? ⟨b1', off1 + j * 2 + 1, none⟩ = some (.int .i64 o.c)) (go_keep)
          ((go_at_call 118; refine (each_any _ b5 b1 b2 mm n _ bs k hlt _ HLO.out.drew).mono ?_; rintro e w5 ⟨rfl, hl5, hg5⟩; have z0 := HLO.out.drew.keep hg5 (show wr.drew.cell? _ = _ from HCX.out); have z1 := HLO.out.drew.keep hg5 (show wr.drew.cell? _ = _ from HCL.out); have z2 := HLO.out.drew.keep hg5 (show wr.drew.cell? _ = _ from HCO.out); have z3 := HLO.out.drew.keep hg5 (show wr.drew.cell? _ = _ from hcc)))
        have hsz5 : w1.heap.size + 2 ≤ w5.heap.size := Nat.le_trans hsz hg5.size
        have HL5 := Lib.hid hl5
        have HP5 := Lib.hid (HP.out.drew.grown hg5 (fun e => by injection e with e; omega))
        have HO5 := Lib.hid (own_far (show wr.drew.ownsRow _ _ _ _ _ _ from HO.out) hg5 (fun g e => by injection e with e; subst e; exact own_ne_map HO.out HLO.out.map))
        have HC5 := Lib.hid (own_far (show wr.drew.ownsRow _ _ _ _ _ _ from HC.out) hg5 (fun g e => by injection e with e; subst e; exact own_ne_map HC.out HLO.out.map))
        have HX5 := Lib.hid (HX2.out.drew.grown hg5 (fun e => by injection e with e; omega))
        have HR5 := Lib.hid (HR2.out.drew.grown hg5 (fun e => by injection e with e; omega))
        have HB5 := Lib.hid (HBW.out.drew.grown hg5 (by have := HBW.out.size; simpa using this) (fun g e => by injection e with e; omega))
        rw [HPAY.out] at HPG
        clear hl5 hg5 hsub
        have g2 : w5.cell? ⟨w1.heap.size + 1, 2, none⟩ = some (.slice A' k cap') := (HP5.out.cell 2)
        have g2a := cellAlloc g2 (.cells #[.int .i64 (o.c - (W bs (allOf n) - woW n bs k))] 2)
        have hszt : w1.heap.size + 2 ≤ w5.heap.size := hsz5
        go_wp2_with (at_builtin; refine wpList_app _ rfl (.tmp 50) (.tmp 52) et_i64 rfl (w1.heap.size + 2) (.slice A' k cap') k (ints ((paysC n bs).take k)) rfl (HO5.out.alloc _) _ _ 1 _ rfl (Sl.new w5 #[.int .i64 (o.c - (W bs (allOf n) - woW n bs k))] _ 1 1 (by unfold maxLen; omega) rfl) (by simp [Value.oneCell']) (by omega) (by unfold maxLen; omega) (by simp; omega) ?_; intro A3 cap3 w3 hown3 hg3 hloc3; have hb3 : Blk w3 (w1.heap.size + 1) 36 #[.slice (some ⟨gC, 0, none⟩) bs.length cC, .int .i64 (W bs (allOf n)), .slice A' k cap'] := (HP5.out.alloc _).grown hg3 (fun e => by have := (HO5.out.lt _ e.symm).1; omega); have k0 : w3.cell? ⟨w1.heap.size + 1, 2, none⟩ = some (.slice A' k cap') := hb3.cell 2; have k1 := hb3.frozen 2; have HB3 := Lib.hid hb3; have HG3 := Lib.hid hg3; have HO3 := Lib.hid hown3; clear hb3 hg3 hown3 hloc3)
        go_roundw
        case rel =>
          have hro : ∀ g, (Value.slice A' k cap').ownBlock = some g → w1.heap.size + 2 ≤ g := fun g e => (HO5.out.lt g e).1
          have hs3 := HG3.out.size
          simp at hs3
          refine ⟨k + 1, A3, cap3, by omega, by go_num, ?_, HB3.out.set_ 2 _, ?_, ?_, ?_, ?_, ?_, by simp [World.setCell]; omega⟩
          · exact ((HL5.out.alloc _).far HG3.out (fun g e => by have := hro g e; omega)).far (grownBy_setCell _ ⟨w1.heap.size + 1, 2, none⟩ _) (fun g e => by simp at e; omega)
          · have h1 := ownsRow_setCell_below HO3.out (a := ⟨w1.heap.size + 1, 2, none⟩) (by simp) (.slice A3 (k + 1) cap3)
            rw [List.take_add_one, HPG.out]
            simpa [ints] using h1
          · have h1 := own_far (HC5.out.alloc (.cells #[.int .i64 (o.c - (W bs (allOf n) - woW n bs k))] 2)) HG3.out (fun g e => own_ne (HO5.out.alloc (.cells #[.int .i64 (o.c - (W bs (allOf n) - woW n bs k))] 2)) (HC5.out.alloc (.cells #[.int .i64 (o.c - (W bs (allOf n) - woW n bs k))] 2)) (by decide) e)
            exact own_far h1 (grownBy_setCell _ ⟨w1.heap.size + 1, 2, none⟩ _) (fun g e => by simp at e; subst e; exact own_ne_blk h1 HB3.out (by decide))
          · exact (((HX5.out.alloc _).grown HG3.out (fun e => by have := hro _ e.symm; omega)).far (p := ⟨w1.heap.size + 1, 2, none⟩) (by simp; omega) _)
          · exact (((HR5.out.alloc _).grown HG3.out (fun e => by have := hro _ e.symm; omega)).far (p := ⟨w1.heap.size + 1, 2, none⟩) (by simp; omega) _)
          · exact ((HB5.out.alloc (by omega) _).grown HG3.out (by simp; omega) (fun g e => by have := hro g e; omega)).setCell (p := ⟨w1.heap.size + 1, 2, none⟩) (by simp; omega) _
        case measure => simp [intOf]; omega
    · obtain rfl : k = bs.length := by omega
      have p0 := hP.cell 0
      have p1 := hP.cell 1
      have p2 := hP.cell 2
      have r0 := hR.cell 0
      have r1 := hR.cell 1
      have r2 := hR.cell 2
      have rf := hR.frozen
      simp at p0 p1 p2 r0 r1 r2
      have htk : (paysC n bs).take bs.length = paysC n bs := List.take_of_length_le (by rw [paysC_length]; exact Nat.le_refl _)
      rw [htk] at hown
      have HO := Lib.hid hown
      clear hlo hP hown hch hX hbw htk
      have hq := ((HR2.out.set_ 0 (.slice AC bs.length cC)).set_ 1 (.int .i64 (W bs (allOf n)))).set_ 2 (.slice A' bs.length cap')
      have q0 := hq.cell 0
      have q1 := hq.cell 1
      have q2 := hq.cell 2
      simp at q0 q1 q2
      clear hq hR
      go_wp2_with fail
      refine bodyPost_ret (v := .tuple #[.agg #[.slice AC bs.length cC, .int .i64 (W bs (allOf n)), .slice A' bs.length cap'], .int .i64 0]) (by simp [results, Try.results21, go_sem, q0, q1, q2]) rfl ⟨AC, cC, A', cap', rfl, ?_, ?_, ?_⟩
      · exact own_mono (ownsRow_setCell_below (ownsRow_setCell_below (ownsRow_setCell_below HC.out (a := ⟨w.heap.size + 1, 0, none⟩) (by simp) _) (a := ⟨w.heap.size + 1, 1, none⟩) (by simp) _) (a := ⟨w.heap.size + 1, 2, none⟩) (by simp) _) (by omega)
      · exact own_mono (ownsRow_setCell_below (ownsRow_setCell_below (ownsRow_setCell_below HO.out (a := ⟨w.heap.size + 1, 0, none⟩) (by simp; omega) _) (a := ⟨w.heap.size + 1, 1, none⟩) (by simp; omega) _) (a := ⟨w.heap.size + 1, 2, none⟩) (by simp; omega) _) (by omega)
      · exact ((HBW.out.setCell (p := ⟨w.heap.size + 1, 0, none⟩) (by simp) _).setCell (p := ⟨w.heap.size + 1, 1, none⟩) (by simp) _).setCell (p := ⟨w.heap.size + 1, 2, none⟩) (by simp) _
end Go.Proofs.Ytcigobiolbojhaa.Vb

/- vcg.Gains, vcg.Pivotal. -/
namespace Go.Proofs.Ytcigobiolbojhaa.Vb
open Go.RowKit

/-- what each buyer gains -/
def gainAt (n : Int) (bs : List (List Off)) (i : Nat) : Int := W bs (allOf n) - woW n bs i
def gainsC (n : Int) (bs : List (List Off)) : List Int := (List.range bs.length).map (gainAt n bs)
def pivotTo (n : Int) (bs : List (List Off)) (k : Nat) : List Int := ((List.range k).filter fun i => decide (0 < gainAt n bs i)).map fun (i : Nat) => (i : Int)
def pivotC (n : Int) (bs : List (List Off)) : List Int := pivotTo n bs bs.length

theorem one_blk' {w w1 : World} {cs : Array Value} {t : TypeId} (hb : Below (w.alloc (.cells cs t)).heap.size (w.alloc (.cells cs t)) w1) : Blk w1 w.heap.size t cs ∧ w.heap.size + 1 ≤ w1.heap.size ∧ Below w.heap.size w w1 := by
  have hb' := hb.mono (B' := w.heap.size + 1) (by simp)
  have hs := hb.size
  simp at hs
  exact ⟨one_blk hb', hs, ((Below.refl _ _).alloc (Nat.le_refl _) _).trans (hb'.mono (by omega))⟩

end Go.Proofs.Ytcigobiolbojhaa.Vb

/- The reference of layer 8: All, May, Check, SameOffers, SameInstance. -/
namespace Go.Proofs.Ytcigobiolbojhaa.Vb
open Go.RowKit

set_option maxHeartbeats 400000 in
theorem refAll_any (n : Nat) (h0 : 1 ≤ n) (h1 : n ≤ 10) (w : World) :
    Calls Try.prog 117 #[.int .i64 n] w fun e w' => e = .returned (.int .u32 ((2 ^ n - 1 : Nat) : Int)) ∧ w = w' := by
  have hp := pow32 n (by omega)
  have hp2 : 2 ^ n ≤ 1024 := Nat.le_trans (Nat.pow_le_pow_right (by omega) h1) (by decide)
  have hp0 : 0 < 2 ^ n := Nat.two_pow_pos n
  have h3 : ((2 : Int) ^ n) = ((2 ^ n : Nat) : Int) := by simp
  have h4 := IntWalk.u32_in ((2 ^ n : Nat) : Int) (by omega)
  have h5 := IntWalk.u32_in (((2 ^ n : Nat) : Int) - 1) (by omega)
  have hr : IntKind.u32.wrap (IntKind.u32.wrap (2 ^ n) - 1) = ((2 ^ n - 1 : Nat) : Int) := by rw [h3, h4, h5]; omega
  have HR := Lib.hid hr
  clear hp hp2 hp0 h3 h4 h5 hr
  go_enter Try.func117, Try.ntmps117
  go_wp2
  go_ret
  exact ⟨by rw [← HR.out]; rfl, rfl⟩

theorem quiet_left {P : Program} {f : FuncId} {args : Array Value} {w : World} {n : Nat} {v : Value}
    (h : Calls P f args (w.drewN n) fun e w' => e = .returned v ∧ w.drewN n = w') : Calls P f args (w.drewN n) fun e w'' => e = .returned v ∧ ∃ m, w'' = w.drewN m :=
  h.mono fun _ _ ⟨he, hm⟩ => ⟨he, n, hm.symm⟩

set_option maxHeartbeats 1600000 in
theorem refMay_any (n : Nat) (h0 : 1 ≤ n) (h1 : n ≤ 10) (o : Off) (ho : o.wf) (w : World) :
    Calls Try.prog 119 #[.int .i64 n, .agg #[.int .u32 o.g, .int .i64 o.c]] w fun e w' => e = .returned (.bool (!badB (2 ^ n - 1) o)) ∧ Below w.heap.size w w' := by
  have hp2 : 2 ^ n ≤ 1024 := Nat.le_trans (Nat.pow_le_pow_right (by omega) h1) (by decide)
  have hp0 : 0 < 2 ^ n := Nat.two_pow_pos n
  obtain ⟨g, c⟩ := o
  obtain ⟨hg, hc0, hc1⟩ := ho
  simp only at hg hc0 hc1
  simp only
  obtain ⟨al, hal⟩ : ∃ al, al = 2 ^ n - 1 := ⟨_, rfl⟩
  have hall : al < 4294967296 := by omega
  rw [← hal]
  have HAL := Lib.hid hal
  have hbits : bits .andNot .u32 (g : Int) (al : Int) = ((andNot g al : Nat) : Int) := u32_andNot_nat g al hg hall
  clear hp2 hp0 hal
  have cA : ∀ W : World, (W.alloc (.cells #[.int .u32 g, .int .i64 c] 45)).cell? ⟨W.heap.size, 0, none⟩ = some (.int .u32 g) := fun W => by simp
  have cB : ∀ W : World, (W.alloc (.cells #[.int .u32 g, .int .i64 c] 45)).cell? ⟨W.heap.size, 1, none⟩ = some (.int .i64 c) := fun W => by simp
  by_cases hg0 : g = 0
  · have hb : (((g : Nat) : Int) != 0) = false := by simp [hg0]
    have hbad : (!badB al ⟨g, c⟩) = false := by simp [badB, hg0]
    have HBAD := Lib.hid hbad
    clear hg0 hbad
    go_enter Try.func119, Try.ntmps119
    go_wp2_with fail
    go_quiet (fail)
    go_wp2_with fail
    go_ret
    exact ⟨by rw [HBAD.out]; rfl, below_drewN ((Below.refl _ _).alloc (Nat.le_refl _) _) _⟩
  · have hb : (((g : Nat) : Int) != 0) = true := by simp [hg0]
    by_cases hin : andNot g al = 0
    · have hi : (((andNot g al : Nat) : Int) == 0) = true := by simp [hin]
      by_cases hc : 1 ≤ c
      · have hcd : decide (1 ≤ c) = true := by simp [hc]
        have hbad : (!badB al ⟨g, c⟩) = decide (c ≤ 1099511627776) := by simp [badB, hin]; rw [Bool.eq_iff_iff]; simp; omega
        have HBAD := Lib.hid hbad
        clear hg0 hin hbad
        go_enter Try.func119, Try.ntmps119
        go_wp2_with fail
        go_region_held3 (fun w' => w'.cell? ⟨w.heap.size, 0, none⟩ = some (.int .u32 g) ∧ w'.cell? ⟨w.heap.size, 1, none⟩ = some (.int .i64 c)) (go_keep)
          ((go_at_call 117; refine (refAll_any n h0 h1 _).mono ?_; rintro e w1 ⟨rfl, rfl⟩; rw [← HAL.out]))
        go_wp2_with fail
        go_ret
        exact ⟨by rw [HBAD.out]; simp, ((Below.refl _ _).alloc (Nat.le_refl _) _).drew⟩
      · have hcd : decide (1 ≤ c) = false := by simp; omega
        have hbad : (!badB al ⟨g, c⟩) = false := by simp [badB]; omega
        have HBAD := Lib.hid hbad
        clear hg0 hin hc hbad
        go_enter Try.func119, Try.ntmps119
        go_wp2_with fail
        go_quiet ((go_at_call 117; exact quiet_left (v := .int .u32 (al : Int)) ((refAll_any n h0 h1 _).mono (fun e w1 hh => by rw [HAL.out]; exact hh))))
        go_wp2_with fail
        go_ret
        exact ⟨by rw [HBAD.out]; rfl, below_drewN ((Below.refl _ _).alloc (Nat.le_refl _) _) _⟩
    · have hi : (((andNot g al : Nat) : Int) == 0) = false := by simp [hin]
      have hbad : (!badB al ⟨g, c⟩) = false := by simp [badB, hg0, hin]
      have HBAD := Lib.hid hbad
      clear hg0 hin hbad
      go_enter Try.func119, Try.ntmps119
      go_wp2_with fail
      go_quiet ((go_at_call 117; exact quiet_left (v := .int .u32 (al : Int)) ((refAll_any n h0 h1 _).mono (fun e w1 hh => by rw [HAL.out]; exact hh))))
      go_wp2_with fail
      go_ret
      exact ⟨by rw [HBAD.out]; rfl, below_drewN ((Below.refl _ _).alloc (Nat.le_refl _) _) _⟩
end Go.Proofs.Ytcigobiolbojhaa.Vb

/- The reference of layer 8: Check, Instance. -/
namespace Go.Proofs.Ytcigobiolbojhaa.Vb
open Go.RowKit

set_option maxHeartbeats 800000 in
theorem refCheck_any (n : Int) (l : List Off) (v : Value) (R : Nat → Prop) (w : World) (hl : Offs w R v l) :
    Calls Try.prog 86 #[.int .i64 n, v] w fun e w' => e = .returned (.tuple #[.int .i64 (checkI n l), .int .i64 (checkE n l)]) ∧ Below w.heap.size w w' := by
  obtain ⟨⟨hlen, A, cap, rfl, hncap, hcap, hcells⟩, hwf⟩ := hl
  unfold maxLen at hcap
  have HL := Lib.hid hlen
  have HC := Lib.hid hcells
  clear hlen hcells
  by_cases hn : n < 1 ∨ 10 < n
  · have hI : checkI n l = 0 := by unfold checkI; rw [if_pos hn]
    have hE : checkE n l = 2 := by unfold checkE; rw [if_pos hn]
    have HI := Lib.hid hI
    have HE := Lib.hid hE
    clear hI hE hwf
    rcases hn with hn | hn
    all_goals
      go_enter Try.func86, Try.ntmps86
      go_wp2
      all_goals go_ret2
      all_goals rw [HI.out, HE.out]
      all_goals exact ⟨rfl, Below.refl _ _⟩
  · by_cases h8 : 8 < l.length
    · have hI : checkI n l = 0 := by unfold checkI; rw [if_neg hn, if_pos h8]
      have hE : checkE n l = 3 := by unfold checkE; rw [if_neg hn, if_pos h8]
      have HI := Lib.hid hI
      have HE := Lib.hid hE
      have hn0 : 1 ≤ n := by omega
      have hn1 : n ≤ 10 := by omega
      clear hI hE hn hwf
      go_enter Try.func86, Try.ntmps86
      go_wp2
      go_ret2
      rw [HI.out, HE.out]
      exact ⟨rfl, Below.refl _ _⟩
    · have hI : checkI n l = match badAt (2 ^ n.toNat - 1) l with | some k => (k : Int) | none => 0 := by unfold checkI; rw [if_neg hn, if_neg h8]; rfl
      have hE : checkE n l = match badAt (2 ^ n.toNat - 1) l with | some _ => 180 | none => 0 := by unfold checkE; rw [if_neg hn, if_neg h8]; rfl
      obtain ⟨m, rfl⟩ : ∃ m : Nat, n = m := ⟨n.toNat, by omega⟩
      have hm0 : 1 ≤ m := by omega
      have hm1 : m ≤ 10 := by omega
      simp only [Int.toNat_natCast] at hI hE
      have HI := Lib.hid hI
      have HE := Lib.hid hE
      have HW := Lib.hid hwf
      clear hI hE hn hwf
      go_enter Try.func86, Try.ntmps86
      go_wp2
      go_loopw [6] (fun i wr => ∃ k : Nat, k ≤ l.length ∧ i = .int .i64 k ∧ Below w.heap.size w wr ∧ ∀ j x, j < k → l[j]? = some x → badB (2 ^ m - 1) x = false) (fun i _ => l.length - (intOf i).toNat)
      case atStart => exact ⟨0, Nat.zero_le _, rfl, Below.refl _ _, fun j x hj => by omega⟩
      case round =>
        obtain ⟨k, hk, rfl, hb, hno⟩ := hrel
        have HN := Lib.hid hno
        clear hno
        by_cases hlt : k < l.length
        · obtain ⟨bb, off, rfl, _, hbb, hcs⟩ := HC.out (by omega)
          obtain ⟨o, ho⟩ : ∃ o, l[k]? = some o := ⟨_, List.getElem?_eq_getElem hlt⟩
          have c0 : wr.cell? ⟨bb, off + k * 2, none⟩ = some (.int .u32 o.g) := (hb.cell hbb).trans (hcs _ _ (Off.all_fst l k o ho))
          have c1 : wr.cell? ⟨bb, off + k * 2 + 1, none⟩ = some (.int .i64 o.c) := (hb.cell hbb).trans (hcs _ _ (Off.all_snd l k o ho))
          have hwo := HW.out o (List.mem_of_getElem? ho)
          clear hcs
          have HO := Lib.hid ho
          have HWO := Lib.hid hwo
          clear ho hwo
          by_cases hbad : badB (2 ^ m - 1) o = true
          · have hnb : (!badB (2 ^ m - 1) o) = false := by rw [hbad]; rfl
            have HB := Lib.hid hbad
            have HNB := Lib.hid hnb
            clear hbad hnb
            go_wp2_with (go_at_call 119; refine (refMay_any m hm0 hm1 o HWO.out _).mono ?_; rintro e w1 ⟨rfl, hb1⟩; rw [HNB.out])
            go_ret2
            rw [HI.out, HE.out, badAt_some _ l k o HO.out HB.out HN.out]
            exact ⟨rfl, hb.trans (hb1.mono hb.size)⟩
          · have hbad : badB (2 ^ m - 1) o = false := by simpa using hbad
            have hnb : (!badB (2 ^ m - 1) o) = true := by rw [hbad]; rfl
            have HB := Lib.hid hbad
            have HNB := Lib.hid hnb
            clear hbad hnb
            go_wp2_with (go_at_call 119; refine (refMay_any m hm0 hm1 o HWO.out _).mono ?_; rintro e w1 ⟨rfl, hb1⟩; rw [HNB.out])
            go_roundw
            case rel =>
              refine ⟨k + 1, by omega, by go_num, hb.trans (hb1.mono hb.size), fun j x hj hx => ?_⟩
              by_cases hjk : j < k
              · exact HN.out j x hjk hx
              · obtain rfl : j = k := by omega
                rw [HO.out] at hx
                cases hx
                exact HB.out
            case measure => simp [intOf]; omega
        · go_wp2
          go_ret2
          rw [HI.out, HE.out, badAt_none _ l (fun o ho => ?_)]
          · exact ⟨rfl, hb⟩
          · obtain ⟨j, hj, rfl⟩ := List.getElem_of_mem ho
            exact HN.out j _ (by omega) (List.getElem?_eq_getElem hj)

theorem longAny_of : ∀ (bs : List (List Off)) (k : Nat) (l : List Off), bs[k]? = some l → longB l = true → bs.any longB = true :=
  fun _ _ l h hl => List.any_eq_true.2 ⟨l, List.mem_of_getElem? h, hl⟩

set_option maxHeartbeats 1600000 in
theorem refInstance_any (n : Int) (bs : List (List Off)) (v : Value) (R : Nat → Prop) (w : World) (hl : Buys w R v bs) :
    Calls Try.prog 30 #[.agg #[.int .i64 n, v]] w fun e w' => e = .returned (.int .i64 (instE n bs)) ∧ Below w.heap.size w w' := by
  obtain ⟨vs, ⟨hlen, A, cap, rfl, hncap, hcap, hcells⟩, hvs⟩ := id hl
  unfold maxLen at hcap
  have hnl : bs.length ≤ 9223372036854775807 := by omega
  have HC := Lib.hid hcells
  have HV := Lib.hid hvs
  clear hl hcells hvs hlen
  by_cases hn : n < 1 ∨ 10 < n
  · have hE : instE n bs = 2 := by unfold instE; rw [if_pos hn]
    have HE := Lib.hid hE
    clear hE
    rcases hn with hn | hn
    all_goals
      go_enter Try.func30, Try.ntmps30
      go_wp2
      all_goals go_ret
      all_goals rw [HE.out]
      all_goals exact ⟨rfl, (Below.refl _ _).alloc (Nat.le_refl _) _⟩
  · have hn0 : 1 ≤ n := by omega
    have hn1 : n ≤ 10 := by omega
    by_cases h32 : 32 < bs.length
    · have hE : instE n bs = 3 := by unfold instE; rw [if_neg hn, if_pos (Or.inl h32)]
      have HE := Lib.hid hE
      clear hE hn
      go_enter Try.func30, Try.ntmps30
      go_wp2
      all_goals go_ret
      all_goals rw [HE.out]
      all_goals exact ⟨rfl, (Below.refl _ _).alloc (Nat.le_refl _) _⟩
    · have hE : ∀ k l, bs[k]? = some l → longB l = true → instE n bs = 3 := fun k l h1 h2 => by unfold instE; rw [if_neg hn, if_pos (Or.inr (longAny_of bs k l h1 h2))]
      have hE2 : (∀ j x, j < bs.length → bs[j]? = some x → longB x = false) → instE n bs = instLoop n bs := fun h => by
        unfold instE
        rw [if_neg hn, if_neg]
        rintro (hh | hh)
        · exact h32 hh
        · obtain ⟨x, hx, hxx⟩ := List.any_eq_true.1 hh
          obtain ⟨j, hj, rfl⟩ := List.getElem_of_mem hx
          rw [h j _ hj (List.getElem?_eq_getElem hj)] at hxx
          cases hxx
      have HE := Lib.hid hE
      have HE2 := Lib.hid hE2
      clear hE hE2 hn
      go_enter Try.func30, Try.ntmps30
      go_wp2
      have ca : ∀ W : World, (W.alloc (.cells #[.int .i64 n, .slice A bs.length cap] 24)).cell? ⟨W.heap.size, 1, none⟩ = some (.slice A bs.length cap) := fun W => by simp
      go_loop [3] (fun i => ∃ k : Nat, k ≤ bs.length ∧ i = .int .i64 k ∧ ∀ j x, j < k → bs[j]? = some x → longB x = false) (fun i => bs.length - (intOf i).toNat)
      case atStart => exact ⟨0, Nat.zero_le _, rfl, fun j x hj => by omega⟩
      case round =>
        obtain ⟨k, hk, rfl, hno⟩ := hrel
        have HN := Lib.hid hno
        clear hno
        by_cases hlt : k < bs.length
        · obtain ⟨bb, off, rfl, _, hbb, hcs⟩ := HC.out (by omega)
          obtain ⟨l, ho⟩ : ∃ l, bs[k]? = some l := ⟨_, List.getElem?_eq_getElem hlt⟩
          obtain ⟨u, hu, hol⟩ := HV.out k l ho
          have c0 := cellAlloc (hcs _ _ hu)
          obtain ⟨⟨_, A', cap', rfl, _⟩, _⟩ := hol
          clear hcs hu
          have HO := Lib.hid ho
          clear ho
          by_cases h8 : 8 < l.length
          · have h8' := Lib.hid h8
            go_wp2
            go_ret
            rw [HE.out k l HO.out (by unfold longB; simpa using h8'.out)]
            exact ⟨rfl, (Below.refl _ _).alloc (Nat.le_refl _) _⟩
          · have h8' := Lib.hid h8
            go_wp2
            go_round
            case rel =>
              refine ⟨k + 1, by omega, by go_num, fun j x hj hx => ?_⟩
              by_cases hjk : j < k
              · exact HN.out j x hjk hx
              · obtain rfl : j = k := by omega
                rw [HO.out] at hx
                cases hx
                unfold longB
                simp
                omega
            case measure => simp [intOf]; omega
        · have HE3 := HE2.out (fun j x hj => HN.out j x (by omega))
          have HE4 := Lib.hid HE3
          clear HE3 HE2 HE HN
          go_wp2
          go_loopw [4] (fun i wr => ∃ k : Nat, k ≤ bs.length ∧ i = .int .i64 k ∧ Below (w.heap.size + 1) (w.alloc (.cells #[.int .i64 n, .slice A bs.length cap] 24)) wr ∧ ∀ j x, j < k → bs[j]? = some x → checkE n x = 0) (fun i _ => bs.length - (intOf i).toNat)
          case atStart => exact ⟨0, Nat.zero_le _, rfl, Below.refl _ _, fun j x hj => by omega⟩
          case round =>
            obtain ⟨k2, hk2, rfl, hb, hno⟩ := hrel
            have HN := Lib.hid hno
            clear hno
            have hb' : Below w.heap.size w wr := ((Below.refl _ _).alloc (Nat.le_refl _) _).trans (hb.mono (by omega))
            have cb0 : wr.cell? ⟨w.heap.size, 0, none⟩ = some (.int .i64 n) := (hb.cell (p := ⟨w.heap.size, 0, none⟩) (by simp)).trans (by simp)
            have cb1 : wr.cell? ⟨w.heap.size, 1, none⟩ = some (.slice A bs.length cap) := (hb.cell (p := ⟨w.heap.size, 1, none⟩) (by simp)).trans (by simp)
            by_cases hlt : k2 < bs.length
            · obtain ⟨bb, off, rfl, _, hbb, hcs⟩ := HC.out (by omega)
              obtain ⟨l, ho⟩ : ∃ l, bs[k2]? = some l := ⟨_, List.getElem?_eq_getElem hlt⟩
              obtain ⟨u, hu, hol⟩ := HV.out k2 l ho
              have c0 : wr.cell? ⟨bb, off + k2, none⟩ = some u := by have h := (hb'.cell hbb).trans (hcs _ _ hu); simpa using h
              have hbbr : bb < wr.heap.size := Nat.lt_of_lt_of_le hbb hb'.size
              have hwr : w.heap.size < wr.heap.size := by have := hb.size; simp at this; omega
              have HOL := Lib.hid (show Offs wr.drew R u l from (show Offs wr R u l from hol.grow hb'))
              obtain ⟨⟨_, A', cap', rfl, _⟩, _⟩ := hol
              clear hcs hu
              have HO := Lib.hid ho
              have HBB := Lib.hid hb
              have HBB' := Lib.hid hb'
              clear ho hb hb'
              by_cases hce : checkE n l = 0
              · have HCE := Lib.hid hce
                clear hce
                go_wp2_with fail
                go_region_held3 (fun w' => w'.cell? ⟨w.heap.size, 0, none⟩ = some (.int .i64 n) ∧ w'.cell? ⟨w.heap.size, 1, none⟩ = some (.slice (some ⟨bb, off, none⟩) bs.length cap) ∧ w'.cell? ⟨bb, off + k2, none⟩ = some (.slice A' l.length cap')) (go_keep)
                  ((go_at_call 86; refine (refCheck_any n l _ R _ HOL.out).mono ?_; rintro e w1 ⟨rfl, hb1⟩; have e0 := (hb1.cell (p := ⟨w.heap.size, 0, none⟩) (by simp; omega)).trans cb0; have e1 := (hb1.cell (p := ⟨w.heap.size, 1, none⟩) (by simp; omega)).trans cb1; have e2 := (hb1.cell (p := ⟨bb, off + k2, none⟩) (by simp; omega)).trans c0; have HB1 := Lib.hid hb1; clear hb1; rw [HCE.out]))
                go_wp2_with fail
                go_roundw
                case rel =>
                  refine ⟨k2 + 1, by omega, by go_num, (HBB.out.drew).trans (HB1.out.mono (by have := HBB.out.size; simp at this; simp; omega)), fun j x hj hx => ?_⟩
                  by_cases hjk : j < k2
                  · exact HN.out j x hjk hx
                  · obtain rfl : j = k2 := by omega
                    rw [HO.out] at hx
                    cases hx
                    exact HCE.out
                case measure => simp [intOf]; omega
              · have hcb : (checkE n l != 0) = true := by simpa using hce
                have HCE := Lib.hid hce
                clear hce
                go_wp2_with fail
                go_region_held3 (fun w' => w'.cell? ⟨w.heap.size, 0, none⟩ = some (.int .i64 n) ∧ w'.cell? ⟨w.heap.size, 1, none⟩ = some (.slice (some ⟨bb, off, none⟩) bs.length cap) ∧ w'.cell? ⟨bb, off + k2, none⟩ = some (.slice A' l.length cap')) (go_keep)
                  ((go_at_call 86; refine (refCheck_any n l _ R _ HOL.out).mono ?_; rintro e w1 ⟨rfl, hb1⟩; have e0 := (hb1.cell (p := ⟨w.heap.size, 0, none⟩) (by simp; omega)).trans cb0; have e1 := (hb1.cell (p := ⟨w.heap.size, 1, none⟩) (by simp; omega)).trans cb1; have e2 := (hb1.cell (p := ⟨bb, off + k2, none⟩) (by simp; omega)).trans c0; have HB1 := Lib.hid hb1; clear hb1))
                go_wp2_with fail
                go_ret
                refine ⟨ret_int ?_, (HBB'.out.drew).trans (HB1.out.mono (by have := HBB'.out.size; simpa using this))⟩
                rw [HE4.out, instLoop_some n bs k2 l HO.out HCE.out HN.out]
            · have HBB' := Lib.hid hb'
              clear hb hb'
              go_wp2
              go_ret
              refine ⟨ret_int ?_, HBB'.out⟩
              rw [HE4.out, instLoop_none n bs (fun o ho => ?_)]
              obtain ⟨j, hj, rfl⟩ := List.getElem_of_mem ho
              exact HN.out j _ (by omega) (List.getElem?_eq_getElem hj)
end Go.Proofs.Ytcigobiolbojhaa.Vb

/- The reference of layer 8: SameOffers, SameInstance, With. -/
namespace Go.Proofs.Ytcigobiolbojhaa.Vb
open Go.RowKit

theorem Buys.any {w : World} {R : Nat → Prop} {v : Value} {bs : List (List Off)} (h : Buys w R v bs) : Buys w (fun _ => True) v bs := by
  obtain ⟨vs, hs, ho⟩ := h
  exact ⟨vs, hs.mono fun _ _ _ => trivial, fun k l hk => let ⟨u, hu, hl⟩ := ho k l hk; ⟨u, hu, hl.mono fun _ _ _ => trivial⟩⟩
theorem Offs.any {w : World} {R : Nat → Prop} {v : Value} {l : List Off} (h : Offs w R v l) : Offs w (fun _ => True) v l := h.mono fun _ _ _ => trivial

end Go.Proofs.Ytcigobiolbojhaa.Vb

/- The reference of layer 8: With where it may be. -/
namespace Go.Proofs.Ytcigobiolbojhaa.Vb
open Go.RowKit

theorem Sl.one_of {w : World} {R : Nat → Prop} {bs : List (List Off)} {vs : List Value} (hl : vs.length = bs.length) (ho : ∀ (k : Nat) (l : List Off), bs[k]? = some l → ∃ u, vs[k]? = some u ∧ Offs w R u l) : ∀ u ∈ vs, u.oneCell' = true := by
  intro u hu
  obtain ⟨j, hj, rfl⟩ := List.getElem_of_mem hu
  obtain ⟨u', h1, h2⟩ := ho j bs[j] (List.getElem?_eq_getElem (by omega))
  rw [List.getElem?_eq_getElem hj] at h1
  injection h1 with h1
  obtain ⟨⟨_, A, cap, h3, _⟩, _⟩ := h2
  rw [h1, h3]
  rfl

end Go.Proofs.Ytcigobiolbojhaa.Vb

/- The reference of layer 17: the table. -/
namespace Go.Proofs.Ytcigobiolbojhaa.Vb
open Go.RowKit

/-- the table's rows from lo on are right: what any buyers from k on have of any goods -/
def TabAt (w : World) (gT hi S N lo : Nat) (F : Nat → Value) (bs : List (List Off)) : Prop :=
  w.rowIs gT 34 (N + 1) F ∧ ∀ k, lo ≤ k → k ≤ N → ∃ g, gT < g ∧ g < hi ∧ F k = .slice (some ⟨g, 0, none⟩) S S ∧ w.rowIs g 2 S (fun f => .int .i64 (W (bs.drop k) f))

theorem TabAt.below {w w' : World} {gT hi S N lo : Nat} {F : Nat → Value} {bs : List (List Off)} (h : TabAt w gT hi S N lo F bs) (hb : Below hi w w') (h0 : gT < hi) : TabAt w' gT hi S N lo F bs :=
  ⟨h.1.of_block (hb.block gT h0), fun k h1 h2 => let ⟨g, a, b, c, d⟩ := h.2 k h1 h2; ⟨g, a, b, c, d.of_block (hb.block g b)⟩⟩
theorem TabAt.mono {w : World} {gT hi hi' S N lo lo' : Nat} {F : Nat → Value} {bs : List (List Off)} (h : TabAt w gT hi S N lo F bs) (h1 : hi ≤ hi') (h2 : lo ≤ lo') : TabAt w gT hi' S N lo' F bs :=
  ⟨h.1, fun k h3 h4 => let ⟨g, a, b, c, d⟩ := h.2 k (Nat.le_trans h2 h3) h4; ⟨g, a, by omega, c, d⟩⟩
theorem TabAt.grow {w w' : World} {gT hi S N lo : Nat} {F : Nat → Value} {bs : List (List Off)} (h : TabAt w gT hi S N lo F bs) (hb : Below w.heap.size w w') : TabAt w' gT hi S N lo F bs :=
  ⟨h.1.of_block (hb.block gT h.1.lt), fun k h1 h2 => let ⟨g, a, b, c, d⟩ := h.2 k h1 h2; ⟨g, a, b, c, d.of_block (hb.block g d.lt)⟩⟩
/-- a cell of the table -/
theorem TabAt.at {w : World} {gT hi S N lo : Nat} {F : Nat → Value} {bs : List (List Off)} (h : TabAt w gT hi S N lo F bs) {k : Nat} (h1 : lo ≤ k) (h2 : k ≤ N) :
    ∃ g, g < hi ∧ w.cell? ⟨gT, k, none⟩ = some (.slice (some ⟨g, 0, none⟩) S S) ∧ ∀ f, f < S → w.cell? ⟨g, f, none⟩ = some (.int .i64 (W (bs.drop k) f)) := by
  obtain ⟨g, _, hg, hF, hr⟩ := h.2 k h1 h2
  exact ⟨g, hg, by rw [h.1.cell (by omega), hF], fun f hf => hr.cell hf⟩

/-- a row in the making -/
def rowP (bs : List (List Off)) (k f : Nat) (x : Nat) : Value := .int .i64 (if x < f then W (bs.drop k) x else 0)

end Go.Proofs.Ytcigobiolbojhaa.Vb

/- The reference of layer 17: W, Without, Won. -/
namespace Go.Proofs.Ytcigobiolbojhaa.Vb
open Go.RowKit

theorem Buys.wf {w : World} {R : Nat → Prop} {v : Value} {bs : List (List Off)} (h : Buys w R v bs) : ∀ l ∈ bs, ∀ o ∈ l, o.wf := by
  obtain ⟨vs, _, hvs⟩ := h
  intro l hl o ho
  obtain ⟨k, hk, rfl⟩ := List.getElem_of_mem hl
  obtain ⟨_, _, h⟩ := hvs k _ (List.getElem?_eq_getElem hk)
  exact h.2 o ho

theorem allOf_nat {m : Nat} (h : m ≤ 10) : allOf (m : Int) = 2 ^ m - 1 := by unfold allOf; rw [if_neg (by omega), Int.toNat_natCast]

theorem coinAt_neg {bs : List (List Off)} {i : Nat} {c : Int} (h : c < 0) : coinAt bs i c = 0 := by unfold coinAt; rw [if_pos h]
theorem coinAt_some {bs : List (List Off)} {i j : Nat} {l : List Off} {o : Off} (h1 : bs[i]? = some l) (h2 : l[j]? = some o) : coinAt bs i (j : Int) = o.c := by
  unfold coinAt
  rw [if_neg (by omega), h1]
  simp [h2]

end Go.Proofs.Ytcigobiolbojhaa.Vb

/- The reference of layer 17: Best. -/
namespace Go.Proofs.Ytcigobiolbojhaa.Vb
open Go.RowKit

end Go.Proofs.Ytcigobiolbojhaa.Vb

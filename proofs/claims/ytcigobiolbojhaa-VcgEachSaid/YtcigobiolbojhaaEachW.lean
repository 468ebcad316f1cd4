/- Law 17: VcgEach, walked. -/
import Derived.Test.YtcigobiolbojhaaGoes
import Derived.Test.YtcigobiolbojhaaCostsW
namespace Go.Proofs.Ytcigobiolbojhaa.Vb
open Go.RowKit

/-- lists in memory of their own, whatever they hold -/
def GivW (w : World) (lo N : Nat) (v : Value) (bs : List (List Off)) : Prop :=
  ∃ vs, w.ownsRow lo 41 1 v bs.length vs ∧ ∀ (k : Nat) (l : List Off), bs[k]? = some l → ∃ b cap xs, vs[k]? = some (.slice (some ⟨b, 0, none⟩) l.length cap) ∧ lo ≤ b ∧ b < N ∧
    w.ownsRow lo 45 2 (.slice (some ⟨b, 0, none⟩) (l.length + 1) cap) (l.length + 1) xs
theorem Giv.givW {w w' : World} {lo N : Nat} {v : Value} {bs : List (List Off)} (h : Giv w lo v bs) (hN : w.heap.size ≤ N) (hb : Below w.heap.size w w') : GivW w' lo N v bs := by
  obtain ⟨vs, hs, ho⟩ := h
  refine ⟨vs, own_grow hs hb, fun k l hk => ?_⟩
  obtain ⟨b, c, h1, h2, _⟩ := ho k l hk
  have := h2.lt b rfl
  exact ⟨b, c, _, h1, this.1, by omega, own_grow h2 hb⟩
theorem own_set_any {w : World} {base : Nat} {e : TypeId} {sz n cap g : Nat} {xs : List Value} (h : w.ownsRow base e sz (.slice (some ⟨g, 0, none⟩) n cap) n xs) (b j : Nat) (u : Value) : ∃ xs', (w.setCell ⟨b, j, none⟩ u).ownsRow base e sz (.slice (some ⟨g, 0, none⟩) n cap) n xs' := by
  by_cases hb : b = g
  · subst hb; exact ⟨_, (h.stored j u).1⟩
  · exact ⟨xs, own_far h (grownBy_setCell w ⟨b, j, none⟩ u) (fun x e => by simp at e; simp [Value.ownBlock]; omega)⟩
theorem GivW.set {w : World} {lo N : Nat} {v : Value} {bs : List (List Off)} (h : GivW w lo N v bs) {b j n cap : Nat} {xs : List Value} (hb : w.ownsRow lo 45 2 (.slice (some ⟨b, 0, none⟩) n cap) n xs) (u : Value) : GivW (w.setCell ⟨b, j, none⟩ u) lo N v bs := by
  obtain ⟨vs, hs, ho⟩ := h
  refine ⟨vs, own_far hs (grownBy_setCell w ⟨b, j, none⟩ u) (fun g e => ?_), fun k l hk => ?_⟩
  · simp at e
    subst e
    exact own_ne hb hs (by decide) rfl
  · obtain ⟨b', c, ys, h1, h2, h3, h4⟩ := ho k l hk
    obtain ⟨ys', h5⟩ := own_set_any h4 b j u
    exact ⟨b', c, ys', h1, h2, h3, h5⟩

/-- what vcg.Each tells: the iterator, or none -/
def EachPost (n : Int) (bs : List (List Off)) (w : World) (e : Ending) (w' : World) : Prop :=
  (instE n bs = 0 ∧ ∃ pb pp, e = .returned (.tuple #[.func (.func 79) #[] #[.pointer (some ⟨pb, 0, none⟩), .pointer (some ⟨pp, 0, none⟩)], .int .i64 (instE n bs)]) ∧ EachAt w' w.heap.size pb pp n bs ∧ w.heap.size ≤ pb ∧ w.heap.size ≤ pp ∧ Below w.heap.size w w') ∨
  (instE n bs ≠ 0 ∧ e = .returned (.tuple #[.nilFunc, .int .i64 (instE n bs)]) ∧ Below w.heap.size w w')
theorem each_all (n : Int) (bs : List (List Off)) (v : Value) (R : Nat → Prop) (w : World) (hl : Buys w R v bs) (hs : Small bs) :
    Calls Try.prog 16 #[.agg #[.int .i64 n, v]] w (EachPost n bs w) := by
  by_cases hi : instE n bs = 0
  · refine (each_ok n bs v R w hl hi).mono fun e w' ⟨pb, pp, h1, h2⟩ => .inl ⟨hi, pb, pp, ?_, h2⟩
    rw [hi]; exact h1
  · exact (each_err n bs v R w hl hs hi).mono fun e w' h => .inr ⟨hi, h⟩
theorem eql_nil_nil (W : World) : (binOp .eql 29 .nilFunc .nilFunc).run Try.prog W = .ok (.bool true) W := by kernel_rfl

/-- what the storing over the copy keeps -/
structure EachRel (u3 w9 : World) (lo by_ : Nat) (n : Int) (vy : Value) (bs : List (List Off)) (wr : World) : Prop where
  mid : Mid lo u3.heap.size w9 wr
  giv : GivW wr lo u3.heap.size vy bs
  blk : Blk wr by_ 24 #[.int .i64 n, vy]

set_option maxRecDepth 100000 in
set_option maxHeartbeats 4000000 in
theorem each_walk (n : Int) (bs : List (List Off)) (v : Value) (R : Nat → Prop) (leave : Int) (w : World) (hl : Buys w R v bs) :
    Calls Try.prog 3 #[.agg #[.int .i64 n, v], .int .i64 leave] w fun e w' => e = .returned (.bool true) ∧ Below w.heap.size w w' := by
  obtain ⟨_, ⟨_, A, cap, rfl, _⟩, _⟩ := id hl
  have HB := Lib.hid hl
  clear hl
  cases hg : greatB bs with
  | true =>
    have HG := Lib.hid hg
    clear hg
    go_enter Try.func3, Try.ntmps3
    go_wp2_with fail
    refine (great_any n bs _ R _ (HB.out.alloc _)).mono ?_
    rintro e w1 ⟨rfl, hb1⟩
    rw [HG.out]
    have HB1 := Lib.hid (((Below.refl _ _).alloc (Nat.le_refl _) _).trans (hb1.mono (B' := w.heap.size) (by simp)))
    clear hb1
    go_wp2_with fail
    refine (works_any _).mono ?_
    rintro e w2 ⟨rfl, hb2⟩
    have HB2 := Lib.hid (HB1.out.trans (hb2.mono HB1.out.size))
    clear hb2
    go_wp2_with fail
    go_ret
    exact ⟨rfl, HB2.out⟩
  | false =>
    obtain ⟨hs1, hs2⟩ := greatB_small hg
    have HSM := Lib.hid (show Small bs from ⟨by omega, fun l hl => by have := hs2 l hl; omega⟩)
    have HS2 := Lib.hid hs2
    have HG := Lib.hid hg
    obtain ⟨hi0, hi1⟩ := instE_bd n bs
    obtain ⟨ie, hie⟩ : ∃ ie, ie = instE n bs := ⟨_, rfl⟩
    rw [← hie] at hi0 hi1
    have HIE := Lib.hid hie
    clear hg hie hs2
    go_enter Try.func3, Try.ntmps3
    go_wp2_with fail
    refine (great_any n bs _ R _ (HB.out.alloc _)).mono ?_
    rintro e w1 ⟨rfl, hb1⟩
    rw [HG.out]
    have hX := (Blk.new w 24 #[.int .i64 n, .slice A bs.length cap]).grow hb1
    have x0 : w1.cell? ⟨w.heap.size, 0, none⟩ = some (.int .i64 n) := hX.cell 0
    have x1 : w1.cell? ⟨w.heap.size, 1, none⟩ = some (.slice A bs.length cap) := hX.cell 1
    have HX := Lib.hid hX
    have HB1 := Lib.hid (((Below.refl _ _).alloc (Nat.le_refl _) _).trans (hb1.mono (B' := w.heap.size) (by simp)))
    clear hb1 hX
    go_wp2_with fail
    refine (given_any n bs _ R w1 (HB.out.grow HB1.out) HSM.out).mono ?_
    rintro e w2 ⟨A2, k2, rfl, hgv, hb2⟩
    have hs12 := hb2.size
    have HX2 := Lib.hid (HX.out.grow hb2)
    have HV2 := Lib.hid hgv
    have HB2 := Lib.hid (HB1.out.trans (hb2.mono HB1.out.size))
    clear hb2 hgv x0 x1
    go_wp2_with fail
    obtain ⟨u3, hu3⟩ : ∃ u, u = w2.alloc (.cells #[.int .i64 n, .slice A2 bs.length k2] 24) := ⟨_, rfl⟩
    have hX := HX2.out.alloc (.cells #[.int .i64 n, .slice A2 bs.length k2] 24)
    have hY := Blk.new w2 24 #[.int .i64 n, .slice A2 bs.length k2]
    have hV := HV2.out.grow ((Below.refl _ _).alloc (Nat.le_refl _) (.cells #[.int .i64 n, .slice A2 bs.length k2] 24))
    have hB := HB2.out.alloc HB2.out.size (.cells #[.int .i64 n, .slice A2 bs.length k2] 24)
    have hs3 : u3.heap.size = w2.heap.size + 1 := by rw [hu3]; simp
    rw [← hu3] at hX hY hV hB ⊢
    have HX3 := Lib.hid hX
    have HY3 := Lib.hid hY
    have HV3 := Lib.hid hV
    have HB3 := Lib.hid hB
    have hs23 : w2.heap.size < u3.heap.size := by omega
    have H23 := Lib.hid (show Below w2.heap.size w2 u3 from by rw [hu3]; exact (Below.refl _ _).alloc (Nat.le_refl _) _)
    clear hu3 hX hY hV hB hs3
    refine (each_all n bs _ (fun _ => True) _ HV3.out.buys HSM.out).mono ?_
    intro e w3 hpost
    -- the iterator's value, whatever it is
    obtain ⟨fv, rfl, hU3, hfv⟩ : ∃ fv, e = .returned (.tuple #[fv, .int .i64 ie]) ∧ Below u3.heap.size u3 w3 ∧
        ((ie = 0 ∧ ∃ pb pp, fv = .func (.func 79) #[] #[.pointer (some ⟨pb, 0, none⟩), .pointer (some ⟨pp, 0, none⟩)] ∧ EachAt w3 u3.heap.size pb pp n bs ∧ u3.heap.size ≤ pb ∧ u3.heap.size ≤ pp) ∨ (ie ≠ 0 ∧ fv = .nilFunc)) := by
      have h := HIE.out
      rcases hpost with ⟨h0, pb, pp, h1, h2, h3, h4, h5⟩ | ⟨h0, h1, h2⟩
      · exact ⟨_, by rw [h]; exact h1, h5, .inl ⟨by rw [h]; exact h0, pb, pp, rfl, h2, h3, h4⟩⟩
      · exact ⟨_, by rw [h]; exact h1, h2, .inr ⟨by rw [h]; exact h0, rfl⟩⟩
    have hX := HX3.out.grow hU3
    have hY := HY3.out.grow hU3
    have x0 : w3.cell? ⟨w.heap.size, 0, none⟩ = some (.int .i64 n) := hX.cell 0
    have x1 : w3.cell? ⟨w.heap.size, 1, none⟩ = some (.slice A bs.length cap) := hX.cell 1
    have HU3 := Lib.hid hU3
    have HFV := Lib.hid hfv
    clear hX hY hU3 hfv hpost
    go_wp2_with fail
    refine (refCosts_all n bs _ R _ (HB.out.grow (HB3.out.trans (HU3.out.mono HB3.out.size)))).mono ?_
    rintro e w5 ⟨CW, cw, PW, pw, rfl, hc5, hp5, hb5⟩
    rw [← HIE.out]
    obtain ⟨cl, hcl⟩ : ∃ cl, cl = choiceL n bs := ⟨_, rfl⟩
    obtain ⟨pl, hpl⟩ : ∃ pl, pl = paysL n bs := ⟨_, rfl⟩
    obtain ⟨W0, hW0⟩ : ∃ W0, W0 = worthL n bs := ⟨_, rfl⟩
    rw [← hcl] at hc5 hp5 ⊢
    rw [← hpl] at hp5
    rw [← hW0]
    have HCL := Lib.hid hcl
    have HPL := Lib.hid hpl
    clear hcl hpl hW0 x0 x1
    obtain ⟨u6, hu6⟩ : ∃ u, u = w5.alloc (.cells #[.slice CW cl.length cw, .int .i64 W0, .slice PW cl.length pw] 36) := ⟨_, rfl⟩
    have h56 : Below w5.heap.size w5 (w5.alloc (.cells #[.slice CW cl.length cw, .int .i64 W0, .slice PW cl.length pw] 36)) := (Below.refl _ _).alloc (Nat.le_refl _) _
    have hPw := Blk.new w5 36 #[.slice CW cl.length cw, .int .i64 W0, .slice PW cl.length pw]
    have h36 := hb5.alloc hb5.size (.cells #[.slice CW cl.length cw, .int .i64 W0, .slice PW cl.length pw] 36)
    rw [← hu6] at h56 hPw h36
    have HCW := Lib.hid (own_mono (own_grow hc5 h56) HU3.out.size)
    have HPW := Lib.hid (own_mono (own_grow hp5 h56) HU3.out.size)
    have HPB := Lib.hid hPw
    have H36 := Lib.hid h36
    have HU6 := Lib.hid (HU3.out.trans (h36.mono (B' := u3.heap.size) HU3.out.size))
    have hle35 : u3.heap.size ≤ w5.heap.size := Nat.le_trans HU3.out.size hb5.size
    clear hc5 hp5 h56 hPw h36 hb5
    go_wp2_with fail
    rw [← hu6]
    clear hu6
    have hX := HX3.out.grow HU6.out
    have hY := HY3.out.grow HU6.out
    have x0 : u6.cell? ⟨w.heap.size, 0, none⟩ = some (.int .i64 n) := hX.cell 0
    have x1 : u6.cell? ⟨w.heap.size, 1, none⟩ = some (.slice A bs.length cap) := hX.cell 1
    have y0 : u6.cell? ⟨w2.heap.size, 0, none⟩ = some (.int .i64 n) := hY.cell 0
    have y1 : u6.cell? ⟨w2.heap.size, 1, none⟩ = some (.slice A2 bs.length k2) := hY.cell 1
    clear hX hY
    go_wp2_with (first
      | (go_at_call 18; refine (num_any _ (by omega) (by omega) _).mono ?_; rintro e w9 ⟨rfl, rfl⟩)
      | (go_at_call 19; refine (stays_any n bs _ _ _ R _ (HV3.out.grow HU6.out) (HB.out.grow (HB3.out.trans (HU6.out.mono HB3.out.size))) HSM.out).mono ?_; rintro e w9 ⟨rfl, hb9⟩; have H9 := Lib.hid hb9; clear hb9 x0 x1 y0 y1))
    have hU9 := HU6.out.trans (H9.out.mono (B' := u3.heap.size) HU6.out.size)
    have hrel0 : EachRel u3 w9 w1.heap.size w2.heap.size n (.slice A2 bs.length k2) bs w9 := ⟨Mid.refl _ _ _, HV2.out.givW (by omega) (H23.out.trans (hU9.mono (by omega))), HY3.out.grow hU9⟩
    have HR0 := Lib.hid hrel0
    have HU9 := Lib.hid hU9
    clear hrel0 hU9
    go_loopw [10] (fun i wr => ∃ k : Nat, k ≤ bs.length ∧ i = .int .i64 k ∧ EachRel u3 w9 w1.heap.size w2.heap.size n (.slice A2 bs.length k2) bs wr) (fun i _ => bs.length - (intOf i).toNat)
    case atStart => exact ⟨0, Nat.zero_le _, rfl, HR0.out⟩
    case round =>
      obtain ⟨k, hk, rfl, hrel⟩ := hrel
      have y1 : wr.cell? ⟨w2.heap.size, 1, none⟩ = some (.slice A2 bs.length k2) := hrel.blk.cell 1
      have HREL := Lib.hid hrel
      clear hrel
      by_cases hlt : k < bs.length
      · obtain ⟨l, ho⟩ : ∃ l, bs[k]? = some l := ⟨_, List.getElem?_eq_getElem hlt⟩
        have hll := HS2.out l (List.mem_of_getElem? ho)
        have HO := Lib.hid ho
        have e1 : (0 : Int) ≤ (k : Int) := by omega
        have e2 : (k : Int) < (bs.length : Int) := by omega
        clear ho
        go_wp2_with fail
        clear y1
        go_loopw [11] (fun i wq => ∃ q : Nat, q ≤ l.length ∧ i = .int .i64 q ∧ EachRel u3 w9 w1.heap.size w2.heap.size n (.slice A2 bs.length k2) bs wq) (fun i _ => l.length - (intOf i).toNat)
        case atStart => exact ⟨0, Nat.zero_le _, rfl, HREL.out⟩
        case round =>
          obtain ⟨q, hq, rfl, hrel⟩ := hrel
          have y1 : wr.cell? ⟨w2.heap.size, 1, none⟩ = some (.slice A2 bs.length k2) := hrel.blk.cell 1
          obtain ⟨vs, hhd, hls⟩ := hrel.giv
          obtain ⟨gh, rfl, _, _, _, _, hgc⟩ := own_some hhd (by omega)
          obtain ⟨uh, huh, hch⟩ := hgc k hlt
          obtain ⟨b, c, xs, hvk, hb0, hb1, hbo⟩ := hls k l HO.out
          rw [hvk] at huh
          have huh' := Option.some.inj huh
          subst huh'
          have hxl : xs.length = (l.length + 1) * 2 := hbo.1
          obtain ⟨_, _, _, hbv, hbn, _, _⟩ := Sl.of_own hbo
          have HGV := Lib.hid hrel.giv
          have HMID := Lib.hid hrel.mid
          have HBLK := Lib.hid hrel.blk
          have HBO := Lib.hid hbo
          clear hgc hls hhd hrel huh hvk hbv hbn
          by_cases hlt2 : q < l.length
          · have c0 := hbo.cellAt (q * 2) (by omega)
            have c1 := hbo.cellAt (q * 2 + 1) (by omega)
            rw [List.getElem?_eq_getElem (by omega)] at c0 c1
            have f0 := hbo.frozenAt (q * 2)
            have f1 := hbo.frozenAt (q * 2 + 1)
            have e3 : (0 : Int) ≤ (q : Int) := by omega
            have e4 : (q : Int) < (l.length : Int) := by omega
            clear hbo
            go_wp2_with fail
            go_roundw
            case rel =>
              obtain ⟨xs', hx'⟩ := own_set_any HBO.out b (q * 2) (.int .u32 1)
              refine ⟨q + 1, by omega, by go_num, (HMID.out.set (p := ⟨b, q * 2, none⟩) hb0 hb1 _).set (p := ⟨b, q * 2 + 1, none⟩) hb0 hb1 _, (HGV.out.set HBO.out _).set hx' _, ?_⟩
              have hne : b ≠ w2.heap.size := fun e => own_ne_blk HBO.out HBLK.out (by decide) (by simp [Value.ownBlock, e])
              exact (HBLK.out.far (p := ⟨b, q * 2, none⟩) hne.symm _).far (p := ⟨b, q * 2 + 1, none⟩) hne.symm _
            case measure => simp [intOf]; omega
          · clear hbo
            go_wp2_with fail
            go_roundw
            case rel => exact ⟨k + 1, by omega, by go_num, HMID.out, HGV.out, HBLK.out⟩
            case measure => simp [intOf]; omega
      · clear y1
        have y1 : wr.cell? ⟨w2.heap.size, 1, none⟩ = some (.slice A2 bs.length k2) := HREL.out.blk.cell 1
        have hmid := HREL.out.mid
        have hPw := hmid.blk (HPB.out.grow H9.out) hle35
        have t0 : wr.cell? ⟨w5.heap.size, 0, none⟩ = some (.slice CW cl.length cw) := hPw.cell 0
        have t1 : wr.cell? ⟨w5.heap.size, 1, none⟩ = some (.int .i64 W0) := hPw.cell 1
        have t2 : wr.cell? ⟨w5.heap.size, 2, none⟩ = some (.slice PW cl.length pw) := hPw.cell 2
        have hall : Below w.heap.size w wr := (HB3.out.trans (HU9.out.mono HB3.out.size)).trans (hmid.1.mono HB1.out.size)
        have HALL := Lib.hid hall
        have HMID := Lib.hid hmid
        have HPr := Lib.hid hPw
        clear hmid hPw hall
        rcases HFV.out with ⟨h0, pb, pp, hfv, hat, hpb, hpp⟩ | ⟨h0, hfv⟩
        · subst hfv h0
          have hinst : instE n bs = 0 := HIE.out.symm
          have hcl' : cl = bestC n bs := by rw [HCL.out]; exact if_pos hinst
          have hpl' : pl = paysC n bs := by rw [HPL.out]; exact if_pos hinst
          subst hcl' hpl'
          obtain ⟨A1, c1, A4, c4, A3, c3, hb1, hb2, ho1, ho2⟩ := hat.at_
          have hlen := bestC_len n bs
          have hlenp := paysC_length n bs
          have h39 : Below w3.heap.size w3 w9 := H36.out.trans (H9.out.mono H36.out.size)
          have g1 := (HMID.out.blk (hb1.grow h39) hpb).cell 0
          have g3 := (HMID.out.blk (hb2.grow h39) hpp).cell 0
          have s1 := HMID.out.sl ((Sl.own_from ho1).grow h39) (fun i _ h => h)
          have s3 := HMID.out.sl ((Sl.own_from ho2).grow h39) (fun i _ h => h)
          have sc := HMID.out.sl ((Sl.own_from HCW.out).grow H9.out) (fun i _ h => h)
          have sp := HMID.out.sl ((Sl.own_from HPW.out).grow H9.out) (fun i _ h => h)
          rw [hlen] at sc sp t0 t2
          have hpb' : pb < wr.heap.size := by have := (hb1.grow h39).lt; have := HMID.out.1.size; omega
          have hpp' : pp < wr.heap.size := by have := (hb2.grow h39).lt; have := HMID.out.1.size; omega
          have hgo : ∀ (lv : Int) (W : World), Below wr.heap.size wr W → Calls Try.prog 20 #[.func (.func 79) #[] #[.pointer (some ⟨pb, 0, none⟩), .pointer (some ⟨pp, 0, none⟩)], .agg #[.slice CW bs.length cw, .int .i64 W0, .slice PW bs.length pw], .int .i64 lv] W fun e w' => e = .returned (.bool true) ∧ Below W.heap.size W w' := fun lv W hW =>
            goes_any pb pp bs.length c1 c3 cw pw A1 A3 CW PW W0 lv (bestC n bs) (paysC n bs) hs1 hlen hlenp W (by have := hW.size; omega) (by have := hW.size; omega)
              ((hW.cell (p := ⟨pb, 0, none⟩) hpb').trans g1) ((hW.cell (p := ⟨pp, 0, none⟩) hpp').trans g3) (s1.grow hW).any (s3.grow hW).any (sc.grow hW).any (sp.grow hW).any
          have HGO := Lib.hid hgo
          rw [hlen] at HPr
          clear hgo sc sp s1 s3 g1 g3 hlen hlenp hinst hat hb1 hb2 ho1 ho2 h39 hi0 hi1
          go_wp2_with (first
            | (go_at_call 20; have := HG10; refine (HGO.out _ _ HG10.out).mono ?_; rintro e w11 ⟨rfl, hb11⟩; have HG11 := Lib.hid (HG10.out.trans (hb11.mono HG10.out.size)); clear hb11)
            | (go_at_call 20; refine (HGO.out _ _ (Below.refl _ _)).mono ?_; rintro e w10 ⟨rfl, hb10⟩; have hPw := HPr.out.grow hb10; obtain ⟨t0, t1, t2⟩ : w10.cell? ⟨w5.heap.size, 0, none⟩ = some (.slice CW bs.length cw) ∧ w10.cell? ⟨w5.heap.size, 1, none⟩ = some (.int .i64 W0) ∧ w10.cell? ⟨w5.heap.size, 2, none⟩ = some (.slice PW bs.length pw) := ⟨hPw.cell 0, hPw.cell 1, hPw.cell 2⟩; have HG10 := Lib.hid hb10; clear hb10 hPw)
            | (go_at_call 14; refine (works_any _).mono ?_; rintro e w12 ⟨rfl, hb12⟩; have HG12 := Lib.hid (HG11.out.trans (hb12.mono HG11.out.size)); clear hb12))
          go_ret
          exact ⟨rfl, HALL.out.trans (HG12.out.mono HALL.out.size)⟩
        · subst hfv
          have hne : (ie != 0) = true := by simpa using h0
          have hnn := eql_nil_nil
          have H0 := Lib.hid h0
          clear h0
          go_wp2_with (go_at_call 14; refine (works_any _).mono ?_; rintro e w12 ⟨rfl, hb12⟩; have HG12 := Lib.hid hb12; clear hb12)
          go_ret
          exact ⟨rfl, HALL.out.trans (HG12.out.mono HALL.out.size)⟩
end Go.Proofs.Ytcigobiolbojhaa.Vb

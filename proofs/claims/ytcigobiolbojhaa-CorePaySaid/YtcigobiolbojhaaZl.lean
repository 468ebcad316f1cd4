/- Joined by program: EachW PayW1 PayW2 PayW. -/
import Derived.Test.YtcigobiolbojhaaZj
import Derived.Test.YtcigobiolbojhaaZe
import Derived.Test.YtcigobiolbojhaaZk
/- Law 17: VcgEach, walked. -/
namespace Go.Proofs.Ytcigobiolbojhaa.Vb
open Go.RowKit

/-- lists in memory of their own, whatever they hold -/
def GivW (w : World) (lo N : Nat) (v : Value) (bs : List (List Off)) : Prop :=
  ∃ vs, w.ownsRow lo 41 1 v bs.length vs ∧ ∀ (k : Nat) (l : List Off), bs[k]? = some l → ∃ b cap xs, vs[k]? = some (.slice (some ⟨b, 0, none⟩) l.length cap) ∧ lo ≤ b ∧ b < N ∧
    w.ownsRow lo 45 2 (.slice (some ⟨b, 0, none⟩) (l.length + 1) cap) (l.length + 1) xs
theorem Giv.givW {w w' : World} {lo N : Nat} {v : Value} {bs : List (List Off)} (h : Giv w lo v bs) (hN : w.heap.size ≤ N) (hb : Below w.heap.size w w') : GivW w' lo N v bs := by
  obtain ⟨vs, hs, ho⟩ := h
  refine ⟨vs, own_grow hs hb, fun k l hk => ?_⟩
  obtain ⟨b, c, h1, h2, _⟩ := ho k l hk
  have := h2.lt b rfl
  exact ⟨b, c, _, h1, this.1, by omega, own_grow h2 hb⟩
theorem own_set_any {w : World} {base : Nat} {e : TypeId} {sz n cap g : Nat} {xs : List Value} (h : w.ownsRow base e sz (.slice (some ⟨g, 0, none⟩) n cap) n xs) (b j : Nat) (u : Value) : ∃ xs', (w.setCell ⟨b, j, none⟩ u).ownsRow base e sz (.slice (some ⟨g, 0, none⟩) n cap) n xs' := by
  by_cases hb : b = g
  · subst hb; exact ⟨_, (h.stored j u).1⟩
  · exact ⟨xs, own_far h (grownBy_setCell w ⟨b, j, none⟩ u) (fun x e => by simp at e; simp [Value.ownBlock]; omega)⟩
theorem GivW.set {w : World} {lo N : Nat} {v : Value} {bs : List (List Off)} (h : GivW w lo N v bs) {b j n cap : Nat} {xs : List Value} (hb : w.ownsRow lo 45 2 (.slice (some ⟨b, 0, none⟩) n cap) n xs) (u : Value) : GivW (w.setCell ⟨b, j, none⟩ u) lo N v bs := by
  obtain ⟨vs, hs, ho⟩ := h
  refine ⟨vs, own_far hs (grownBy_setCell w ⟨b, j, none⟩ u) (fun g e => ?_), fun k l hk => ?_⟩
  · simp at e
    subst e
    exact own_ne hb hs (by decide) rfl
  · obtain ⟨b', c, ys, h1, h2, h3, h4⟩ := ho k l hk
    obtain ⟨ys', h5⟩ := own_set_any h4 b j u
    exact ⟨b', c, ys', h1, h2, h3, h5⟩

/-- what vcg.Each tells: the iterator, or none -/
def EachPost (n : Int) (bs : List (List Off)) (w : World) (e : Ending) (w' : World) : Prop :=
  (instE n bs = 0 ∧ ∃ pb pp, e = .returned (.tuple #[.func (.func 79) #[] #[.pointer (some ⟨pb, 0, none⟩), .pointer (some ⟨pp, 0, none⟩)], .int .i64 (instE n bs)]) ∧ EachAt w' w.heap.size pb pp n bs ∧ w.heap.size ≤ pb ∧ w.heap.size ≤ pp ∧ Below w.heap.size w w') ∨
  (instE n bs ≠ 0 ∧ e = .returned (.tuple #[.nilFunc, .int .i64 (instE n bs)]) ∧ Below w.heap.size w w')
theorem each_all (n : Int) (bs : List (List Off)) (v : Value) (R : Nat → Prop) (w : World) (hl : Buys w R v bs) (hs : Small bs) :
    Calls Try.prog 16 #[.agg #[.int .i64 n, v]] w (EachPost n bs w) := by
  by_cases hi : instE n bs = 0
  · refine (each_ok n bs v R w hl hi).mono fun e w' ⟨pb, pp, h1, h2⟩ => .inl ⟨hi, pb, pp, ?_, h2⟩
    rw [hi]; exact h1
  · exact (each_err n bs v R w hl hs hi).mono fun e w' h => .inr ⟨hi, h⟩
theorem eql_nil_nil (W : World) : (binOp .eql 29 .nilFunc .nilFunc).run Try.prog W = .ok (.bool true) W := by kernel_rfl

/-- what the storing over the copy keeps -/
structure EachRel (u3 w9 : World) (lo by_ : Nat) (n : Int) (vy : Value) (bs : List (List Off)) (wr : World) : Prop where
  mid : Mid lo u3.heap.size w9 wr
  giv : GivW wr lo u3.heap.size vy bs
  blk : Blk wr by_ 24 #[.int .i64 n, vy]

set_option maxRecDepth 100000 in
set_option maxHeartbeats 4000000 in
theorem each_walk (n : Int) (bs : List (List Off)) (v : Value) (R : Nat → Prop) (leave : Int) (w : World) (hl : Buys w R v bs) :
    Calls Try.prog 3 #[.agg #[.int .i64 n, v], .int .i64 leave] w fun e w' => e = .returned (.bool true) ∧ Below w.heap.size w w' := by
  obtain ⟨_, ⟨_, A, cap, rfl, _⟩, _⟩ := id hl
  have HB := Lib.hid hl
  clear hl
  cases hg : greatB bs with
  | true =>
    have HG := Lib.hid hg
    clear hg
    go_enter Try.func3, Try.ntmps3
    go_wp2_with fail
    refine (great_any n bs _ R _ (HB.out.alloc _)).mono ?_
    rintro e w1 ⟨rfl, hb1⟩
    rw [HG.out]
    have HB1 := Lib.hid (((Below.refl _ _).alloc (Nat.le_refl _) _).trans (hb1.mono (B' := w.heap.size) (by simp)))
    clear hb1
    go_wp2_with fail
    refine (works_any _).mono ?_
    rintro e w2 ⟨rfl, hb2⟩
    have HB2 := Lib.hid (HB1.out.trans (hb2.mono HB1.out.size))
    clear hb2
    go_wp2_with fail
    go_ret
    exact ⟨rfl, HB2.out⟩
  | false =>
    obtain ⟨hs1, hs2⟩ := greatB_small hg
    have HSM := Lib.hid (show Small bs from ⟨by omega, fun l hl => by have := hs2 l hl; omega⟩)
    have HS2 := Lib.hid hs2
    have HG := Lib.hid hg
    obtain ⟨hi0, hi1⟩ := instE_bd n bs
    obtain ⟨ie, hie⟩ : ∃ ie, ie = instE n bs := ⟨_, rfl⟩
    rw [← hie] at hi0 hi1
    have HIE := Lib.hid hie
    clear hg hie hs2
    go_enter Try.func3, Try.ntmps3
    go_wp2_with fail
    refine (great_any n bs _ R _ (HB.out.alloc _)).mono ?_
    rintro e w1 ⟨rfl, hb1⟩
    rw [HG.out]
    have hX := (Blk.new w 24 #[.int .i64 n, .slice A bs.length cap]).grow hb1
    have x0 : w1.cell? ⟨w.heap.size, 0, none⟩ = some (.int .i64 n) := hX.cell 0
    have x1 : w1.cell? ⟨w.heap.size, 1, none⟩ = some (.slice A bs.length cap) := hX.cell 1
    have HX := Lib.hid hX
    have HB1 := Lib.hid (((Below.refl _ _).alloc (Nat.le_refl _) _).trans (hb1.mono (B' := w.heap.size) (by simp)))
    clear hb1 hX
    go_wp2_with fail
    refine (given_any n bs _ R w1 (HB.out.grow HB1.out) HSM.out).mono ?_
    rintro e w2 ⟨A2, k2, rfl, hgv, hb2⟩
    have hs12 := hb2.size
    have HX2 := Lib.hid (HX.out.grow hb2)
    have HV2 := Lib.hid hgv
    have HB2 := Lib.hid (HB1.out.trans (hb2.mono HB1.out.size))
    clear hb2 hgv x0 x1
    go_wp2_with fail
    obtain ⟨u3, hu3⟩ : ∃ u, u = w2.alloc (.cells #[.int .i64 n, .slice A2 bs.length k2] 24) := ⟨_, rfl⟩
    have hX := HX2.out.alloc (.cells #[.int .i64 n, .slice A2 bs.length k2] 24)
    have hY := Blk.new w2 24 #[.int .i64 n, .slice A2 bs.length k2]
    have hV := HV2.out.grow ((Below.refl _ _).alloc (Nat.le_refl _) (.cells #[.int .i64 n, .slice A2 bs.length k2] 24))
    have hB := HB2.out.alloc HB2.out.size (.cells #[.int .i64 n, .slice A2 bs.length k2] 24)
    have hs3 : u3.heap.size = w2.heap.size + 1 := by rw [hu3]; simp
    rw [← hu3] at hX hY hV hB ⊢
    have HX3 := Lib.hid hX
    have HY3 := Lib.hid hY
    have HV3 := Lib.hid hV
    have HB3 := Lib.hid hB
    have hs23 : w2.heap.size < u3.heap.size := by omega
    have H23 := Lib.hid (show Below w2.heap.size w2 u3 from by rw [hu3]; exact (Below.refl _ _).alloc (Nat.le_refl _) _)
    clear hu3 hX hY hV hB hs3
    refine (each_all n bs _ (fun _ => True) _ HV3.out.buys HSM.out).mono ?_
    intro e w3 hpost
    -- the iterator's value, whatever it is
    obtain ⟨fv, rfl, hU3, hfv⟩ : ∃ fv, e = .returned (.tuple #[fv, .int .i64 ie]) ∧ Below u3.heap.size u3 w3 ∧
        ((ie = 0 ∧ ∃ pb pp, fv = .func (.func 79) #[] #[.pointer (some ⟨pb, 0, none⟩), .pointer (some ⟨pp, 0, none⟩)] ∧ EachAt w3 u3.heap.size pb pp n bs ∧ u3.heap.size ≤ pb ∧ u3.heap.size ≤ pp) ∨ (ie ≠ 0 ∧ fv = .nilFunc)) := by
      have h := HIE.out
      rcases hpost with ⟨h0, pb, pp, h1, h2, h3, h4, h5⟩ | ⟨h0, h1, h2⟩
      · exact ⟨_, by rw [h]; exact h1, h5, .inl ⟨by rw [h]; exact h0, pb, pp, rfl, h2, h3, h4⟩⟩
      · exact ⟨_, by rw [h]; exact h1, h2, .inr ⟨by rw [h]; exact h0, rfl⟩⟩
    have hX := HX3.out.grow hU3
    have hY := HY3.out.grow hU3
    have x0 : w3.cell? ⟨w.heap.size, 0, none⟩ = some (.int .i64 n) := hX.cell 0
    have x1 : w3.cell? ⟨w.heap.size, 1, none⟩ = some (.slice A bs.length cap) := hX.cell 1
    have HU3 := Lib.hid hU3
    have HFV := Lib.hid hfv
    clear hX hY hU3 hfv hpost
    go_wp2_with fail
    refine (refCosts_all n bs _ R _ (HB.out.grow (HB3.out.trans (HU3.out.mono HB3.out.size)))).mono ?_
    rintro e w5 ⟨CW, cw, PW, pw, rfl, hc5, hp5, hb5⟩
    rw [← HIE.out]
    obtain ⟨cl, hcl⟩ : ∃ cl, cl = choiceL n bs := ⟨_, rfl⟩
    obtain ⟨pl, hpl⟩ : ∃ pl, pl = paysL n bs := ⟨_, rfl⟩
    obtain ⟨W0, hW0⟩ : ∃ W0, W0 = worthL n bs := ⟨_, rfl⟩
    rw [← hcl] at hc5 hp5 ⊢
    rw [← hpl] at hp5
    rw [← hW0]
    have HCL := Lib.hid hcl
    have HPL := Lib.hid hpl
    clear hcl hpl hW0 x0 x1
    obtain ⟨u6, hu6⟩ : ∃ u, u = w5.alloc (.cells #[.slice CW cl.length cw, .int .i64 W0, .slice PW cl.length pw] 36) := ⟨_, rfl⟩
    have h56 : Below w5.heap.size w5 (w5.alloc (.cells #[.slice CW cl.length cw, .int .i64 W0, .slice PW cl.length pw] 36)) := (Below.refl _ _).alloc (Nat.le_refl _) _
    have hPw := Blk.new w5 36 #[.slice CW cl.length cw, .int .i64 W0, .slice PW cl.length pw]
    have h36 := hb5.alloc hb5.size (.cells #[.slice CW cl.length cw, .int .i64 W0, .slice PW cl.length pw] 36)
    rw [← hu6] at h56 hPw h36
    have HCW := Lib.hid (own_mono (own_grow hc5 h56) HU3.out.size)
    have HPW := Lib.hid (own_mono (own_grow hp5 h56) HU3.out.size)
    have HPB := Lib.hid hPw
    have H36 := Lib.hid h36
    have HU6 := Lib.hid (HU3.out.trans (h36.mono (B' := u3.heap.size) HU3.out.size))
    have hle35 : u3.heap.size ≤ w5.heap.size := Nat.le_trans HU3.out.size hb5.size
    clear hc5 hp5 h56 hPw h36 hb5
    go_wp2_with fail
    rw [← hu6]
    clear hu6
    have hX := HX3.out.grow HU6.out
    have hY := HY3.out.grow HU6.out
    have x0 : u6.cell? ⟨w.heap.size, 0, none⟩ = some (.int .i64 n) := hX.cell 0
    have x1 : u6.cell? ⟨w.heap.size, 1, none⟩ = some (.slice A bs.length cap) := hX.cell 1
    have y0 : u6.cell? ⟨w2.heap.size, 0, none⟩ = some (.int .i64 n) := hY.cell 0
    have y1 : u6.cell? ⟨w2.heap.size, 1, none⟩ = some (.slice A2 bs.length k2) := hY.cell 1
    clear hX hY
    go_wp2_with (first
      | (go_at_call 18; refine (num_any _ (by omega) (by omega) _).mono ?_; rintro e w9 ⟨rfl, rfl⟩)
      | (go_at_call 19; refine (stays_any n bs _ _ _ R _ (HV3.out.grow HU6.out) (HB.out.grow (HB3.out.trans (HU6.out.mono HB3.out.size))) HSM.out).mono ?_; rintro e w9 ⟨rfl, hb9⟩; have H9 := Lib.hid hb9; clear hb9 x0 x1 y0 y1))
    have hU9 := HU6.out.trans (H9.out.mono (B' := u3.heap.size) HU6.out.size)
    have hrel0 : EachRel u3 w9 w1.heap.size w2.heap.size n (.slice A2 bs.length k2) bs w9 := ⟨Mid.refl _ _ _, HV2.out.givW (by omega) (H23.out.trans (hU9.mono (by omega))), HY3.out.grow hU9⟩
    have HR0 := Lib.hid hrel0
    have HU9 := Lib.hid hU9
    clear hrel0 hU9
    go_loopw [10] (fun i wr => ∃ k : Nat, k ≤ bs.length ∧ i = .int .i64 k ∧ EachRel u3 w9 w1.heap.size w2.heap.size n (.slice A2 bs.length k2) bs wr) (fun i _ => bs.length - (intOf i).toNat)
    case atStart => exact ⟨0, Nat.zero_le _, rfl, HR0.out⟩
    case round =>
      obtain ⟨k, hk, rfl, hrel⟩ := hrel
      have y1 : wr.cell? ⟨w2.heap.size, 1, none⟩ = some (.slice A2 bs.length k2) := hrel.blk.cell 1
      have HREL := Lib.hid hrel
      clear hrel
      by_cases hlt : k < bs.length
      · obtain ⟨l, ho⟩ : ∃ l, bs[k]? = some l := ⟨_, List.getElem?_eq_getElem hlt⟩
        have hll := HS2.out l (List.mem_of_getElem? ho)
        have HO := Lib.hid ho
        have e1 : (0 : Int) ≤ (k : Int) := by omega
        have e2 : (k : Int) < (bs.length : Int) := by omega
        clear ho
        go_wp2_with fail
        clear y1
        go_loopw [11] (fun i wq => ∃ q : Nat, q ≤ l.length ∧ i = .int .i64 q ∧ EachRel u3 w9 w1.heap.size w2.heap.size n (.slice A2 bs.length k2) bs wq) (fun i _ => l.length - (intOf i).toNat)
        case atStart => exact ⟨0, Nat.zero_le _, rfl, HREL.out⟩
        case round =>
          obtain ⟨q, hq, rfl, hrel⟩ := hrel
          have y1 : wr.cell? ⟨w2.heap.size, 1, none⟩ = some (.slice A2 bs.length k2) := hrel.blk.cell 1
          obtain ⟨vs, hhd, hls⟩ := hrel.giv
          obtain ⟨gh, rfl, _, _, _, _, hgc⟩ := own_some hhd (by omega)
          obtain ⟨uh, huh, hch⟩ := hgc k hlt
          obtain ⟨b, c, xs, hvk, hb0, hb1, hbo⟩ := hls k l HO.out
          rw [hvk] at huh
          have huh' := Option.some.inj huh
          subst huh'
          have hxl : xs.length = (l.length + 1) * 2 := hbo.1
          obtain ⟨_, _, _, hbv, hbn, _, _⟩ := Sl.of_own hbo
          have HGV := Lib.hid hrel.giv
          have HMID := Lib.hid hrel.mid
          have HBLK := Lib.hid hrel.blk
          have HBO := Lib.hid hbo
          clear hgc hls hhd hrel huh hvk hbv hbn
          by_cases hlt2 : q < l.length
          · have c0 := hbo.cellAt (q * 2) (by omega)
            have c1 := hbo.cellAt (q * 2 + 1) (by omega)
            rw [List.getElem?_eq_getElem (by omega)] at c0 c1
            have f0 := hbo.frozenAt (q * 2)
            have f1 := hbo.frozenAt (q * 2 + 1)
            have e3 : (0 : Int) ≤ (q : Int) := by omega
            have e4 : (q : Int) < (l.length : Int) := by omega
            clear hbo
            go_wp2_with fail
            go_roundw
            case rel =>
              obtain ⟨xs', hx'⟩ := own_set_any HBO.out b (q * 2) (.int .u32 1)
              refine ⟨q + 1, by omega, by go_num, (HMID.out.set (p := ⟨b, q * 2, none⟩) hb0 hb1 _).set (p := ⟨b, q * 2 + 1, none⟩) hb0 hb1 _, (HGV.out.set HBO.out _).set hx' _, ?_⟩
              have hne : b ≠ w2.heap.size := fun e => own_ne_blk HBO.out HBLK.out (by decide) (by simp [Value.ownBlock, e])
              exact (HBLK.out.far (p := ⟨b, q * 2, none⟩) hne.symm _).far (p := ⟨b, q * 2 + 1, none⟩) hne.symm _
            case measure => simp [intOf]; omega
          · clear hbo
            go_wp2_with fail
            go_roundw
            case rel => exact ⟨k + 1, by omega, by go_num, HMID.out, HGV.out, HBLK.out⟩
            case measure => simp [intOf]; omega
      · clear y1
        have y1 : wr.cell? ⟨w2.heap.size, 1, none⟩ = some (.slice A2 bs.length k2) := HREL.out.blk.cell 1
        have hmid := HREL.out.mid
        have hPw := hmid.blk (HPB.out.grow H9.out) hle35
        have t0 : wr.cell? ⟨w5.heap.size, 0, none⟩ = some (.slice CW cl.length cw) := hPw.cell 0
        have t1 : wr.cell? ⟨w5.heap.size, 1, none⟩ = some (.int .i64 W0) := hPw.cell 1
        have t2 : wr.cell? ⟨w5.heap.size, 2, none⟩ = some (.slice PW cl.length pw) := hPw.cell 2
        have hall : Below w.heap.size w wr := (HB3.out.trans (HU9.out.mono HB3.out.size)).trans (hmid.1.mono HB1.out.size)
        have HALL := Lib.hid hall
        have HMID := Lib.hid hmid
        have HPr := Lib.hid hPw
        clear hmid hPw hall
        rcases HFV.out with ⟨h0, pb, pp, hfv, hat, hpb, hpp⟩ | ⟨h0, hfv⟩
        · subst hfv h0
          have hinst : instE n bs = 0 := HIE.out.symm
          have hcl' : cl = bestC n bs := by rw [HCL.out]; exact if_pos hinst
          have hpl' : pl = paysC n bs := by rw [HPL.out]; exact if_pos hinst
          subst hcl' hpl'
          obtain ⟨A1, c1, A4, c4, A3, c3, hb1, hb2, ho1, ho2⟩ := hat.at_
          have hlen := bestC_len n bs
          have hlenp := paysC_length n bs
          have h39 : Below w3.heap.size w3 w9 := H36.out.trans (H9.out.mono H36.out.size)
          have g1 := (HMID.out.blk (hb1.grow h39) hpb).cell 0
          have g3 := (HMID.out.blk (hb2.grow h39) hpp).cell 0
          have s1 := HMID.out.sl ((Sl.own_from ho1).grow h39) (fun i _ h => h)
          have s3 := HMID.out.sl ((Sl.own_from ho2).grow h39) (fun i _ h => h)
          have sc := HMID.out.sl ((Sl.own_from HCW.out).grow H9.out) (fun i _ h => h)
          have sp := HMID.out.sl ((Sl.own_from HPW.out).grow H9.out) (fun i _ h => h)
          rw [hlen] at sc sp t0 t2
          have hpb' : pb < wr.heap.size := by have := (hb1.grow h39).lt; have := HMID.out.1.size; omega
          have hpp' : pp < wr.heap.size := by have := (hb2.grow h39).lt; have := HMID.out.1.size; omega
          have hgo : ∀ (lv : Int) (W : World), Below wr.heap.size wr W → Calls Try.prog 20 #[.func (.func 79) #[] #[.pointer (some ⟨pb, 0, none⟩), .pointer (some ⟨pp, 0, none⟩)], .agg #[.slice CW bs.length cw, .int .i64 W0, .slice PW bs.length pw], .int .i64 lv] W fun e w' => e = .returned (.bool true) ∧ Below W.heap.size W w' := fun lv W hW =>
            goes_any pb pp bs.length c1 c3 cw pw A1 A3 CW PW W0 lv (bestC n bs) (paysC n bs) hs1 hlen hlenp W (by have := hW.size; omega) (by have := hW.size; omega)
              ((hW.cell (p := ⟨pb, 0, none⟩) hpb').trans g1) ((hW.cell (p := ⟨pp, 0, none⟩) hpp').trans g3) (s1.grow hW).any (s3.grow hW).any (sc.grow hW).any (sp.grow hW).any
          have HGO := Lib.hid hgo
          rw [hlen] at HPr
          clear hgo sc sp s1 s3 g1 g3 hlen hlenp hinst hat hb1 hb2 ho1 ho2 h39 hi0 hi1
          go_wp2_with (first
            | (go_at_call 20; have := HG10; refine (HGO.out _ _ HG10.out).mono ?_; rintro e w11 ⟨rfl, hb11⟩; have HG11 := Lib.hid (HG10.out.trans (hb11.mono HG10.out.size)); clear hb11)
            | (go_at_call 20; refine (HGO.out _ _ (Below.refl _ _)).mono ?_; rintro e w10 ⟨rfl, hb10⟩; have hPw := HPr.out.grow hb10; obtain ⟨t0, t1, t2⟩ : w10.cell? ⟨w5.heap.size, 0, none⟩ = some (.slice CW bs.length cw) ∧ w10.cell? ⟨w5.heap.size, 1, none⟩ = some (.int .i64 W0) ∧ w10.cell? ⟨w5.heap.size, 2, none⟩ = some (.slice PW bs.length pw) := ⟨hPw.cell 0, hPw.cell 1, hPw.cell 2⟩; have HG10 := Lib.hid hb10; clear hb10 hPw)
            | (go_at_call 14; refine (works_any _).mono ?_; rintro e w12 ⟨rfl, hb12⟩; have HG12 := Lib.hid (HG11.out.trans (hb12.mono HG11.out.size)); clear hb12))
          go_ret
          exact ⟨rfl, HALL.out.trans (HG12.out.mono HALL.out.size)⟩
        · subst hfv
          have hne : (ie != 0) = true := by simpa using h0
          have hnn := eql_nil_nil
          have H0 := Lib.hid h0
          clear h0
          go_wp2_with (go_at_call 14; refine (works_any _).mono ?_; rintro e w12 ⟨rfl, hb12⟩; have HG12 := Lib.hid hb12; clear hb12)
          go_ret
          exact ⟨rfl, HALL.out.trans (HG12.out.mono HALL.out.size)⟩
end Go.Proofs.Ytcigobiolbojhaa.Vb

/- Law 18: what CorePay needs. -/
namespace Go.Proofs.Ytcigobiolbojhaa.Vb
open Go.RowKit

/-- only blocks of M are written; none is made -/
structure KeepM (M : Nat → Prop) (A B : World) : Prop where
  os : B.os = A.os
  tape : B.tape = A.tape
  output : B.output = A.output
  size : B.heap.size = A.heap.size
  same : ∀ i, i < A.heap.size → ¬ M i → B.heap[i]? = A.heap[i]?
theorem KeepM.refl (M : Nat → Prop) (A : World) : KeepM M A A := ⟨rfl, rfl, rfl, rfl, fun _ _ _ => rfl⟩
theorem KeepM.set {M : Nat → Prop} {A B : World} (h : KeepM M A B) {p : Addr} (hp : M p.block) (u : Value) : KeepM M A (B.setCell p u) :=
  ⟨h.os, h.tape, h.output, by simpa [World.setCell] using h.size, fun i hi hm => (Below.heap_setCell B p u i (fun e => hm (by rw [e]; exact hp))).trans (h.same i hi hm)⟩
theorem KeepM.row {M : Nat → Prop} {A B C : World} {row : Option Nat} (h : KeepM M A B) (hg : B.grownBy C row) (hs : C.heap.size = B.heap.size) (hr : ∀ g, row = some g → M g) : KeepM M A C :=
  ⟨hg.os.trans h.os, hg.tape.trans h.tape, hg.output.trans h.output, hs.trans h.size, fun i hi hm => (hg.block i (by rw [h.size]; exact hi) (fun e => hm (hr i e.symm))).trans (h.same i hi hm)⟩
theorem KeepM.blk {M : Nat → Prop} {A B : World} (h : KeepM M A B) {g : Nat} {t : TypeId} {cs : Array Value} (hb : Blk A g t cs) (hg : ¬ M g) : Blk B g t cs := (h.same g hb.lt hg).trans hb
theorem KeepM.below {M : Nat → Prop} {A B : World} (h : KeepM M A B) {n : Nat} (hn : n ≤ A.heap.size) (hm : ∀ i, i < n → ¬ M i) : Below n A B :=
  ⟨h.os, h.tape, h.output, Nat.le_of_eq h.size.symm, fun i hi => h.same i (by omega) (hm i hi)⟩
theorem KeepM.keepR {M : Nat → Prop} {A B : World} (h : KeepM M A B) {lo hi : Nat} (hn : hi ≤ A.heap.size) (hm : ∀ i, lo ≤ i → i < hi → ¬ M i) : KeepR lo hi A B :=
  ⟨Nat.le_of_eq h.size.symm, fun i h1 h2 => h.same i (by omega) (hm i h1 h2)⟩

/-- what lent made, as it is written over: behind the first i lists -/
def OverI (w : World) (lo N i gy cy : Nat) (bs : List (List Off)) : Prop :=
  ∃ us, w.ownsRow lo 41 1 (.slice (some ⟨gy, 0, none⟩) (bs.length + 1) cy) (bs.length + 1) us ∧ lo ≤ gy ∧ gy < N ∧
    ∀ (j : Nat) (l : List Off), i ≤ j → bs[j]? = some l → ∃ b c xs, us[j]? = some (.slice (some ⟨b, 0, none⟩) l.length c) ∧ lo ≤ b ∧ b < N ∧
      w.ownsRow lo 45 2 (.slice (some ⟨b, 0, none⟩) (l.length + 1) c) (l.length + 1) xs
theorem Lent.overI {w w' : World} {lo : Nat} {v : Value} {bs : List (List Off)} (h : Lent w lo v bs) (hb : Below w.heap.size w w') : ∃ gy cy, v = .slice (some ⟨gy, 0, none⟩) bs.length cy ∧ OverI w' lo w.heap.size 0 gy cy bs := by
  obtain ⟨gb, cap, gs, vs, rfl, h2, h3, h4, h5, h6⟩ := h
  have hg := h2.lt gb rfl
  refine ⟨gb, cap, rfl, _, own_grow h2 hb, hg.1, hg.2, fun j l _ hj => ?_⟩
  obtain ⟨b, c, h7, h8, _⟩ := h6 j l hj
  have hb8 := h8.lt b rfl
  refine ⟨b, c, _, ?_, hb8.1, hb8.2, own_grow h8 hb⟩
  rw [List.getElem?_append_left (by rw [h3]; exact (List.getElem?_eq_some_iff.1 hj).1)]
  exact h7
theorem OverI.set {w : World} {lo N i gy cy : Nat} {bs : List (List Off)} (h : OverI w lo N i gy cy bs) {b j n cap : Nat} {xs : List Value} (hb : w.ownsRow lo 45 2 (.slice (some ⟨b, 0, none⟩) n cap) n xs) (u : Value) : OverI (w.setCell ⟨b, j, none⟩ u) lo N i gy cy bs := by
  obtain ⟨us, h1, h2, h3, h4⟩ := h
  refine ⟨us, own_far h1 (grownBy_setCell w ⟨b, j, none⟩ u) (fun g e => ?_), h2, h3, fun k l hk hl => ?_⟩
  · simp at e
    subst e
    exact own_ne hb h1 (by decide) rfl
  · obtain ⟨b', c, ys, a1, a2, a3, a4⟩ := h4 k l hk hl
    obtain ⟨ys', h5⟩ := own_set_any a4 b j u
    exact ⟨b', c, ys', a1, a2, a3, h5⟩
theorem OverI.next {w : World} {lo N i gy cy : Nat} {bs : List (List Off)} (h : OverI w lo N i gy cy bs) (u : Value) : OverI (w.setCell ⟨gy, i, none⟩ u) lo N (i + 1) gy cy bs := by
  obtain ⟨us, h1, h2, h3, h4⟩ := h
  refine ⟨us.set i u, (h1.stored i u).1, h2, h3, fun k l hk hl => ?_⟩
  obtain ⟨b', c, ys, a1, a2, a3, a4⟩ := h4 k l (by omega) hl
  refine ⟨b', c, ys, by rw [List.getElem?_set_ne (by omega)]; exact a1, a2, a3, own_far a4 (grownBy_setCell w ⟨gy, i, none⟩ u) (fun g e => ?_)⟩
  simp at e
  subst e
  exact own_ne h1 a4 (by decide) rfl
theorem OverI.mono {w : World} {lo N i j gy cy : Nat} {bs : List (List Off)} (h : OverI w lo N i gy cy bs) (hij : i ≤ j) : OverI w lo N j gy cy bs := by
  obtain ⟨us, h1, h2, h3, h4⟩ := h
  exact ⟨us, h1, h2, h3, fun k l hk hl => h4 k l (by omega) hl⟩

theorem OverI.row {w w' : World} {lo N i gy cy : Nat} {bs : List (List Off)} {row : Option Nat} (h : OverI w lo N i gy cy bs) (hg : w.grownBy w' row) (hr : ∀ g, row = some g → N ≤ g) : OverI w' lo N i gy cy bs := by
  obtain ⟨us, h1, h2, h3, h4⟩ := h
  refine ⟨us, own_far h1 hg (fun g e e2 => by have := hr g e; simp [Value.ownBlock] at e2; omega), h2, h3, fun k l hk hl => ?_⟩
  obtain ⟨b', c, ys, a1, a2, a3, a4⟩ := h4 k l hk hl
  exact ⟨b', c, ys, a1, a2, a3, own_far a4 hg (fun g e e2 => by have := hr g e; simp [Value.ownBlock] at e2; omega)⟩

/-- both answers in one: of any instance -/
def payA (n : Int) (bs : List (List Off)) : List Int := if instE n bs = 0 then payTo n bs bs.length else []
def zipA (n : Int) (bs : List (List Off)) : List (Int × List Int) := (whoL n bs).zip (rowsL n bs)
theorem zipA_ok {n : Int} {bs : List (List Off)} (hi : instE n bs = 0) : zipA n bs = zipTo n bs bs.length := zip_all hi
theorem zipA_err {n : Int} {bs : List (List Off)} (hi : instE n bs ≠ 0) : zipA n bs = [] := by
  unfold zipA whoL
  rw [if_neg hi]
  rfl
theorem payA_len {n : Int} {bs : List (List Off)} (hwf : ∀ l ∈ bs, ∀ o ∈ l, o.wf) : (payA n bs).length ≤ 32 := by
  unfold payA
  split
  · rename_i hi
    rw [payTo_len hi hwf (Nat.le_refl _)]
    exact (instE_zero hi).2.2.1
  · simp
theorem zipA_len {n : Int} {bs : List (List Off)} : (zipA n bs).length ≤ 32 := by
  unfold zipA
  rw [List.length_zip, rowsL_len, Nat.min_self]
  unfold whoL
  split
  · rename_i hi
    exact Nat.le_trans (whoTo_len _ _) (instE_zero hi).2.2.1
  · simp

theorem corePay_all (n : Int) (bs : List (List Off)) (v : Value) (R : Nat → Prop) (w : World) (hl : Buys w R v bs) :
    Calls Try.prog 39 #[.agg #[.int .i64 n, v]] w fun e w' => ∃ A' c', e = .returned (.tuple #[.slice A' (payA n bs).length c', .int .i64 (instE n bs)]) ∧ w'.ownsRow w.heap.size 2 1 (.slice A' (payA n bs).length c') (payA n bs).length (ints (payA n bs)) ∧ Below w.heap.size w w' := by
  by_cases hi : instE n bs = 0
  · refine (corePay_ok n bs v R w hl hi).mono ?_
    rintro e w' ⟨A', c', rfl, h1, h2⟩
    have hp : payA n bs = payTo n bs bs.length := by unfold payA; rw [if_pos hi]
    rw [hp, payTo_len hi hl.wf (Nat.le_refl _), hi]
    exact ⟨A', c', rfl, h1, h2⟩
  · refine (corePay_err n bs v R w hl hi).mono ?_
    rintro e w' ⟨rfl, h2⟩
    have hp : payA n bs = [] := by unfold payA; rw [if_neg hi]
    rw [hp]
    exact ⟨none, 0, rfl, World.ownsRow_nil _ _ _ _, h2⟩
theorem refPay_all (n : Int) (bs : List (List Off)) (v : Value) (R : Nat → Prop) (w : World) (hl : Buys w R v bs) :
    Calls Try.prog 40 #[.agg #[.int .i64 n, v]] w fun e w' => ∃ A' c', e = .returned (.tuple #[.slice A' (payA n bs).length c', .int .i64 (instE n bs)]) ∧ Sl w' (w.heap.size ≤ ·) (.slice A' (payA n bs).length c') (payA n bs).length 1 (ints (payA n bs)) ∧ Below w.heap.size w w' := by
  by_cases hi : instE n bs = 0
  · refine (refPay_ok n bs v R w hl hi).mono ?_
    rintro e w' ⟨A', c', rfl, h1, h2⟩
    have hp : payA n bs = payTo n bs bs.length := by unfold payA; rw [if_pos hi]
    rw [hp, payTo_len hi hl.wf (Nat.le_refl _), hi]
    exact ⟨A', c', rfl, h1, h2⟩
  · refine (refPay_err n bs v R w hl hi).mono ?_
    rintro e w' ⟨rfl, h2⟩
    have hp : payA n bs = [] := by unfold payA; rw [if_neg hi]
    rw [hp]
    exact ⟨none, 0, rfl, ⟨rfl, none, 0, rfl, Nat.le_refl _, Nat.zero_le _, fun h => absurd h (by simp)⟩, h2⟩
theorem refSteps_all (n : Int) (bs : List (List Off)) (v : Value) (R : Nat → Prop) (w : World) (hl : Buys w R v bs) :
    Calls Try.prog 41 #[.agg #[.int .i64 n, v]] w fun e w' => ∃ A' c', e = .returned (.slice A' (zipA n bs).length c') ∧ StepsR w' w.heap.size (.slice A' (zipA n bs).length c') (zipA n bs) ∧ Below w.heap.size w w' := by
  by_cases hi : instE n bs = 0
  · rw [zipA_ok hi]
    exact refSteps_ok n bs v R w hl hi
  · refine (refSteps_err n bs v R w hl hi).mono ?_
    rintro e w' ⟨rfl, h2⟩
    rw [zipA_err hi]
    exact ⟨none, 0, rfl, ⟨[], rfl, World.ownsRow_nil _ _ _ _, fun j z hj => by simp at hj⟩, h2⟩
theorem coreSteps_all (n : Int) (bs : List (List Off)) (v : Value) (R : Nat → Prop) (w : World) (hl : Buys w R v bs) :
    Calls Try.prog 42 #[.agg #[.int .i64 n, v]] w fun e w' => ∃ b4 b3, e = .returned (.func (.func 98) #[] #[.pointer (some ⟨b4, 0, none⟩), .pointer (some ⟨b3, 0, none⟩)]) ∧ Shared w' w.heap.size b4 b3 (whoL n bs) (rowsL n bs) ∧ Below w.heap.size w w' := by
  by_cases hi : instE n bs = 0
  · exact coreSteps_ok n bs v R w hl hi
  · exact coreSteps_err n bs v R w hl hi
theorem rowsL_len40 {n : Int} {bs : List (List Off)} (hwf : ∀ l ∈ bs, ∀ o ∈ l, o.wf) : ∀ r ∈ rowsL n bs, r.length ≤ 40 := by
  intro r hr
  by_cases hi : instE n bs = 0
  · rw [rowsTo_rows hi hwf hr]
    have := (instE_zero hi).2.2.1
    omega
  · unfold rowsL at hr
    rw [if_neg hi] at hr
    simp at hr
theorem whoL_len40 {n : Int} {bs : List (List Off)} : (whoL n bs).length ≤ 40 := by
  unfold whoL
  split
  · rename_i hi
    have := whoTo_len (bestC n bs) bs.length
    have := (instE_zero hi).2.2.1
    omega
  · simp

theorem KeepR.sub {lo hi lo' hi' : Nat} {A B : World} (h : KeepR lo hi A B) (h1 : lo ≤ lo') (h2 : hi' ≤ hi) : KeepR lo' hi' A B := ⟨h.size, fun i a b => h.same i (by omega) (by omega)⟩
/-- the mark on a turn's deferred calls -/
def markOf (D : Nat) : Deferred := { target := .collected D, args := #[] }
theorem leaves_all {P : Program} {fn : Func} {tmps : Array Value} {R : Ending → World → Prop} {base n : Nat} : ∀ (Ds : List Nat) (W : World), (∀ D ∈ Ds, base ≤ D ∧ W.heap[D]? = some (.deferred (some []))) → Ds.Nodup →
    (∀ W', Below base W W' → LeavesInM Fence.wide n P fn tmps R [] .returning W') → LeavesInM Fence.wide n P fn tmps R (Ds.map markOf) .returning W
  | [], W, _, _, hf => hf W (Below.refl _ _)
  | D :: Ds, W, h, hn, hf => by
    obtain ⟨h1, h2⟩ := h D (by simp)
    have hn' := List.nodup_cons.1 hn
    refine ⟨by simp, .inl ⟨D, W.putObj D (.deferred none), rfl, run_takeDeferred h2, leaves_all (base := base) Ds (W.putObj D (.deferred none)) (fun D' hD' => ?_) hn'.2 (fun W' hW' => hf W' ?_)⟩⟩
    · obtain ⟨h3, h4⟩ := h D' (by simp [hD'])
      have hne : D' ≠ D := fun e => hn'.1 (e ▸ hD')
      exact ⟨h3, (World.putObj_heap_other hne).trans h4⟩
    · have hlt := (Array.getElem?_eq_some_iff.1 h2).1
      exact ((Below.refl base W).grown (grownBy_putObj' W D (.deferred none)) (by omega) (fun k e => by cases e; exact h1)).trans hW'

/-- between two turns -/
structure TurnF (w1 w9 : World) (h3 t tb : Nat) (Ds : List Nat) (W : World) : Prop where
  b1 : Below w1.heap.size w1 W
  k3 : KeepR h3 w9.heap.size w9 W
  t : Blk W tb 3 #[.int .i64 (t : Int)]
  tb : w9.heap.size ≤ tb
  ds : ∀ D ∈ Ds, w9.heap.size ≤ D ∧ D < W.heap.size ∧ W.heap[D]? = some (.deferred (some []))
  nd : Ds.Nodup
theorem turnF_own {β : Type} {w1 w9 : World} {h3 t tb B : Nat} {Ds : List Nat} (h1 : w1.heap.size ≤ B) (h9 : w9.heap.size ≤ B) (hD : ∀ D ∈ Ds, D < B) : OwnFrom B (fun (_ : β) W => TurnF w1 w9 h3 t tb Ds W) := fun s W W' row h hg hr =>
  ⟨(ownFrom_below (Nat.le_refl _) h1) s W W' row h.b1 hg hr, (ownFrom_keepR (Nat.le_refl _) h9) s W W' row h.k3 hg hr, h.t.cells hg (fun r e => (hr r e).2), h.tb,
    fun D hd => let ⟨a, b, c⟩ := h.ds D hd; ⟨a, Nat.lt_of_lt_of_le b hg.size, (hg.block D b (fun e => by have := (hr D e.symm).1; have := hD D hd; omega)).trans c⟩, h.nd⟩
end Go.Proofs.Ytcigobiolbojhaa.Vb

/- Law 18: CorePay's frame, between two turns. -/
namespace Go.Proofs.Ytcigobiolbojhaa.Vb
open Go.RowKit Go.Shelf

def frameG (us : Nat → Value) (v3 v4 v8 v10 v12 v13 v16 : Value) (i : Nat) : Value := if i = 3 then v3 else if i = 4 then v4 else if i = 8 then v8 else if i = 10 then v10 else if i = 12 then v12 else if i = 13 then v13 else if i = 16 then v16 else us i
def frameL (us : Nat → Value) (v3 v4 v8 v10 v12 v13 v16 : Value) : Array Value := ((List.range 165).map (frameG us v3 v4 v8 v10 v12 v13 v16)).toArray
set_option maxRecDepth 100000 in
theorem frameL_lit (us : Nat → Value) (v3 v4 v8 v10 v12 v13 v16 : Value) : frameL us v3 v4 v8 v10 v12 v13 v16 = #[us 0, us 1, us 2, v3, v4, us 5, us 6, us 7, v8, us 9, v10, us 11, v12, v13, us 14, us 15, v16, us 17, us 18, us 19, us 20, us 21, us 22, us 23, us 24, us 25, us 26, us 27, us 28, us 29, us 30, us 31, us 32, us 33, us 34, us 35, us 36, us 37, us 38, us 39, us 40, us 41, us 42, us 43, us 44, us 45, us 46, us 47, us 48, us 49, us 50, us 51, us 52, us 53, us 54, us 55, us 56, us 57, us 58, us 59, us 60, us 61, us 62, us 63, us 64, us 65, us 66, us 67, us 68, us 69, us 70, us 71, us 72, us 73, us 74, us 75, us 76, us 77, us 78, us 79, us 80, us 81, us 82, us 83, us 84, us 85, us 86, us 87, us 88, us 89, us 90, us 91, us 92, us 93, us 94, us 95, us 96, us 97, us 98, us 99, us 100, us 101, us 102, us 103, us 104, us 105, us 106, us 107, us 108, us 109, us 110, us 111, us 112, us 113, us 114, us 115, us 116, us 117, us 118, us 119, us 120, us 121, us 122, us 123, us 124, us 125, us 126, us 127, us 128, us 129, us 130, us 131, us 132, us 133, us 134, us 135, us 136, us 137, us 138, us 139, us 140, us 141, us 142, us 143, us 144, us 145, us 146, us 147, us 148, us 149, us 150, us 151, us 152, us 153, us 154, us 155, us 156, us 157, us 158, us 159, us 160, us 161, us 162, us 163, us 164] := rfl
theorem frame_of (tmps : Array Value) (v3 v4 v8 v10 v12 v13 v16 : Value) (hs : tmps.size = 165) (h3 : tmps[3]? = some v3) (h4 : tmps[4]? = some v4) (h8 : tmps[8]? = some v8) (h10 : tmps[10]? = some v10) (h12 : tmps[12]? = some v12) (h13 : tmps[13]? = some v13) (h16 : tmps[16]? = some v16) : ∃ us, tmps = frameL us v3 v4 v8 v10 v12 v13 v16 := by
  refine ⟨fun i => tmps[i]?.getD undef, ?_⟩
  apply Array.ext'
  apply List.ext_getElem?
  intro i
  unfold frameL
  by_cases hi : i < 165
  · have h0 : tmps.toList[i]? = some (tmps[i]?.getD undef) := by
      rw [Array.getElem?_toList, Array.getElem?_eq_getElem (by omega)]
      rfl
    rw [h0]
    simp only [List.getElem?_map, List.getElem?_range hi, Option.map_some]
    congr 1
    unfold frameG
    by_cases e3 : i = 3
    · subst e3; simp [h3]
    rw [if_neg e3]
    by_cases e4 : i = 4
    · subst e4; simp [h4]
    rw [if_neg e4]
    by_cases e8 : i = 8
    · subst e8; simp [h8]
    rw [if_neg e8]
    by_cases e10 : i = 10
    · subst e10; simp [h10]
    rw [if_neg e10]
    by_cases e12 : i = 12
    · subst e12; simp [h12]
    rw [if_neg e12]
    by_cases e13 : i = 13
    · subst e13; simp [h13]
    rw [if_neg e13]
    by_cases e16 : i = 16
    · subst e16; simp [h16]
    rw [if_neg e16]
  · rw [List.getElem?_eq_none (by simp; omega), List.getElem?_eq_none (by simp; omega)]

theorem KeepR.rowed {lo hi : Nat} {A B C : World} {row : Option Nat} (h : KeepR lo hi A B) (hg : B.grownBy C row) (hB : hi ≤ B.heap.size) (hr : ∀ g, row = some g → hi ≤ g) : KeepR lo hi A C :=
  ⟨Nat.le_trans h.size hg.size, fun i h1 h2 => (hg.block i (by omega) (fun e => by have := hr i e.symm; omega)).trans (h.same i h1 h2)⟩
/-- a call, a row written over, a box stored into -/
theorem TurnF.step {w1 w9 : World} {h3 t tb kb : Nat} {Ds : List Nat} {V V2 V3 : World} {row : Option Nat} (h : TurnF w1 w9 h3 t tb Ds V) (hb : Below V.heap.size V V2) (hg : V2.grownBy V3 row)
    (hr : ∀ g, row = some g → w1.heap.size ≤ g ∧ w9.heap.size ≤ g ∧ g ≠ tb ∧ ∀ D ∈ Ds, D ≠ g) (hk : w1.heap.size ≤ kb ∧ w9.heap.size ≤ kb ∧ kb ≠ tb ∧ ∀ D ∈ Ds, D ≠ kb) (u : Value) : TurnF w1 w9 h3 t tb Ds (V3.setCell ⟨kb, 0, none⟩ u) := by
  have s1 := h.b1.size
  have s9 := h.k3.size
  have s2 := hb.size
  have s3 := hg.size
  refine ⟨?_, ?_, ?_, h.tb, fun D hD => ?_, h.nd⟩
  · exact ((h.b1.trans (hb.mono s1)).grown hg (by omega) (fun g e => (hr g e).1)).setCell (p := ⟨kb, 0, none⟩) hk.1 _
  · exact ((h.k3.trans (KeepR.of_below (hb.mono s9))).rowed hg (by omega) (fun g e => (hr g e).2.1)).trans (KeepR.set _ (p := ⟨kb, 0, none⟩) (.inr hk.2.1) _)
  · exact ((h.t.grow hb).grown hg (fun e => (hr tb e.symm).2.2.1 rfl)).far (p := ⟨kb, 0, none⟩) (fun e => hk.2.2.1 e.symm) _
  · obtain ⟨a, b, c⟩ := h.ds D hD
    refine ⟨a, by simp [World.setCell]; omega, ?_⟩
    rw [Below.heap_setCell V3 ⟨kb, 0, none⟩ u D (hk.2.2.2 D hD), hg.block D (by omega) (fun e => (hr D e.symm).2.2.2 D hD rfl), hb.block D b]
    exact c
theorem TurnF.alloc {w1 w9 : World} {h3 t tb : Nat} {Ds : List Nat} {V : World} (h : TurnF w1 w9 h3 t tb Ds V) (o : Obj) : TurnF w1 w9 h3 t tb Ds (V.alloc o) :=
  ⟨h.b1.alloc h.b1.size o, h.k3.trans (KeepR.of_below ((Below.refl _ _).alloc h.k3.size o)), h.t.alloc o, h.tb, fun D hD => let ⟨a, b, c⟩ := h.ds D hD; ⟨a, by simp; omega, (Below.heap_alloc V o D b).trans c⟩, h.nd⟩
/-- the next turn -/
theorem TurnF.next {w1 w9 : World} {h3 t tb D0 : Nat} {Ds : List Nat} {V : World} (h : TurnF w1 w9 h3 t tb Ds V) (hD : V.heap[D0]? = some (.deferred (some []))) (h0 : w9.heap.size ≤ D0) (hn : D0 ∉ Ds) :
    TurnF w1 w9 h3 (t + 1) V.heap.size (D0 :: Ds) (V.alloc (.cells #[.int .i64 ((t : Int) + 1)] 3)) := by
  have hl := (Array.getElem?_eq_some_iff.1 hD).1
  have ha := h.alloc (.cells #[.int .i64 ((t : Int) + 1)] 3)
  refine ⟨ha.b1, ha.k3, ?_, h.k3.size, fun D hd => ?_, List.nodup_cons.2 ⟨hn, h.nd⟩⟩
  · have := Blk.new V 3 #[.int .i64 ((t : Int) + 1)]
    rwa [show ((t : Int) + 1) = ((t + 1 : Nat) : Int) from by omega] at this ⊢
  · rcases List.mem_cons.1 hd with rfl | hd
    · exact ⟨h0, by simp; omega, (Below.heap_alloc V _ _ hl).trans hD⟩
    · exact ha.ds D hd
theorem own_isCells {w : World} {b : Nat} {e : TypeId} {sz n : Nat} {v : Value} {xs : List Value} (h : w.ownsRow b e sz v n xs) : ∀ (j : Nat) (o : Obj), v.ownBlock = some j → w.heap[j]? = some o → o.isCells = true := by
  intro j o hj ho
  obtain ⟨_, h | ⟨g, cap, cur, hv, _, hcur, _⟩⟩ := h
  · rw [h.1] at hj; simp [Value.ownBlock] at hj
  · rw [hv] at hj
    simp [Value.ownBlock] at hj
    subst hj
    rw [ho] at hcur
    cases hcur
    rfl
theorem prefix_at {α : Type} {pre L : List α} {y : α} (h : pre ++ [y] <+: L) : L[pre.length]? = some y := by
  obtain ⟨r, rfl⟩ := h
  simp
end Go.Proofs.Ytcigobiolbojhaa.Vb

/- Law 18: CorePay, walked. -/
namespace Go.Proofs.Ytcigobiolbojhaa.Vb
open Go.RowKit Go.Shelf
attribute [local go_sem] Oper.semAt_some

theorem three_blk {w w1 : World} {cs ds es : Array Value} {t u s : TypeId} (hb : Below (((w.alloc (.cells cs t)).alloc (.cells ds u)).alloc (.cells es s)).heap.size (((w.alloc (.cells cs t)).alloc (.cells ds u)).alloc (.cells es s)) w1) :
    Blk w1 w.heap.size t cs ∧ Blk w1 (w.heap.size + 1) u ds ∧ Blk w1 (w.heap.size + 2) s es ∧ w.heap.size + 3 ≤ w1.heap.size ∧ Below w.heap.size w w1 := by
  have hs := hb.size
  simp at hs
  exact ⟨(((Blk.new w _ _).alloc _).alloc _).grow hb, ((Blk.new' _ _ (by simp)).alloc _).grow hb, (Blk.new' _ _ (by simp)).grow hb, by omega,
    ((((Below.refl _ _).alloc (Nat.le_refl _) _).alloc (by simp) _).alloc (by simp; omega) _).trans (hb.mono (by simp; omega))⟩

/-- the boxes of CorePay, as they stand -/
structure Std (w : World) (b2 : Nat) (n leave : Int) (v vy : Value) (V : World) : Prop where
  x : Blk V w.heap.size 24 #[.int .i64 n, v]
  l : Blk V (w.heap.size + 1) 3 #[.int .i64 leave]
  r : Blk V (w.heap.size + 2) 4 #[.bool false]
  y : Blk V b2 24 #[.int .i64 n, vy]
  b : Below w.heap.size w V
theorem Std.grow {w : World} {b2 : Nat} {n leave : Int} {v vy : Value} {V V' : World} (h : Std w b2 n leave v vy V) (hb : Below V.heap.size V V') : Std w b2 n leave v vy V' :=
  ⟨h.x.grow hb, h.l.grow hb, h.r.grow hb, h.y.grow hb, h.b.trans (hb.mono h.b.size)⟩

set_option maxRecDepth 100000 in
set_option maxHeartbeats 6400000 in
theorem payw_walk (n : Int) (bs : List (List Off)) (v : Value) (R : Nat → Prop) (leave : Int) (w : World) (hl : Buys w R v bs) :
    Calls Try.prog 7 #[.agg #[.int .i64 n, v], .int .i64 leave] w fun e w' => e = .returned (.bool true) ∧ Below w.heap.size w w' := by
  obtain ⟨_, ⟨_, A, cap, rfl, _⟩, _⟩ := id hl
  have HB := Lib.hid hl
  have HWF := Lib.hid (Buys.wf hl)
  have heq := eql_seq_nil
  clear hl
  refine (callsIn_wide (n := 3)).1 (callsIn_of_wp_marks Try.func7 rfl trivial ((wpIn_wide (n := 3)).2 (wp_noPanic ?_)))
  simp only [Try.ntmps7, List.size_toArray, List.length_cons, List.length_nil, Nat.reduceAdd, Nat.reduceSub, Array.replicate_succ, Array.replicate_zero, List.push_toArray, List.append_toArray, List.nil_append, List.cons_append]
  go_wp2_with fail
  refine (large_any n bs _ R _ (((HB.out.alloc _).alloc _).alloc _)).mono ?_
  rintro e w1 ⟨rfl, hb1⟩
  obtain ⟨hX, hL, hR, hs1, hbw⟩ := three_blk hb1
  have HX1 := Lib.hid hX
  have HL1 := Lib.hid hL
  have HR1 := Lib.hid hR
  have HB1 := Lib.hid hbw
  clear hb1 hX hL hR hbw
  cases hg : largeB bs with
  | true =>
    clear hg
    go_wp2_with fail
    refine (known_any _).mono ?_
    rintro e w2 ⟨rfl, hb2⟩
    have hr2 := HR1.out.grow hb2
    have r0 : w2.cell? ⟨w.heap.size + 2, 0, none⟩ = some (.bool false) := hr2.cell 0
    have rf := hr2.frozen 0
    have q0 : (w2.setCell ⟨w.heap.size + 2, 0, none⟩ (.bool true)).cell? ⟨w.heap.size + 2, 0, none⟩ = some (.bool true) := (hr2.set_ 0 (.bool true)).cell 0
    have HB2 := Lib.hid (HB1.out.trans (hb2.mono HB1.out.size))
    clear hb2 hr2
    go_wp2_with fail
    exact ⟨.bool true, by simp [results, Try.results7, go_sem, q0], rfl, HB2.out.setCell (p := ⟨w.heap.size + 2, 0, none⟩) (by simp) _⟩
  | false =>
    obtain ⟨hs40, hs20⟩ := largeB_small hg
    have HSM := Lib.hid (show Small bs from ⟨by omega, fun l hl => by have := hs20 l hl; omega⟩)
    clear hg hs20
    have hpl := payA_len (n := n) HWF.out
    have hzl := zipA_len (n := n) (bs := bs)
    obtain ⟨p, hp⟩ : ∃ p, p = payA n bs := ⟨_, rfl⟩
    obtain ⟨L, hL⟩ : ∃ L, L = zipA n bs := ⟨_, rfl⟩
    obtain ⟨ie, hie⟩ : ∃ z, z = instE n bs := ⟨_, rfl⟩
    rw [← hp] at hpl
    rw [← hL] at hzl
    have HP := Lib.hid hp
    have HLL := Lib.hid hL
    have HIE := Lib.hid hie
    clear hp hL hie
    have x0 : w1.cell? ⟨w.heap.size, 0, none⟩ = some (.int .i64 n) := HX1.out.cell 0
    have x1 : w1.cell? ⟨w.heap.size, 1, none⟩ = some (.slice A bs.length cap) := HX1.out.cell 1
    go_wp2_with fail
    refine (lent_any n bs _ R _ (HB.out.grow HB1.out) HSM.out).mono ?_
    rintro e w2 ⟨vy, rfl, hlent, hb2⟩
    have hbuy := hlent.buys
    obtain ⟨gy0, cy0, _, _, hvy, _⟩ := id hlent
    have HX2 := Lib.hid (HX1.out.grow hb2)
    have HL2 := Lib.hid (HL1.out.grow hb2)
    have HR2 := Lib.hid (HR1.out.grow hb2)
    have HB2 := Lib.hid (HB1.out.trans (hb2.mono HB1.out.size))
    have HG12 := Lib.hid hb2
    have HLE := Lib.hid hlent
    have HBU := Lib.hid hbuy
    have hs12 := hb2.size
    clear hb2 hlent hbuy x0 x1
    subst hvy
    go_wp2_with fail
    have hal2 := (Below.refl w2.heap.size w2).alloc (Nat.le_refl _) (.cells #[.int .i64 n, .slice (some ⟨gy0, 0, none⟩) bs.length cy0] 24)
    obtain ⟨u2, hu2⟩ : ∃ V, V = w2.alloc (.cells #[.int .i64 n, .slice (some ⟨gy0, 0, none⟩) bs.length cy0] 24) := ⟨_, rfl⟩
    have hY := Blk.new w2 24 #[.int .i64 n, .slice (some ⟨gy0, 0, none⟩) bs.length cy0]
    rw [← hu2] at hal2 hY ⊢
    have hsu2 : u2.heap.size = w2.heap.size + 1 := by rw [hu2]; simp
    have hstd : Std w w2.heap.size n leave (.slice A bs.length cap) (.slice (some ⟨gy0, 0, none⟩) bs.length cy0) u2 := ⟨HX2.out.grow hal2, HL2.out.grow hal2, HR2.out.grow hal2, hY, HB2.out.trans (hal2.mono HB2.out.size)⟩
    have HS2 := Lib.hid hstd
    have HBU2 := Lib.hid (HBU.out.grow hal2)
    have HG2 := Lib.hid hal2
    clear hu2 hal2 hY hstd
    refine (corePay_all n bs _ _ u2 HBU2.out).mono ?_
    rintro e w3 ⟨A3, c3, rfl, hown3, hb3⟩
    rw [← HP.out] at hown3 ⊢
    rw [← HIE.out]
    have hstd := HS2.out.grow hb3
    have y0 : w3.cell? ⟨w2.heap.size, 0, none⟩ = some (.int .i64 n) := hstd.y.cell 0
    have y1 : w3.cell? ⟨w2.heap.size, 1, none⟩ = some (.slice (some ⟨gy0, 0, none⟩) bs.length cy0) := hstd.y.cell 1
    have HS3 := Lib.hid hstd
    have HBU3 := Lib.hid (HBU2.out.grow hb3)
    have HA3 := Lib.hid hown3
    have HG3 := Lib.hid (HG2.out.trans (hb3.mono HG2.out.size))
    have hs23 := hb3.size
    clear hb3 hown3 hstd
    go_wp2_with fail
    refine (corePay_all n bs _ _ w3 HBU3.out).mono ?_
    rintro e w4 ⟨A4, c4, rfl, hown4, hb4⟩
    rw [← HP.out] at hown4 ⊢
    rw [← HIE.out]
    have hstd := HS3.out.grow hb4
    have x0 : w4.cell? ⟨w.heap.size, 0, none⟩ = some (.int .i64 n) := hstd.x.cell 0
    have x1 : w4.cell? ⟨w.heap.size, 1, none⟩ = some (.slice A bs.length cap) := hstd.x.cell 1
    have HS4 := Lib.hid hstd
    have HA4 := Lib.hid (own_grow HA3.out hb4)
    have HD4 := Lib.hid hown4
    have HG4 := Lib.hid (HG3.out.trans (hb4.mono HG3.out.size))
    have HBU4 := Lib.hid (HBU3.out.grow hb4)
    have hs34 := hb4.size
    clear hb4 hown4 hstd y0 y1
    go_wp2_with fail
    refine (refPay_all n bs _ R w4 (HB.out.grow HS4.out.b)).mono ?_
    rintro e w5 ⟨A5, c5, rfl, hsl5, hb5⟩
    rw [← HP.out] at hsl5 ⊢
    rw [← HIE.out]
    have hstd := HS4.out.grow hb5
    have x0' : w5.cell? ⟨w.heap.size, 0, none⟩ = some (.int .i64 n) := hstd.x.cell 0
    have x1' : w5.cell? ⟨w.heap.size, 1, none⟩ = some (.slice A bs.length cap) := hstd.x.cell 1
    have HS5 := Lib.hid hstd
    have HA5 := Lib.hid (own_grow HA4.out hb5)
    have HD5 := Lib.hid (own_grow HD4.out hb5)
    have HW5 := Lib.hid hsl5
    have HG5 := Lib.hid (HG4.out.trans (hb5.mono HG4.out.size))
    have HBU5 := Lib.hid (HBU4.out.grow hb5)
    have hs45 := hb5.size
    clear hb5 hsl5 hstd x0 x1
    go_wp2_with fail
    refine (refSteps_all n bs _ R w5 (HB.out.grow HS5.out.b)).mono ?_
    rintro e w6 ⟨A6, c6, rfl, hst6, hb6⟩
    rw [← HLL.out] at hst6 ⊢
    have hal6 := hb6.alloc hb6.size (.cells #[.slice A6 L.length c6] 75)
    obtain ⟨u6, hu6⟩ : ∃ V, V = w6.alloc (.cells #[.slice A6 L.length c6] 75) := ⟨_, rfl⟩
    have hT := Blk.new w6 75 #[.slice A6 L.length c6]
    have hstr := hst6.grow ((Below.refl w6.heap.size w6).alloc (Nat.le_refl _) (.cells #[.slice A6 L.length c6] 75))
    have hsu6 : u6.heap.size = w6.heap.size + 1 := by rw [hu6]; simp
    rw [← hu6] at hal6 hT hstr
    have hstd := HS5.out.grow hal6
    have y0 : u6.cell? ⟨w2.heap.size, 0, none⟩ = some (.int .i64 n) := hstd.y.cell 0
    have y1 : u6.cell? ⟨w2.heap.size, 1, none⟩ = some (.slice (some ⟨gy0, 0, none⟩) bs.length cy0) := hstd.y.cell 1
    rw [hu6] at y0 y1
    have HS6 := Lib.hid hstd
    have HA6 := Lib.hid (own_grow HA5.out hal6)
    have HD6 := Lib.hid (own_grow HD5.out hal6)
    have HW6 := Lib.hid (HW5.out.grow hal6)
    have HG6 := Lib.hid (HG5.out.trans (hal6.mono HG5.out.size))
    have HBU6 := Lib.hid (HBU5.out.grow hal6)
    have HT6 := Lib.hid hT
    have HSR6 := Lib.hid hstr
    have hs56 := hb6.size
    clear hb6 hst6 hstd x0' x1' hal6 hT hstr
    go_wp2_with fail
    rw [← hu6]
    refine (coreSteps_all n bs _ _ u6 HBU6.out).mono ?_
    rintro e w7 ⟨b4, b3, rfl, hsh, hb7⟩
    have hstd := HS6.out.grow hb7
    have HS7 := Lib.hid hstd
    have HA7 := Lib.hid (own_grow HA6.out hb7)
    have HD7 := Lib.hid (own_grow HD6.out hb7)
    have HW7 := Lib.hid (HW6.out.grow hb7)
    have HG7 := Lib.hid (HG6.out.trans (hb7.mono HG6.out.size))
    have HT7 := Lib.hid (HT6.out.grow hb7)
    have HSR7 := Lib.hid (HSR6.out.grow hb7)
    have HSH7 := Lib.hid hsh
    have hs67 := hb7.size
    clear hb7 hsh hstd hu6 y0 y1
    have hiei := instE_bd n bs
    rw [← HIE.out] at hiei
    go_wp2_with (first
      | (go_at_call 43; refine (same18_true p _ _ _ _ _ (Sl.of_own HA7.out).any HW7.out.any).mono ?_; rintro e w8 ⟨rfl, hb8⟩; have HK8 := Lib.hid hb8; obtain ⟨x0, x1, y0, y1⟩ : w8.cell? ⟨w.heap.size, 0, none⟩ = some (.int .i64 n) ∧ w8.cell? ⟨w.heap.size, 1, none⟩ = some (.slice A bs.length cap) ∧ w8.cell? ⟨w2.heap.size, 0, none⟩ = some (.int .i64 n) ∧ w8.cell? ⟨w2.heap.size, 1, none⟩ = some (.slice (some ⟨gy0, 0, none⟩) bs.length cy0) := ⟨(HS7.out.grow hb8).x.cell 0, (HS7.out.grow hb8).x.cell 1, (HS7.out.grow hb8).y.cell 0, (HS7.out.grow hb8).y.cell 1⟩; clear hb8)
      | (go_at_call 44; refine (kept_any n bs _ _ _ R w8 ((HLE.out.grow HG7.out).grow HK8.out) ((HB.out.grow HS7.out.b).grow HK8.out) HSM.out).mono ?_; rintro e w9 ⟨rfl, hb9⟩; have HK9 := Lib.hid (HK8.out.trans (hb9.mono HK8.out.size)); clear hb9 HK8 x0 x1 y0 y1))
    refine (over_any (u2.heap.size) p.length (by omega) _ _ w9 (own_grow HA7.out HK9.out) ⟨_, _, rfl⟩).mono ?_
    rintro e w10 ⟨⟨r10, rfl⟩, hg10, hs10⟩
    obtain ⟨M, hM⟩ : ∃ M : Nat → Prop, M = fun i => (w1.heap.size ≤ i ∧ i < w2.heap.size) ∨ (w2.heap.size < i ∧ i < w3.heap.size) := ⟨_, rfl⟩
    have hMm : ∀ i, M i ↔ (w1.heap.size ≤ i ∧ i < w2.heap.size) ∨ (w2.heap.size < i ∧ i < w3.heap.size) := fun i => by rw [hM]
    clear hM
    have HM := Lib.hid hMm
    clear hMm
    have hrow10 : ∀ g, (Value.slice A3 p.length c3).ownBlock = some g → w2.heap.size + 1 ≤ g ∧ g < w3.heap.size := fun g e => by have := HA3.out.lt g e; omega
    have HKM := Lib.hid (KeepM.row (KeepM.refl M w9) hg10 hs10 (fun g e => (HM.out g).2 (.inr (by have := hrow10 g e; omega))))
    obtain ⟨gy1, cy1, hvy1, hov⟩ := HLE.out.overI (HG7.out.trans (HK9.out.mono HG7.out.size))
    injection hvy1 with hvy2 _ hvy3
    injection hvy2 with hvy2
    injection hvy2 with hvy2 _ _
    subst hvy2 hvy3
    have HOV := Lib.hid (hov.row hg10 (fun g e => by have := hrow10 g e; omega))
    have HS9 := Lib.hid (HS7.out.grow HK9.out)
    have HG19 := Lib.hid ((HG12.out.trans (HG7.out.mono hs12)).trans (HK9.out.mono (by have := HG7.out.size; omega)))
    have hs79 := HK9.out.size
    clear hg10 hs10 hov hrow10
    go_wp2_with fail
    go_loopw [14] (fun ix wr => ∃ i : Nat, i ≤ bs.length ∧ ix = .int .i64 i ∧ OverI wr w1.heap.size w2.heap.size i gy0 cy0 bs ∧ KeepM M w9 wr) (fun ix _ => bs.length - (intOf ix).toNat)
    case atStart => exact ⟨0, Nat.zero_le _, rfl, HOV.out, HKM.out⟩
    case round =>
      obtain ⟨i, hi, rfl, hov, hkm⟩ := hrel
      have hyb := hkm.blk HS9.out.y (fun h => by rcases (HM.out _).1 h with h | h <;> omega)
      have y1 : wr.cell? ⟨w2.heap.size, 1, none⟩ = some (.slice (some ⟨gy0, 0, none⟩) bs.length cy0) := hyb.cell 1
      by_cases hlt : i < bs.length
      · obtain ⟨l, hl⟩ : ∃ l, bs[i]? = some l := ⟨_, List.getElem?_eq_getElem hlt⟩
        have hov0 := hov
        obtain ⟨us, ho1, hgy1, hgy2, hrows⟩ := hov
        obtain ⟨b, c, xs, hub, hb1, hb2, hbo⟩ := hrows i l (Nat.le_refl _) hl
        have hci := ho1.cellAt i (by omega)
        rw [hub] at hci
        have hll := HSM.out.2 l (List.mem_of_getElem? hl)
        have hbne : b ≠ gy0 := fun e => own_ne ho1 hbo (by decide) (g := gy0) rfl (by simp [Value.ownBlock, e])
        obtain ⟨wq, rfl⟩ : ∃ V, V = wr := ⟨_, rfl⟩
        have e1 : (0 : Int) ≤ (i : Int) := by omega
        have e2 : (i : Int) < (bs.length : Int) := by omega
        have HOV0 := Lib.hid hov0
        have HBO := Lib.hid hbo
        have HKQ := Lib.hid hkm
        have HYB := Lib.hid hyb
        have HCI := Lib.hid hci
        clear ho1 hrows hub hbo hov0 hkm hyb hl hci
        go_wp2_with fail
        clear y1
        go_loopw [15] (fun ix wr2 => ∃ k : Nat, k ≤ l.length ∧ ix = .int .i64 k ∧ wr2.cell? ⟨gy0, i, none⟩ = some (.slice (some ⟨b, 0, none⟩) l.length c) ∧ (∃ xs, wr2.ownsRow w1.heap.size 45 2 (.slice (some ⟨b, 0, none⟩) (l.length + 1) c) (l.length + 1) xs) ∧ OverI wr2 w1.heap.size w2.heap.size i gy0 cy0 bs ∧ KeepM M w9 wr2) (fun ix _ => l.length - (intOf ix).toNat)
        case atStart => exact ⟨0, Nat.zero_le _, rfl, HCI.out, ⟨_, HBO.out⟩, HOV0.out, HKQ.out⟩
        case round =>
          obtain ⟨k, hk, rfl, hci, ⟨ys, hbo⟩, hov, hkm⟩ := hrel
          have hyb := hkm.blk HS9.out.y (fun h => by rcases (HM.out _).1 h with h | h <;> omega)
          have y1 : wr.cell? ⟨w2.heap.size, 1, none⟩ = some (.slice (some ⟨gy0, 0, none⟩) bs.length cy0) := hyb.cell 1
          by_cases hlk : k < l.length
          · have hf := hbo.frozenAt (k * 2)
            have hf2 := hbo.frozenAt (k * 2 + 1)
            have hyl : ys.length = (l.length + 1) * 2 := hbo.1
            have hc0 := hbo.cellAt (k * 2) (by omega)
            have hc1 := hbo.cellAt (k * 2 + 1) (by omega)
            rw [List.getElem?_eq_getElem (by omega)] at hc0 hc1
            have e3 : (0 : Int) ≤ (k : Int) := by omega
            have e4 : (k : Int) < (l.length : Int) := by omega
            have hst1 := (hbo.stored (k * 2) (.int .u32 1)).1
            have hst2 := (hst1.stored (k * 2 + 1) (.int .i64 9)).1
            have hov2 := (hov.set (j := k * 2) hbo (.int .u32 1)).set (j := k * 2 + 1) hst1 (.int .i64 9)
            have hkm2 := (hkm.set (p := ⟨b, k * 2, none⟩) ((HM.out _).2 (.inl ⟨hb1, hb2⟩)) (.int .u32 1)).set (p := ⟨b, k * 2 + 1, none⟩) ((HM.out _).2 (.inl ⟨hb1, hb2⟩)) (.int .i64 9)
            have hci2 : ((wr.setCell ⟨b, k * 2, none⟩ (.int .u32 1)).setCell ⟨b, k * 2 + 1, none⟩ (.int .i64 9)).cell? ⟨gy0, i, none⟩ = some (.slice (some ⟨b, 0, none⟩) l.length c) := by
              rw [World.cell?_setCell_other _ _ _ _ (fun e => by injection e with e; exact hbne e), World.cell?_setCell_other _ _ _ _ (fun e => by injection e with e; exact hbne e)]
              exact hci
            have HST := Lib.hid hst2
            have HOV2 := Lib.hid hov2
            have HKM2 := Lib.hid hkm2
            have HCI2 := Lib.hid hci2
            clear hst1 hst2 hov2 hkm2 hci2 hbo hov hkm hyb
            go_wp2_with fail
            go_roundw
            case rel => exact ⟨k + 1, by omega, by go_num, HCI2.out, ⟨_, HST.out⟩, HOV2.out, HKM2.out⟩
            case measure => simp [intOf]; omega
          · obtain rfl : k = l.length := by omega
            have hfz : wr.frozen? ⟨gy0, i, none⟩ = false := by
              obtain ⟨us, ho1, _⟩ := hov
              exact ho1.frozenAt i
            have HOV2 := Lib.hid (hov.next (.slice none 0 0))
            have HKM2 := Lib.hid (hkm.set (p := ⟨gy0, i, none⟩) ((HM.out _).2 (.inl ⟨hgy1, hgy2⟩)) (.slice none 0 0))
            clear hbo hov hkm hyb
            go_wp2_with fail
            go_roundw
            case rel => exact ⟨i + 1, by omega, by go_num, HOV2.out, HKM2.out⟩
            case measure => simp [intOf]; omega
      · clear hov
        obtain ⟨wq, rfl⟩ : ∃ V, V = wr := ⟨_, rfl⟩
        have HKQ := Lib.hid hkm
        clear hkm hyb
        go_wp2_with fail
        have HTF := Lib.hid (show TurnF w1 w9 w3.heap.size 0 wq.heap.size [] (wq.alloc (.cells #[.int .i64 0] 3)) from by
          have hbM : Below w1.heap.size w9 wq := HKQ.out.below (by omega) (fun i hi h => by rcases (HM.out _).1 h with h | h <;> omega)
          have hkM : KeepR w3.heap.size w9.heap.size w9 wq := HKQ.out.keepR (Nat.le_refl _) (fun i h1 h2 h => by rcases (HM.out _).1 h with h | h <;> omega)
          have hsz := HKQ.out.size
          refine ⟨((HG19.out.trans hbM).alloc (by omega) _), hkM.trans (KeepR.of_below ((Below.refl _ _).alloc (by omega) _)), Blk.new wq _ _, by omega, fun D hD => by simp at hD, List.nodup_nil⟩)
        clear HKQ
        refine wp_loop_ghost_k (fun m a W => ∃ (t tb : Nat) (Ds : List Nat) (us : Nat → Value), m + t = 2 ∧ TurnF w1 w9 w3.heap.size t tb Ds W ∧ a.tmps = frameL us (.pointer (some ⟨w.heap.size + 1, 0, none⟩)) (.pointer (some ⟨w.heap.size + 1 + 1, 0, none⟩)) (.slice A4 p.length c4) (.slice A5 p.length c5) (.pointer (some ⟨w6.heap.size, 0, none⟩)) (.func (.func 98) #[] #[.pointer (some ⟨b4, 0, none⟩), .pointer (some ⟨b3, 0, none⟩)]) (.pointer (some ⟨tb, 0, none⟩)) ∧ a.defers = Ds.map markOf) 2 ⟨0, wq.heap.size, [], (frame_of _ _ _ _ _ _ _ _ (by rfl) (by rfl) (by rfl) (by rfl) (by rfl) (by rfl) (by rfl) (by rfl)).imp fun us h => ⟨rfl, HTF.out, h, rfl⟩⟩ ?_
        clear HTF
        rintro m ⟨tmps, defers⟩ W ⟨t, tb, Ds, us, hmt, hT, htm, hdf⟩ J K hJ hK
        dsimp only at htm hdf
        subst htm hdf
        rw [frameL_lit]
        have HJ := Lib.hid hJ
        have HK := Lib.hid hK
        have HT := Lib.hid hT
        clear hJ hK
        have htb : W.cell? ⟨tb, 0, none⟩ = some (.int .i64 (t : Int)) := HT.out.t.cell 0
        have hs1W := HT.out.b1.size
        have hs9W := HT.out.k3.size
        have hsl4 : Sl W (fun b => w3.heap.size ≤ b ∧ b < w9.heap.size) (.slice A4 p.length c4) p.length 1 (ints p) := HT.out.k3.sl ((Sl.own_from (own_grow HD7.out HK9.out)).mono fun b hlt hb => ⟨hb, hlt⟩)
        have hsl5 : Sl W (fun b => w3.heap.size ≤ b ∧ b < w9.heap.size) (.slice A5 p.length c5) p.length 1 (ints p) := HT.out.k3.sl ((HW7.out.grow HK9.out).mono fun b hlt hb => ⟨by omega, hlt⟩)
        have HSL4 := Lib.hid hsl4
        have HSL5 := Lib.hid hsl5
        clear hsl4 hsl5
        by_cases hend : t = 2
        · subst hend
          have htb : W.cell? ⟨tb, 0, none⟩ = some (.int .i64 2) := htb
          go_wp2_with (first
            | (go_at_call 43; refine (same18_true p _ _ _ _ _ HSL4.out.any HSL5.out.any).mono ?_; rintro e z1 ⟨rfl, hb1⟩; have HU1 := Lib.hid hb1; clear hb1)
            | (go_at_call 37; refine (known_any _).mono ?_; rintro e z2 ⟨rfl, hb2⟩; have hu2 := HU1.out.trans (hb2.mono HU1.out.size); have hr2 := (HR1.out.below HT.out.b1 HR1.out.lt).grow hu2; have HU2 := Lib.hid hu2; have r0 : z2.cell? ⟨w.heap.size + 1 + 1, 0, none⟩ = some (.bool false) := hr2.cell 0; have rf := hr2.frozen 0; have HRU := Lib.hid hr2; clear hb2 hu2 hr2))
          refine leaves_all (base := w9.heap.size) (n := 3) Ds _ (fun D hD => ?_) HT.out.nd (fun W' hW' => ?_)
          · obtain ⟨a, b, c⟩ := HT.out.ds D hD
            refine ⟨a, ?_⟩
            rw [Below.heap_setCell z2 ⟨w.heap.size + 1 + 1, 0, none⟩ (.bool true) D (by simp; omega), HU2.out.block D b]
            exact c
          have hq := (HRU.out.set_ 0 (.bool true)).below hW' (by omega)
          have q0 : W'.cell? ⟨w.heap.size + 1 + 1, 0, none⟩ = some (.bool true) := hq.cell 0
          exact ⟨.bool true, by simp [results, Try.results7, go_sem, q0], rfl, ((((HB1.out.trans (HT.out.b1.mono HB1.out.size)).trans (HU2.out.mono (by omega))).setCell (p := ⟨w.heap.size + 1 + 1, 0, none⟩) (by simp; omega) _).trans (hW'.mono (by omega)))⟩
        · have ht2 : (t : Int) < 2 := by omega
          go_wp2_with fail
          refine (wpIn_wide (n := 3)).1 ?_
          obtain ⟨W2, hW2⟩ : ∃ V, V = W.alloc (.cells #[.int .i64 0] 3) := ⟨_, rfl⟩
          have hT2 : TurnF w1 w9 w3.heap.size t tb Ds W2 := by rw [hW2]; exact HT.out.alloc _
          have hk2 : Blk W2 W.heap.size 3 #[.int .i64 (([] : List (Int × List Int × Value)).length : Int)] := by rw [hW2]; exact Blk.new W _ _
          have hs2W : W2.heap.size = W.heap.size + 1 := by rw [hW2]; simp
          rw [← hW2]
          have HT2 := Lib.hid hT2
          have HK2 := Lib.hid hk2
          have HKR := Lib.hid (((KeepR.of_below (lo := u6.heap.size) HK9.out).trans (HT2.out.k3.sub (by omega) (by omega)) : KeepR u6.heap.size w7.heap.size w7 W2))
          clear hW2 hT2 hk2
          refine' wpIn_rangeFunc_V (F := Fence.wide) (n := 3) rfl (by omega) (gf := 98) (lb := #[.pointer (some ⟨b4, 0, none⟩), .pointer (some ⟨b3, 0, none⟩)]) rfl trivial (enters_of Try.func98 (by kernel_rfl) rfl)
            (shared_stops Fence.wide 2 trivial rfl (by omega) HSH7.out whoL_len40 (rowsL_len n bs) (rowsL_len40 HWF.out) HKR.out) keepR_t (keepR_b (by omega)) (Below.refl _ _) (fun _ => rfl) (told_own _ _)
            (fun pre V => TurnF w1 w9 w3.heap.size t tb Ds V ∧ Blk V W.heap.size 3 #[.int .i64 (pre.length : Int)])
            (fun c pre V => (c = .exit 6 ∧ t = 0 ∧ (pre.length : Int) = leave) ∧ TurnF w1 w9 w3.heap.size t tb Ds V ∧ Blk V W.heap.size 3 #[.int .i64 (pre.length : Int)])
            (OwnFrom.and (turnF_own (by omega) (by omega) (fun D hD => by have := (HT.out.ds D hD).2.1; omega)) (Own.from (fun _ _ _ _ h hg hr => h.cells hg hr) _))
            (fun c => OwnFrom.and (ownFrom_pure _ _) (OwnFrom.and (turnF_own (by omega) (by omega) (fun D hD => by have := (HT.out.ds D hD).2.1; omega)) (Own.from (fun _ _ _ _ h hg hr => h.cells hg hr) _)))
            ⟨HT2.out, HK2.out⟩ _ ?assign ?body ?done ?stop
          case assign =>
            intro l x V K' hK'
            gi_wp2
            exact hK'
          case body =>
            rintro l pre x V ⟨hT, hkb⟩ hTold hsp hlt2
            have hTT : V.ownsRow (W2.heap.size + 2) 2 1 x.2.2 x.2.1.length (ints x.2.1) := hTold
            obtain ⟨xa, xl, xv⟩ := x
            obtain ⟨Ax, cx, hxv⟩ := own_form hTT
            dsimp only at hxv hTT
            subst hxv
            have hLz : tells pre ++ [(xa, xl)] <+: L := by rw [HLL.out]; simpa [tells, zipA] using hsp
            have hLat := prefix_at hLz
            have hpl2 : (tells pre).length = pre.length := by simp [tells]
            rw [hpl2] at hLat
            have hltL := (List.getElem?_eq_some_iff.1 hLat).1
            have hxl : xl.length ≤ 40 := by
              have hmem := List.mem_of_getElem? hLat
              rw [HLL.out] at hmem
              exact rowsL_len40 HWF.out xl (List.of_mem_zip hmem).2
            have hkk := hT.k3
            have hstp : StepsR V w5.heap.size (.slice A6 L.length c6) L := ((HSR7.out.grow HK9.out).keep (hkk.sub (by omega) (Nat.le_refl _)) rfl)
            have hTB : Blk V w6.heap.size 75 #[.slice A6 L.length c6] := (hkk.same w6.heap.size (by omega) (HT7.out.grow HK9.out).lt).trans (HT7.out.grow HK9.out)
            obtain ⟨vs, hvl, hso, hsr⟩ := hstp
            obtain ⟨u, hu, hus⟩ := hsr pre.length (xa, xl) hLat
            obtain ⟨g6, c6', hv6, hg61, hg62⟩ := World.ownsRow.form hso (by omega)
            injection hv6 with hv61 _ hv62
            subst hv61 hv62
            have hca := hso.cellAt (pre.length * 2) (by omega)
            have hcb := hso.cellAt (pre.length * 2 + 1) (by omega)
            rw [(stepCells_at hLat hu).1] at hca
            rw [(stepCells_at hLat hu).2] at hcb
            have d0 : V.cell? ⟨w6.heap.size, 0, none⟩ = some (.slice (some ⟨g6, 0, none⟩) L.length c6) := hTB.cell 0
            have k0 : V.cell? ⟨W.heap.size, 0, none⟩ = some (.int .i64 (pre.length : Int)) := hkb.cell 0
            have e1 : (0 : Int) ≤ (pre.length : Int) := by omega
            have e2 : (pre.length : Int) < (L.length : Int) := by omega
            have hfn1 : Fence.wide.fn 43 := trivial
            have hfn2 : Fence.wide.fn 45 := trivial
            have hxlen : ∀ {V' : World}, Below V.heap.size V V' → Calls Try.prog 43 #[.slice Ax xl.length cx, u] V' fun e w' => e = .returned (.bool true) ∧ Below V'.heap.size V' w' := fun hV' => same18_true xl _ _ (fun _ => True) (fun _ => True) _ ((Sl.of_own hTT).any.grow hV') (hus.any.grow hV')
            have HSAME := Lib.hid (@hxlen V (Below.refl _ _))
            have HTV := Lib.hid hT
            have HKB := Lib.hid hkb
            have HTO := Lib.hid hTT
            have HDB := Lib.hid (show ∀ D ∈ Ds, D < W.heap.size from fun D hD => (HT.out.ds D hD).2.1)
            have HTBL := Lib.hid HT.out.t.lt
            obtain ⟨_, Au, cu, rfl, _⟩ := id hus
            clear hxlen hT hkb hTT hTold hsp hlt2 hLz hLat hkk hTB hvl hso hsr hu hus hpl2
            dsimp only
            gi_wp2
            refine (CallsIn.inRound l (callsIn_wide.2 HSAME.out)).mono ?_
            rintro e V2 ⟨rfl, hb2⟩
            have hTT2 := own_grow HTO.out hb2
            have HTO2 := Lib.hid hTT2
            have HV2 := Lib.hid hb2
            have hsV2 := hb2.size
            clear hTT2 hb2 d0 k0 hca hcb
            gi_wp2
            refine (CallsIn.inRound l (callsIn_wide.2 (over_any _ xl.length (by omega) _ _ V2 HTO2.out ⟨_, _, rfl⟩))).mono ?_
            rintro e V3 ⟨⟨r3, rfl⟩, hg3, hs3⟩
            have hrw : ∀ g, (Value.slice Ax xl.length cx).ownBlock = some g → W2.heap.size + 2 ≤ g := fun g e => (HTO2.out.lt g e).1
            have hkb3 := (HKB.out.grow HV2.out).grown hg3 (fun e => by have := hrw _ e.symm; omega)
            have k1 : V3.cell? ⟨W.heap.size, 0, none⟩ = some (.int .i64 (pre.length : Int)) := hkb3.cell 0
            have k2 : V3.frozen? ⟨W.heap.size, 0, none⟩ = false := hkb3.frozen 0
            have hT4 := TurnF.step (kb := W.heap.size) HTV.out HV2.out hg3 (fun g e => by have := hrw g e; exact ⟨by omega, by omega, by have := HTBL.out; omega, fun D hD => by have := HDB.out D hD; omega⟩) ⟨by omega, by omega, by have := HTBL.out; omega, fun D hD => by have := HDB.out D hD; omega⟩ (.int .i64 ((pre.length : Int) + 1))
            have hk4 : Blk (V3.setCell ⟨W.heap.size, 0, none⟩ (.int .i64 ((pre.length : Int) + 1))) W.heap.size 3 #[.int .i64 ((pre.length : Int) + 1)] := hkb3.set_ 0 _
            have hlv4 := ((HL1.out.below hT4.b1 HL1.out.lt)).cell 0
            have htb4 : (V3.setCell ⟨W.heap.size, 0, none⟩ (.int .i64 ((pre.length : Int) + 1))).cell? ⟨tb, 0, none⟩ = some (.int .i64 (t : Int)) := hT4.t.cell 0
            have hkb4 : (V3.setCell ⟨W.heap.size, 0, none⟩ (.int .i64 ((pre.length : Int) + 1))).cell? ⟨W.heap.size, 0, none⟩ = some (.int .i64 ((pre.length : Int) + 1)) := hk4.cell 0
            have hlv4' : (V3.setCell ⟨W.heap.size, 0, none⟩ (.int .i64 ((pre.length : Int) + 1))).cell? ⟨w.heap.size + 1, 0, none⟩ = some (.int .i64 leave) := hlv4
            have hKO : KeepsOthers V (V3.setCell ⟨W.heap.size, 0, none⟩ (.int .i64 ((pre.length : Int) + 1))) := ((keepsO_of_below HV2.out).trans (KeepsOthers.of_grownBy hg3 (fun j o hj ho => own_isCells HTO2.out j o hj ho))).trans (KeepsOthers.setCell _ _ _)
            have hKP : KeepR u6.heap.size w7.heap.size V (V3.setCell ⟨W.heap.size, 0, none⟩ (.int .i64 ((pre.length : Int) + 1))) := ((KeepR.of_below (HV2.out.mono (by have := HTV.out.k3.size; omega))).rowed hg3 (by have := HTV.out.k3.size; omega) (fun g e => by have := hrw g e; omega)).trans (KeepR.set _ (p := ⟨W.heap.size, 0, none⟩) (.inr (by simp; omega)) _)
            have hlen1 : ((pre ++ [(xa, xl, Value.slice Ax xl.length cx)]).length : Int) = (pre.length : Int) + 1 := by simp
            have HT4 := Lib.hid hT4
            have HK4 := Lib.hid hk4
            have HKO := Lib.hid hKO
            have HKP := Lib.hid hKP
            have HLEN := Lib.hid hlen1
            clear hg3 hs3 hrw hkb3 hT4 hk4 hlv4 hKO hKP hlen1
            by_cases hbr : t = 0 ∧ (pre.length : Int) + 1 = leave
            · obtain ⟨rfl, rfl⟩ := hbr
              have htb5 : (V3.setCell ⟨W.heap.size, 0, none⟩ (.int .i64 ((pre.length : Int) + 1))).cell? ⟨tb, 0, none⟩ = some (.int .i64 0) := htb4
              clear htb4
              gi_wp2
              exact ⟨HKO.out, ⟨rfl, HLEN.out⟩, HT4.out, by rw [HLEN.out]; exact HK4.out⟩
            · have hor : ¬ (t : Int) = 0 ∨ ((t : Int) = 0 ∧ ¬ (pre.length : Int) + 1 = leave) := by
                by_cases h0 : t = 0
                · exact .inr ⟨by omega, fun h => hbr ⟨h0, h⟩⟩
                · exact .inl (by omega)
              clear hbr
              rcases hor with h0 | ⟨h0, h1⟩
              · have hb0 : ((t : Int) == 0) = false := by simpa using h0
                clear h0
                gi_wp2
                exact ⟨HKO.out, HKP.out, HT4.out, by rw [HLEN.out]; exact HK4.out⟩
              · rw [h0] at htb4
                have hb1 : ((pre.length : Int) + 1 == leave) = false := by simpa using h1
                clear h0 h1
                gi_wp2
                exact ⟨HKO.out, HKP.out, HT4.out, by rw [HLEN.out]; exact HK4.out⟩
          case done =>
            rintro D ys V hD hys ⟨hTn, hkb⟩ hKd
            have hyl : ys.length = L.length := by
              have := congrArg List.length hys
              rw [← show zipA n bs = (whoL n bs).zip (rowsL n bs) from rfl, ← HLL.out] at this
              simpa [tells] using this
            rw [hyl] at hkb
            have hl0 : V.cell? ⟨w.heap.size + 1, 0, none⟩ = some (.int .i64 leave) := (HL1.out.below hTn.b1 HL1.out.lt).cell 0
            have ht0 : V.cell? ⟨tb, 0, none⟩ = some (.int .i64 (t : Int)) := hTn.t.cell 0
            have hk0 : V.cell? ⟨W.heap.size, 0, none⟩ = some (.int .i64 (L.length : Int)) := hkb.cell 0
            have hTB : Blk V w6.heap.size 75 #[.slice A6 L.length c6] := (hTn.k3.same w6.heap.size (by omega) (HT7.out.grow HK9.out).lt).trans (HT7.out.grow HK9.out)
            have d0 : V.cell? ⟨w6.heap.size, 0, none⟩ = some (.slice A6 L.length c6) := hTB.cell 0
            have hnx := hTn.next hKd (by omega) (fun h => by have := (HT.out.ds D h).2.1; omega)
            have HNX := Lib.hid hnx
            clear hnx hTB hTn hkb hKd
            clear hys hyl
            rcases (by omega : t = 0 ∨ t = 1) with rfl | rfl
            · have ht0 : V.cell? ⟨tb, 0, none⟩ = some (.int .i64 0) := ht0
              go_wp2_with fail
              refine HK.out _ _ (Handed.intro (m - 1) (by omega) (HJ.out _ _ _ ⟨1, V.heap.size, D :: Ds, (frame_of _ _ _ _ _ _ _ _ (by rfl) (by rfl) (by rfl) (by rfl) (by rfl) (by rfl) (by rfl) (by rfl)).imp fun us h => ⟨by omega, HNX.out, h, rfl⟩⟩))
            · have ht0 : V.cell? ⟨tb, 0, none⟩ = some (.int .i64 1) := ht0
              go_wp2_with fail
              refine HK.out _ _ (Handed.intro (m - 1) (by omega) (HJ.out _ _ _ ⟨2, V.heap.size, D :: Ds, (frame_of _ _ _ _ _ _ _ _ (by rfl) (by rfl) (by rfl) (by rfl) (by rfl) (by rfl) (by rfl) (by rfl)).imp fun us h => ⟨by omega, HNX.out, h, rfl⟩⟩))
          case stop =>
            rintro D c pre V hD hpre ⟨⟨rfl, rfl, rfl⟩, hTn, hkb⟩ hKd
            have hl0 : V.cell? ⟨w.heap.size + 1, 0, none⟩ = some (.int .i64 (pre.length : Int)) := (HL1.out.below hTn.b1 HL1.out.lt).cell 0
            have ht0 : V.cell? ⟨tb, 0, none⟩ = some (.int .i64 0) := hTn.t.cell 0
            have hk0 : V.cell? ⟨W.heap.size, 0, none⟩ = some (.int .i64 (pre.length : Int)) := hkb.cell 0
            have hTB : Blk V w6.heap.size 75 #[.slice A6 L.length c6] := (hTn.k3.same w6.heap.size (by omega) (HT7.out.grow HK9.out).lt).trans (HT7.out.grow HK9.out)
            have d0 : V.cell? ⟨w6.heap.size, 0, none⟩ = some (.slice A6 L.length c6) := hTB.cell 0
            have hnx := hTn.next hKd (by omega) (fun h => by have := (HT.out.ds D h).2.1; omega)
            have HNX := Lib.hid hnx
            clear hnx hTB hTn hkb hKd
            refine (wpIn_wide (n := 3)).2 ?_
            by_cases hfl : (pre.length : Int) = (L.length : Int)
            · have hfb : ((pre.length : Int) != (L.length : Int)) = false := by simpa using hfl
              clear hfl
              go_wp2_with fail
              refine HK.out _ _ (Handed.intro (m - 1) (by omega) (HJ.out _ _ _ ⟨1, V.heap.size, D :: Ds, (frame_of _ _ _ _ _ _ _ _ (by rfl) (by rfl) (by rfl) (by rfl) (by rfl) (by rfl) (by rfl) (by rfl)).imp fun us h => ⟨by omega, HNX.out, h, rfl⟩⟩))
            · have hfb : ((pre.length : Int) != (L.length : Int)) = true := by simpa using hfl
              clear hfl
              go_wp2_with fail
              refine HK.out _ _ (Handed.intro (m - 1) (by omega) (HJ.out _ _ _ ⟨1, V.heap.size, D :: Ds, (frame_of _ _ _ _ _ _ _ _ (by rfl) (by rfl) (by rfl) (by rfl) (by rfl) (by rfl) (by rfl) (by rfl)).imp fun us h => ⟨by omega, HNX.out, h, rfl⟩⟩))
end Go.Proofs.Ytcigobiolbojhaa.Vb

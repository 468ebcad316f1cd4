/- Joined by program: Part15b Best15 Wo15 RefBids RefLower RefLeast PlainG RefSteps RefPay. -/
import Derived.Test.YtcigobiolbojhaaGreatZh
import Derived.Test.YtcigobiolbojhaaGreatZd
import Derived.Test.YtcigobiolbojhaaGreatZa
import Derived.Test.YtcigobiolbojhaaGreatZe
import Derived.Test.YtcigobiolbojhaaGreatZg
/- The reference of layer 15: Part. -/
namespace Go.Proofs.YtcigobiolbojhaaGreat.Vb
open Go.RowKit

set_option maxRecDepth 100000 in
set_option maxHeartbeats 3200000 in
theorem part15_any (m S : Nat) (hS : S = 2 ^ m) (bs : List (List Off)) (v : Value) (R : Nat → Prop) (w : World) (hl : Buys w R v bs) (hi : instE (m : Int) bs = 0) :
    Calls Tryz.prog 89 #[.agg #[.int .i64 (m : Int), v], .int .i64 0, .int .u32 ((S - 1 : Nat) : Int)] w fun e w' => ∃ A' cap', e = .returned (.tuple #[.agg #[.slice A' bs.length cap', .int .i64 (W bs (S - 1))], .int .i64 0]) ∧
      w'.ownsRow w.heap.size 3 1 (.slice A' bs.length cap') bs.length (ints (choose bs (S - 1))) ∧ Below w.heap.size w w' := by
  have hok := (okb_of hl.wf hi).1
  obtain ⟨hn1, hn2, hl32, _⟩ := instE_zero hi
  have hm0 : 1 ≤ m := by omega
  have hm1 : m ≤ 10 := by omega
  have hS1 : S ≤ 1024 := by rw [hS]; exact Nat.le_trans (Nat.pow_le_pow_right (by omega) hm1) (by decide)
  have hS0 : 0 < S := by rw [hS]; exact Nat.two_pow_pos m
  have hcv : IntKind.i64.wrap ((S - 1 : Nat) : Int) = ((S - 1 : Nat) : Int) := IntWalk.i64_in _ (by omega)
  obtain ⟨vs, ⟨_, A, cap, rfl, hnc, hcm, hcs⟩, hvs⟩ := id hl
  have HB := Lib.hid hl
  have HI := Lib.hid hi
  have HS := Lib.hid hS
  have HOK := Lib.hid hok
  have HCS := Lib.hid hcs
  have HVS := Lib.hid hvs
  clear hl hi hS hok hcs hvs hcm
  go_enter Tryz.func89, Tryz.ntmps89
  go_wp2_with fail
  refine (wrong15_any m S hm1 HS.out bs _ R _ ((HB.out.alloc _).alloc _) HI.out).mono ?_
  rintro e w0 ⟨rfl, hb0⟩
  obtain ⟨hX, hP, hs0, hbw⟩ := two_blk' hb0
  have x0 : w0.cell? ⟨w.heap.size, 0, none⟩ = some (.int .i64 m) := hX.cell 0
  have x1 : w0.cell? ⟨w.heap.size, 1, none⟩ = some (.slice A bs.length cap) := hX.cell 1
  have HX := Lib.hid hX
  have HP := Lib.hid hP
  have HBW0 := Lib.hid hbw
  clear hX hP hb0 hbw
  go_wp2_with fail
  refine (table15_any m S hm0 hm1 HS.out bs _ R _ (HB.out.grow HBW0.out) HOK.out).mono ?_
  rintro e w1 ⟨gT, hi, F, rfl, hT, hg, hb1⟩
  have HX1 := Lib.hid (HX.out.grow hb1)
  have HP1 := Lib.hid (HP.out.grow hb1)
  have HBW := Lib.hid (HBW0.out.trans (hb1.mono (by omega)))
  have HT := Lib.hid hT
  have hs1 := hb1.size
  obtain ⟨g0, _, c0, c1⟩ := hT.at (k := 0) (Nat.le_refl _) (Nat.zero_le _)
  have c2 := c1 (S - 1) (by omega)
  have hS2 : S - 1 < S := by omega
  have x1' : w1.cell? ⟨w.heap.size, 1, none⟩ = some (.slice A bs.length cap) := HX1.out.cell 1
  rw [List.drop_zero] at c2
  clear hb1 hT x0 x1 c1
  go_wp2_with fail
  obtain ⟨wc, hwc⟩ : ∃ V, V = w1.alloc (.cells #[.slice none 0 0, .int .i64 (W bs (S - 1))] 111) := ⟨_, rfl⟩
  have HC := Lib.hid (show Blk wc w1.heap.size 111 #[.slice none 0 0, .int .i64 (W bs (S - 1))] from by rw [hwc]; exact Blk.new w1 _ _)
  have HCB := Lib.hid (show Below w1.heap.size w1 wc from by rw [hwc]; exact (Below.refl _ _).alloc (Nat.le_refl _) _)
  have hsc : wc.heap.size = w1.heap.size + 1 := by rw [hwc]; simp
  rw [← hwc]
  clear hwc c0 c2 x1' hg
  go_loopw [11, 12] (fun fr i wr => ∃ (k fi : Nat) (cs : List Int) (A' : Option Addr) (cap' : Nat), k ≤ bs.length ∧ i = .int .i64 k ∧ fr = .int .i64 fi ∧ fi < S ∧ choose bs (S - 1) = cs ++ choose (bs.drop k) fi ∧
      Blk wr w1.heap.size 111 #[.slice A' k cap', .int .i64 (W bs (S - 1))] ∧ wr.ownsRow (w1.heap.size + 1) 3 1 (.slice A' k cap') k (ints cs) ∧ Below w1.heap.size w1 wr)
    (fun _ i _ => bs.length - (intOf i).toNat)
  case atStart => exact ⟨0, S - 1, [], none, 0, Nat.zero_le _, rfl, rfl, by omega, rfl, HC.out, World.ownsRow_nil _ _ _ _, HCB.out⟩
  case round =>
    obtain ⟨wo, rfl⟩ : ∃ wo : World, wo = wr := ⟨_, rfl⟩
    obtain ⟨k, fi, cs, A', cap', hk, rfl, rfl, hfi, hch, hcb, hown, hb⟩ := hrel
    have HOWN := Lib.hid hown
    have HCH := Lib.hid hch
    have HCBK := Lib.hid hcb
    have HBB := Lib.hid hb
    have hxo : Blk wo w.heap.size 24 #[.int .i64 m, .slice A bs.length cap] := HX1.out.below hb (by omega)
    have o1 : wo.cell? ⟨w.heap.size, 1, none⟩ = some (.slice A bs.length cap) := hxo.cell 1
    have hbo : Below w.heap.size w wo := HBW.out.trans (hb.mono (by omega))
    have hto := HT.out.grow hb
    have hlo := hb.size
    have hclt := hcb.lt
    by_cases hlt : k < bs.length
    · obtain ⟨bq, off, rfl, _, hbq, hcs⟩ := HCS.out (by omega)
      obtain ⟨l, hl⟩ : ∃ l, bs[k]? = some l := ⟨_, List.getElem?_eq_getElem hlt⟩
      obtain ⟨u, hu, hol⟩ := HVS.out k l hl
      have cl := hcs k u hu
      have HL := Lib.hid hl
      have hl8 : l.length ≤ 8 := HOK.out.len hl
      obtain ⟨⟨_, A1, cap1, rfl, hnc1, hcm1, hcs1⟩, _⟩ := hol
      unfold maxLen at hcm1
      have q0 := (hbo.cell hbq).trans cl
      have HC1 := Lib.hid hcs1
      have HCL := Lib.hid cl
      have HXO := Lib.hid hxo
      have HBO := Lib.hid hbo
      have HTO := Lib.hid hto
      have hk0 : (0 : Int) ≤ (k : Int) := by omega
      clear hcs hu hl hcs1 cl hxo hbo hto hb hown hch hcb
      go_wp2_with fail
      clear o1 q0
      go_loopw [13, 14] (fun nn i wr2 => ∃ (j : Nat) (z : Int), j ≤ l.length ∧ i = .int .i64 ((j : Int) - 1) ∧ nn = .int .i64 z ∧ ((z = -1 ∧ ∀ (i : Nat) (x : Off), j ≤ i → l[i]? = some x → pickB (W (bs.drop (k + 1))) fi (W (bs.drop k) fi) x = false) ∨
            ∃ (jj : Nat) (o : Off), z = jj ∧ l[jj]? = some o ∧ pickB (W (bs.drop (k + 1))) fi (W (bs.drop k) fi) o = true ∧ j ≤ jj ∧ ∀ (i : Nat) (x : Off), j ≤ i → i < jj → l[i]? = some x → pickB (W (bs.drop (k + 1))) fi (W (bs.drop k) fi) x = false) ∧
          Below wo.heap.size wo wr2)
        (fun _ i _ => (intOf i + 1).toNat)
      case atStart => exact ⟨l.length, -1, Nat.le_refl _, by go_num, rfl, .inl ⟨rfl, fun i x h hx => by have := (List.getElem?_eq_some_iff.1 hx).1; omega⟩, Below.refl _ _⟩
      case round =>
        obtain ⟨j1, z, hj, rfl, rfl, hnn, hb2⟩ := hrel
        have hx2 : Blk wr w.heap.size 24 #[.int .i64 m, .slice (some ⟨bq, off, none⟩) bs.length cap] := HXO.out.grow hb2
        have x1 : wr.cell? ⟨w.heap.size, 1, none⟩ = some (.slice (some ⟨bq, off, none⟩) bs.length cap) := hx2.cell 1
        have hbw2 : Below w.heap.size w wr := HBO.out.trans (hb2.mono (by omega))
        have q1 := (hbw2.cell hbq).trans HCL.out
        have ht2 := HTO.out.grow hb2
        have hl2 := hb2.size
        have HB2 := Lib.hid hb2
        cases j1 with
        | zero =>
          rcases hnn with ⟨rfl, hno⟩ | ⟨jj, o, rfl, ho, hpb, _, hno⟩
          · have hpn : pickN (W (bs.drop (k + 1))) fi (W (bs.drop k) fi) l = (-1, fi) := pickN_none fun i x hx hl => hno i x (Nat.zero_le _) hl
            have HPN := Lib.hid hpn
            have HOT := Lib.hid (own_grow HOWN.out hb2)
            have HCT := Lib.hid (HCBK.out.grow hb2)
            have d0 : wr.cell? ⟨w1.heap.size, 0, none⟩ = some (.slice A' k cap') := HCT.out.cell 0
            clear hno hb2 hpn hx2 hbw2 ht2
            go_wp2_with (at_builtin; refine wpList_app _ rfl (.tmp 103) (.tmp 105) et_int rfl (w1.heap.size + 1) (.slice A' k cap') k (ints cs) rfl (HOT.out.alloc _) _ _ 1 _ rfl (Sl.new wr #[.int .i64 (-1)] _ 1 1 (by unfold maxLen; omega) rfl) (by simp [Value.oneCell']) (by omega) (by unfold maxLen; omega) (by simp; omega) ?_; intro A3 cap3 w3 hown3 hg3 _; have h3c := (HCT.out.alloc (.cells #[.int .i64 (-1)] 3)).grown hg3 (fun e => by have := (HOT.out.lt _ e.symm).1; omega); have s0 : w3.cell? ⟨w1.heap.size, 0, none⟩ = some (.slice A' k cap') := h3c.cell 0; have s1 := h3c.frozen 0; have hb3 : Below w1.heap.size w1 (w3.setCell ⟨w1.heap.size, 0, none⟩ (.slice A3 (k + 1) cap3)) := (((HBB.out.trans (HB2.out.mono hlo)).alloc (by omega) _).grown hg3 (by simp; omega) (fun g e => by have := (HOT.out.lt g e).1; omega)).setCell (p := ⟨w1.heap.size, 0, none⟩) (by simp) _; have HC3 := Lib.hid h3c; have HO3 := Lib.hid hown3; have HB3 := Lib.hid hb3; clear h3c hown3 hg3 hb3)
            go_roundw
            case rel =>
              refine ⟨k + 1, fi, cs ++ [(-1)], A3, cap3, by omega, by go_num, rfl, hfi, ?_, HC3.out.set_ 0 (.slice A3 (k + 1) cap3), ?_, HB3.out⟩
              · rw [HCH.out, choose_drop HL.out fi, HPN.out]
                simp
              · have := own_lo HO3.out (grownBy_setCell w3 ⟨w1.heap.size, 0, none⟩ (.slice A3 (k + 1) cap3)) (fun g e => by simp at e; omega)
                simpa [ints] using this
            case measure => simp [intOf]; omega
          · have hpn := pickN_some ho hpb (fun i x hi hx => hno i x (Nat.zero_le _) hi hx)
            have hjl : jj < l.length := (List.getElem?_eq_some_iff.1 ho).1
            obtain ⟨b1, off1, rfl, _, hb1, hcs1⟩ := HC1.out (by omega)
            have o0 := (hbw2.cell hb1).trans (hcs1 _ _ (Off.all_fst l jj o ho))
            obtain ⟨ho1, ho2, ho3, ho4⟩ := HOK.out.offer HL.out ho
            have hwrap : IntKind.i64.wrap (o.g : Int) = o.g := IntWalk.i64_in _ (by omega)
            have hfo : andNot fi o.g < S := Nat.lt_of_le_of_lt (andNot_le _ _) hfi
            have hfit : andNot o.g fi = 0 := by
              simp [pickB] at hpb
              exact hpb.1
            have hsub : IntKind.i64.wrap ((fi : Int) - (o.g : Int)) = ((andNot fi o.g : Nat) : Int) := by rw [sub_andNot (by omega) (by omega) ((sub_iff (by omega) (by omega)).2 hfit)]; exact IntWalk.i64_in _ (by omega)
            have hjj : (0 : Int) ≤ (jj : Int) := by omega
            have HPN := Lib.hid hpn
            have HOT := Lib.hid (own_grow HOWN.out hb2)
            have HCT := Lib.hid (HCBK.out.grow hb2)
            have d0 : wr.cell? ⟨w1.heap.size, 0, none⟩ = some (.slice A' k cap') := HCT.out.cell 0
            have HXC1 := Lib.hid (show w1.cell? ⟨w.heap.size, 1, none⟩ = some (.slice (some ⟨bq, off, none⟩) bs.length cap) from HX1.out.cell 1)
            have HXC2 := Lib.hid ((HBW.out.cell hbq).trans HCL.out)
            have HXC3 := Lib.hid ((HBW.out.cell hb1).trans (hcs1 _ _ (Off.all_fst l jj o ho)))
            clear hno hb2 hpn hx2 hbw2 ht2 ho hpb hcs1 hfit
            go_wp2_with (at_builtin; refine wpList_app _ rfl (.tmp 103) (.tmp 105) et_int rfl (w1.heap.size + 1) (.slice A' k cap') k (ints cs) rfl (HOT.out.alloc _) _ _ 1 _ rfl (Sl.new wr #[.int .i64 ((jj : Nat))] _ 1 1 (by unfold maxLen; omega) rfl) (by simp [Value.oneCell']) (by omega) (by unfold maxLen; omega) (by simp; omega) ?_; intro A3 cap3 w3 hown3 hg3 _; have h3c := (HCT.out.alloc (.cells #[.int .i64 ((jj : Nat))] 3)).grown hg3 (fun e => by have := (HOT.out.lt _ e.symm).1; omega); have s0 : w3.cell? ⟨w1.heap.size, 0, none⟩ = some (.slice A' k cap') := h3c.cell 0; have s1 := h3c.frozen 0; have hb3 : Below w1.heap.size w1 (w3.setCell ⟨w1.heap.size, 0, none⟩ (.slice A3 (k + 1) cap3)) := (((HBB.out.trans (HB2.out.mono hlo)).alloc (by omega) _).grown hg3 (by simp; omega) (fun g e => by have := (HOT.out.lt g e).1; omega)).setCell (p := ⟨w1.heap.size, 0, none⟩) (by simp) _; obtain ⟨y1, y2, y3⟩ : (w3.setCell ⟨w1.heap.size, 0, none⟩ (.slice A3 (k + 1) cap3)).cell? ⟨w.heap.size, 1, none⟩ = some (.slice (some ⟨bq, off, none⟩) bs.length cap) ∧ (w3.setCell ⟨w1.heap.size, 0, none⟩ (.slice A3 (k + 1) cap3)).cell? ⟨bq, off + k, none⟩ = some (.slice (some ⟨b1, off1, none⟩) l.length cap1) ∧ (w3.setCell ⟨w1.heap.size, 0, none⟩ (.slice A3 (k + 1) cap3)).cell? ⟨b1, off1 + jj * 2, none⟩ = some (.int .u32 o.g) := ⟨(hb3.cell (p := ⟨w.heap.size, 1, none⟩) (by simp; omega)).trans HXC1.out, (hb3.cell (p := ⟨bq, off + k, none⟩) (by simp; omega)).trans HXC2.out, (hb3.cell (p := ⟨b1, off1 + jj * 2, none⟩) (by simp; omega)).trans HXC3.out⟩; have HC3 := Lib.hid h3c; have HO3 := Lib.hid hown3; have HB3 := Lib.hid hb3; clear h3c hown3 hg3 hb3)
            go_roundw
            case rel =>
              refine ⟨k + 1, andNot fi o.g, cs ++ [((jj : Nat) : Int)], A3, cap3, by omega, by go_num, rfl, hfo, ?_, HC3.out.set_ 0 (.slice A3 (k + 1) cap3), ?_, HB3.out⟩
              · rw [HCH.out, choose_drop HL.out fi, HPN.out]
                simp
              · have := own_lo HO3.out (grownBy_setCell w3 ⟨w1.heap.size, 0, none⟩ (.slice A3 (k + 1) cap3)) (fun g e => by simp at e; omega)
                simpa [ints] using this
            case measure => simp [intOf]; omega
        | succ j =>
          have hlj : j < l.length := by omega
          have hji : (((j + 1 : Nat) : Int) - 1) = (j : Int) := by omega
          rw [hji]
          obtain ⟨b1, off1, rfl, _, hb1, hcs1⟩ := HC1.out (by omega)
          obtain ⟨o, ho⟩ : ∃ o, l[j]? = some o := ⟨_, List.getElem?_eq_getElem hlj⟩
          have o0 := (hbw2.cell hb1).trans (hcs1 _ _ (Off.all_fst l j o ho))
          have o1 : wr.cell? ⟨b1, off1 + j * 2 + 1, none⟩ = some (.int .i64 o.c) := (hbw2.cell hb1).trans (hcs1 _ _ (Off.all_snd l j o ho))
          obtain ⟨ho1, ho2, ho3, ho4⟩ := HOK.out.offer HL.out ho
          have hB0 := W_nonneg (bs.drop (k + 1)) (andNot fi o.g)
          have hB1 := HOK.out.W_le (k + 1) (andNot fi o.g)
          have hwrap : IntKind.i64.wrap (o.g : Int) = o.g := IntWalk.i64_in _ (by omega)
          have hbits : bits .and .i64 (o.g : Int) (fi : Int) = ((o.g &&& fi : Nat) : Int) := i64_and_nat o.g fi (by omega) (by omega)
          have hfo : andNot fi o.g < S := Nat.lt_of_le_of_lt (andNot_le _ _) hfi
          obtain ⟨ga, _, p0, ps⟩ := ht2.at (k := k + 1) (Nat.zero_le _) (by omega)
          obtain ⟨gb, _, p2, ps2⟩ := ht2.at (k := k) (Nat.zero_le _) (by omega)
          have p1 := cellAlloc (ps _ hfo)
          have p3 := cellAlloc (ps2 _ hfi)
          have p0 := cellAlloc p0
          have p2 := cellAlloc p2
          have HO := Lib.hid ho
          have HNN := Lib.hid hnn
          have hge : (0 : Int) ≤ (k : Int) := by omega
          have hjn : (0 : Int) ≤ (j : Int) := by omega
          have hjn2 : (j : Int) < (l.length : Int) := by omega
          have hkn : (k : Int) < (bs.length : Int) := by omega
          clear hcs1 ho hnn hb2 hx2 hbw2 ht2 ps ps2
          have hkeep : ∀ (b : Bool), pickB (W (bs.drop (k + 1))) fi (W (bs.drop k) fi) o = b → b = false → ∀ wx : World, Below wo.heap.size wo wx → ((z = -1 ∧ ∀ (i : Nat) (x : Off), j ≤ i → l[i]? = some x → pickB (W (bs.drop (k + 1))) fi (W (bs.drop k) fi) x = false) ∨
            ∃ (jj : Nat) (o : Off), z = jj ∧ l[jj]? = some o ∧ pickB (W (bs.drop (k + 1))) fi (W (bs.drop k) fi) o = true ∧ j ≤ jj ∧ ∀ (i : Nat) (x : Off), j ≤ i → i < jj → l[i]? = some x → pickB (W (bs.drop (k + 1))) fi (W (bs.drop k) fi) x = false) := by
            intro b hb hbf _ _
            subst hbf
            rcases HNN.out with ⟨h1, h2⟩ | ⟨jj, x, h1, h2, h3, h4, h5⟩
            · refine .inl ⟨h1, fun i x hi hx => ?_⟩
              by_cases hij : i = j
              · subst hij; rw [HO.out] at hx; cases hx; exact hb
              · exact h2 i x (by omega) hx
            · refine .inr ⟨jj, x, h1, h2, h3, by omega, fun i y hi hlt hy => ?_⟩
              by_cases hij : i = j
              · subst hij; rw [HO.out] at hy; cases hy; exact hb
              · exact h5 i y (by omega) hlt hy
          have HKEEP := Lib.hid hkeep
          clear hkeep
          by_cases hfit : andNot o.g fi = 0
          · have hsf := (sub_iff (a := o.g) (f := fi) (by omega) (by omega)).2 hfit
            have hfb : (((o.g &&& fi : Nat) : Int) == (o.g : Int)) = true := by simp [hsf]
            have hsub : IntKind.i64.wrap ((fi : Int) - (o.g : Int)) = ((andNot fi o.g : Nat) : Int) := by rw [sub_andNot (by omega) (by omega) hsf]; exact IntWalk.i64_in _ (by omega)
            have HFI := Lib.hid hfit
            have hsum : IntKind.i64.wrap (o.c + W (bs.drop (k + 1)) (andNot fi o.g)) = o.c + W (bs.drop (k + 1)) (andNot fi o.g) := IntWalk.i64_in _ (by omega)
            have hk1 : IntKind.i64.wrap ((k : Int) + 1) = (k : Int) + 1 := IntWalk.i64_in _ (by omega)
            clear hfit hsf
            by_cases heq : o.c + W (bs.drop (k + 1)) (andNot fi o.g) = W (bs.drop k) fi
            · have hpb : pickB (W (bs.drop (k + 1))) fi (W (bs.drop k) fi) o = true := by simp [pickB, HFI.out, heq]
              have HPB := Lib.hid hpb
              have heb : (o.c + W (bs.drop (k + 1)) (andNot fi o.g) == W (bs.drop k) fi) = true := by simp [heq]
              clear heq hpb
              go_wp2_with fail
              go_quiet (fail)
              go_wp2_with fail
              go_roundw
              case rel =>
                exact ⟨j, _, by omega, by go_num, rfl, .inr ⟨j, o, rfl, HO.out, HPB.out, Nat.le_refl _, fun i x h1 h2 => by omega⟩, below_drewN (HB2.out.alloc (by omega) _) _⟩
              case measure => simp [intOf]
            · have hpb : pickB (W (bs.drop (k + 1))) fi (W (bs.drop k) fi) o = false := by simp [pickB, heq]
              have HPB := Lib.hid hpb
              have heb : (o.c + W (bs.drop (k + 1)) (andNot fi o.g) == W (bs.drop k) fi) = false := by simp [heq]
              clear heq hpb
              go_wp2_with fail
              go_quiet (fail)
              go_wp2_with fail
              go_roundw
              case rel =>
                exact ⟨j, _, by omega, by go_num, rfl, HKEEP.out _ HPB.out rfl _ (Below.refl _ _), below_drewN (HB2.out.alloc (by omega) _) _⟩
              case measure => simp [intOf]
          · have hfb : (((o.g &&& fi : Nat) : Int) == (o.g : Int)) = false := by have := mt (sub_iff (a := o.g) (f := fi) (by omega) (by omega)).1 hfit; simpa using (by omega : ¬ ((o.g &&& fi : Nat) : Int) = (o.g : Int))
            have hpb : pickB (W (bs.drop (k + 1))) fi (W (bs.drop k) fi) o = false := by simp [pickB, hfit]
            have HPB := Lib.hid hpb
            clear hfit hpb
            go_wp2_with fail
            go_quiet (fail)
            go_wp2_with fail
            go_roundw
            case rel =>
              exact ⟨j, _, by omega, by go_num, rfl, HKEEP.out _ HPB.out rfl _ (Below.refl _ _), below_drewN (HB2.out.alloc (by omega) _) _⟩
            case measure => simp [intOf]
    · obtain rfl : k = bs.length := by omega
      have hcs : choose bs (S - 1) = cs := by rw [hch]; simp [choose]
      have HCC := Lib.hid hcs
      have HBO := Lib.hid hbo
      have d0 : wo.cell? ⟨w1.heap.size, 0, none⟩ = some (.slice A' bs.length cap') := hcb.cell 0
      have d1 : wo.cell? ⟨w1.heap.size, 1, none⟩ = some (.int .i64 (W bs (S - 1))) := hcb.cell 1
      have hpo : Blk wo (w.heap.size + 1) 111 #[.slice none 0 0, .int .i64 0] := HP1.out.below HBB.out (by omega)
      have p0 : wo.cell? ⟨w.heap.size + 1, 0, none⟩ = some (.slice none 0 0) := hpo.cell 0
      have p1 : wo.cell? ⟨w.heap.size + 1, 1, none⟩ = some (.int .i64 0) := hpo.cell 1
      have p2 := hpo.frozen 0
      have p3 := hpo.frozen 1
      have HPO := Lib.hid hpo
      clear hcs hch hown hb hxo hbo hto hcb hpo
      go_wp2_with fail
      have hq := (HPO.out.set_ 0 (.slice A' bs.length cap')).set_ 1 (.int .i64 (W bs (S - 1)))
      have q0 : ((wo.setCell ⟨w.heap.size + 1, 0, none⟩ (.slice A' bs.length cap')).setCell ⟨w.heap.size + 1, 1, none⟩ (.int .i64 (W bs (S - 1)))).cell? ⟨w.heap.size + 1, 0, none⟩ = some (.slice A' bs.length cap') := hq.cell 0
      have q1 : ((wo.setCell ⟨w.heap.size + 1, 0, none⟩ (.slice A' bs.length cap')).setCell ⟨w.heap.size + 1, 1, none⟩ (.int .i64 (W bs (S - 1)))).cell? ⟨w.heap.size + 1, 1, none⟩ = some (.int .i64 (W bs (S - 1))) := hq.cell 1
      refine bodyPost_ret (v := .tuple #[.agg #[.slice A' bs.length cap', .int .i64 (W bs (S - 1))], .int .i64 0]) (by simp [results, Tryz.results89, go_sem, q0, q1]) rfl ⟨A', cap', rfl, ?_, ?_⟩
      · rw [HCC.out]
        refine own_mono (own_lo (own_lo HOWN.out (grownBy_setCell _ _ _) ?_) (grownBy_setCell _ _ _) ?_) (show w.heap.size ≤ w1.heap.size + 1 by omega)
        · intro g e; simp at e; omega
        · intro g e; simp at e; omega
      · exact (HBO.out.setCell (p := ⟨w.heap.size + 1, 0, none⟩) (by simp) _).setCell (p := ⟨w.heap.size + 1, 1, none⟩) (by simp) _
end Go.Proofs.YtcigobiolbojhaaGreat.Vb

/- The reference of layer 15: Best. -/
namespace Go.Proofs.YtcigobiolbojhaaGreat.Vb
open Go.RowKit

set_option maxHeartbeats 800000 in
theorem refBest15_err (n : Int) (bs : List (List Off)) (v : Value) (R : Nat → Prop) (w : World) (hl : Buys w R v bs) (hi : instE n bs ≠ 0) :
    Calls Tryz.prog 79 #[.agg #[.int .i64 n, v]] w fun e w' => e = .returned (.tuple #[.agg #[.slice none 0 0, .int .i64 0], .int .i64 (instE n bs)]) ∧ Below w.heap.size w w' := by
  obtain ⟨_, ⟨_, A, cap, rfl, _⟩, _⟩ := id hl
  have HB := Lib.hid hl
  have hne : (instE n bs != 0) = true := by simpa using hi
  clear hl hi
  go_enter Tryz.func79, Tryz.ntmps79
  go_wp2_with (go_at_call 35; refine (refInstance_any n bs _ R _ ((HB.out.alloc _).alloc _)).mono ?_; rintro e w1 ⟨rfl, hb1⟩; obtain ⟨hX, hP, hs1, hbw⟩ := two_blk' hb1; have p0 : w1.cell? ⟨w.heap.size + 1, 0, none⟩ = some (.slice none 0 0) := hP.cell 0; have p1 : w1.cell? ⟨w.heap.size + 1, 1, none⟩ = some (.int .i64 0) := hP.cell 1; have p2 := hP.frozen 0; have p3 := hP.frozen 1; have HP := Lib.hid hP; have HBW := Lib.hid hbw; clear hX hP hb1 hbw)
  have hq := (HP.out.set_ 0 (.slice none 0 0)).set_ 1 (.int .i64 0)
  have q0 : ((w1.setCell ⟨w.heap.size + 1, 0, none⟩ (.slice none 0 0)).setCell ⟨w.heap.size + 1, 1, none⟩ (.int .i64 0)).cell? ⟨w.heap.size + 1, 0, none⟩ = some (.slice none 0 0) := hq.cell 0
  have q1 : ((w1.setCell ⟨w.heap.size + 1, 0, none⟩ (.slice none 0 0)).setCell ⟨w.heap.size + 1, 1, none⟩ (.int .i64 0)).cell? ⟨w.heap.size + 1, 1, none⟩ = some (.int .i64 0) := hq.cell 1
  refine bodyPost_ret (v := .tuple #[.agg #[.slice none 0 0, .int .i64 0], .int .i64 (instE n bs)]) (by simp [results, Tryz.results79, go_sem, q0, q1]) rfl ⟨rfl, ?_⟩
  exact (HBW.out.setCell (p := ⟨w.heap.size + 1, 0, none⟩) (by simp) _).setCell (p := ⟨w.heap.size + 1, 1, none⟩) (by simp) _

set_option maxRecDepth 100000 in
set_option maxHeartbeats 1600000 in
theorem refBest15_ok (n : Int) (bs : List (List Off)) (v : Value) (R : Nat → Prop) (w : World) (hl : Buys w R v bs) (hi : instE n bs = 0) :
    Calls Tryz.prog 79 #[.agg #[.int .i64 n, v]] w fun e w' => ∃ A' cap', e = .returned (.tuple #[.agg #[.slice A' bs.length cap', .int .i64 (W bs (allOf n))], .int .i64 0]) ∧
      w'.ownsRow w.heap.size 3 1 (.slice A' bs.length cap') bs.length (ints (bestC n bs)) ∧ Below w.heap.size w w' := by
  obtain ⟨hn1, hn2, hl32, _⟩ := instE_zero hi
  obtain ⟨m, rfl⟩ := Int.eq_ofNat_of_zero_le (show 0 ≤ n by omega)
  have hm0 : 1 ≤ m := by omega
  have hm1 : m ≤ 10 := by omega
  obtain ⟨S, hS⟩ : ∃ S, S = 2 ^ m := ⟨_, rfl⟩
  have hal : bestC (m : Int) bs = choose bs (S - 1) := by unfold bestC; rw [allOf_nat hm1, hS]
  have hal2 : allOf (m : Int) = S - 1 := by rw [allOf_nat hm1, hS]
  obtain ⟨_, ⟨_, A, cap, rfl, _⟩, _⟩ := id hl
  rw [hal2, hal]
  have HB := Lib.hid hl
  have HI := Lib.hid hi
  have HS := Lib.hid hS
  clear hl hi hS hal hal2
  go_enter Tryz.func79, Tryz.ntmps79
  go_wp2_with (go_at_call 35; refine (refInstance_any (m : Int) bs _ R _ ((HB.out.alloc _).alloc _)).mono ?_; rintro e w1 ⟨rfl, hb1⟩; rw [HI.out]; obtain ⟨hX, hP, hs1, hbw⟩ := two_blk' hb1; have x0 : w1.cell? ⟨w.heap.size, 0, none⟩ = some (.int .i64 m) := hX.cell 0; have x1 : w1.cell? ⟨w.heap.size, 1, none⟩ = some (.slice A bs.length cap) := hX.cell 1; have HX := Lib.hid hX; have HP := Lib.hid hP; have HBW := Lib.hid hbw; clear hX hP hb1 hbw)
  refine wp_region_F (Below (w.heap.size + 1) w1) [] (by kernel_rfl) ((Below.refl _ _).drew) (fun hS => ?_)
  refine wpAnyF_take (i := 0) (oi := { dst := some 11, op := Go.Op.load 24 (Go.Operand.tmp 1), type := 24, pos := "ref.go:93", after := #[], guard := none }) (v := ?_) rfl (by kernel_rfl) (by kernel_rfl) (by kernel_rfl) (by kernel_rfl) (fun _ _ _ h => h) (Or.inl ⟨by rfl, ?_⟩) hS ?_
  rotate_left
  · intro w' hSw; have q1 := (hSw.cell (p := ⟨w.heap.size, 0, none⟩) (by simp <;> omega)).trans x0; have q2 := (hSw.cell (p := ⟨w.heap.size, 1, none⟩) (by simp <;> omega)).trans x1; go_simp; try with_reducible rfl
  try simp only [Act.put, List.setIfInBounds_toArray, List.set_cons_zero, List.set_cons_succ]
  refine wpAnyF_take (i := 1) (oi := { dst := some 12, op := Go.Op.load 24 (Go.Operand.tmp 1), type := 24, pos := "ref.go:93", after := #[], guard := none }) (v := ?_) rfl (by kernel_rfl) (by kernel_rfl) (by kernel_rfl) (by kernel_rfl) (fun _ _ _ h => h) (Or.inl ⟨by rfl, ?_⟩) hS ?_
  rotate_left
  · intro w' hSw; have q1 := (hSw.cell (p := ⟨w.heap.size, 0, none⟩) (by simp <;> omega)).trans x0; have q2 := (hSw.cell (p := ⟨w.heap.size, 1, none⟩) (by simp <;> omega)).trans x1; go_simp; try with_reducible rfl
  try simp only [Act.put, List.setIfInBounds_toArray, List.set_cons_zero, List.set_cons_succ]
  refine wpAnyF_ready (rs := [2]) (by kernel_rfl) (by simp) ?_
  refine AllReadyF.cons (o := { dst := some 13, op := Go.Op.call { callee := Go.Callee.value (Go.Operand.func 90), args := #[Go.Operand.tmp 12], argTypes := #[24] }, type := 51, pos := "ref.go:93", after := #[{ on := 1, ground := Go.Ground.data }], guard := none }) rfl (by rfl) (fun K hK => ?_) ?_
  · go_simp
    refine (whole15_any m S hm0 hm1 HS.out _ _ ⟨_, _, _, rfl⟩).mono ?_
    rintro e w2 ⟨rfl, hb2⟩
    refine hK.out _ _ ?_ (fun hS => ?_)
    · exact hS.trans (hb2.mono (by have := hS.size; simp at this ⊢; omega))
    clear hK K
    try simp only [Act.put, List.setIfInBounds_toArray, List.set_cons_zero, List.set_cons_succ]
    refine wpAnyF_ready (rs := [3]) (by kernel_rfl) (by simp) ?_
    refine AllReadyF.cons (o := { dst := some 14, op := Go.Op.call { callee := Go.Callee.value (Go.Operand.func 89), args := #[Go.Operand.tmp 11, Go.Operand.const (Go.Value.int Go.IntKind.i64 0), Go.Operand.tmp 13], argTypes := #[24, 3, 51] }, type := 153, pos := "ref.go:93", after := #[{ on := 0, ground := Go.Ground.data }, { on := 2, ground := Go.Ground.data }, { on := 2, ground := Go.Ground.chain }], guard := none }) rfl (by rfl) (fun K hK => ?_) ?_
    · go_simp
      refine (part15_any m S HS.out bs _ R _ (((HB.out.grow HBW.out).drew).grow hb2) HI.out).mono ?_
      rintro e w3 ⟨A3, c3, rfl, hown3, hb3⟩
      refine hK.out _ _ ?_ (fun hS => ?_)
      · exact hS.trans (hb3.mono (by have := hS.size; omega))
      clear hK K
      try simp only [Act.put, List.setIfInBounds_toArray, List.set_cons_zero, List.set_cons_succ]
      refine wpAnyF_take (i := 4) (oi := { dst := some 15, op := Go.Op.extract (Go.Operand.tmp 14) 0, type := 111, pos := "ref.go:93", after := #[{ on := 3, ground := Go.Ground.data }], guard := none }) (v := ?_) rfl (by kernel_rfl) (by kernel_rfl) (by kernel_rfl) (by kernel_rfl) (fun _ _ _ h => h) (Or.inl ⟨by rfl, ?_⟩) hS ?_
      rotate_left
      · intro w' hSw; have q1 := (hSw.cell (p := ⟨w.heap.size, 0, none⟩) (by simp <;> omega)).trans x0; have q2 := (hSw.cell (p := ⟨w.heap.size, 1, none⟩) (by simp <;> omega)).trans x1; go_simp; try with_reducible rfl
      try simp only [Act.put, List.setIfInBounds_toArray, List.set_cons_zero, List.set_cons_succ]
      refine wpAnyF_take (i := 5) (oi := { dst := some 16, op := Go.Op.extract (Go.Operand.tmp 14) 1, type := 3, pos := "ref.go:93", after := #[{ on := 3, ground := Go.Ground.data }], guard := none }) (v := ?_) rfl (by kernel_rfl) (by kernel_rfl) (by kernel_rfl) (by kernel_rfl) (fun _ _ _ h => h) (Or.inl ⟨by rfl, ?_⟩) hS ?_
      rotate_left
      · intro w' hSw; have q1 := (hSw.cell (p := ⟨w.heap.size, 0, none⟩) (by simp <;> omega)).trans x0; have q2 := (hSw.cell (p := ⟨w.heap.size, 1, none⟩) (by simp <;> omega)).trans x1; go_simp; try with_reducible rfl
      try simp only [Act.put, List.setIfInBounds_toArray, List.set_cons_zero, List.set_cons_succ]
      refine wpAnyF_ready (rs := [6]) (by kernel_rfl) (by simp) ?_
      refine AllReadyF.cons (o := { dst := none, op := Go.Op.store 111 (Go.Operand.tmp 2) (Go.Operand.tmp 15), type := 0, pos := "ref.go:93", after := #[{ on := 4, ground := Go.Ground.data }, { on := 3, ground := Go.Ground.chain }, { on := 0, ground := Go.Ground.phase }, { on := 1, ground := Go.Ground.phase }, { on := 2, ground := Go.Ground.phase }, { on := 3, ground := Go.Ground.phase }, { on := 4, ground := Go.Ground.phase }, { on := 5, ground := Go.Ground.phase }], guard := none }) rfl (by rfl) (fun K hK => ?_) ?_
      · have hP3 := (HP.out.drew.grow hb2).grow hb3
        have p0 : w3.cell? ⟨w.heap.size + 1, 0, none⟩ = some (.slice none 0 0) := hP3.cell 0
        have p1 : w3.cell? ⟨w.heap.size + 1, 1, none⟩ = some (.int .i64 0) := hP3.cell 1
        have p2 := hP3.frozen 0
        have p3 := hP3.frozen 1
        go_simp
        refine hK.out _ _ ?_ (fun hS => ?_)
        · exact (hS.setCell (p := ⟨w.heap.size + 1, 0, none⟩) (by simp) _).setCell (p := ⟨w.heap.size + 1, 1, none⟩) (by simp) _
        clear hK K
        try simp only [Act.put, List.setIfInBounds_toArray, List.set_cons_zero, List.set_cons_succ]
        refine wpAnyF_take (i := 7) (oi := { dst := some 3, op := Go.Op.assign (Go.Operand.tmp 16), type := 3, pos := "ref.go:93", after := #[{ on := 5, ground := Go.Ground.data }, { on := 6, ground := Go.Ground.chain }, { on := 0, ground := Go.Ground.phase }, { on := 1, ground := Go.Ground.phase }, { on := 2, ground := Go.Ground.phase }, { on := 3, ground := Go.Ground.phase }, { on := 4, ground := Go.Ground.phase }, { on := 5, ground := Go.Ground.phase }, { on := 6, ground := Go.Ground.phase }], guard := none }) (v := ?_) rfl (by kernel_rfl) (by kernel_rfl) (by kernel_rfl) (by kernel_rfl) (fun _ _ _ h => h) (Or.inl ⟨by rfl, ?_⟩) hS ?_
        rotate_left
        · intro w' hSw; have q1 := (hSw.cell (p := ⟨w.heap.size, 0, none⟩) (by simp <;> omega)).trans x0; have q2 := (hSw.cell (p := ⟨w.heap.size, 1, none⟩) (by simp <;> omega)).trans x1; go_simp; try with_reducible rfl
        try simp only [Act.put, List.setIfInBounds_toArray, List.set_cons_zero, List.set_cons_succ]
        refine wpAnyF_done (by kernel_rfl) ?_ _
        have hP3 := (HP.out.drew.grow hb2).grow hb3
        have hs2 := hb2.size
        simp at hs2
        have hs3 := hb3.size
        have hown4 := own_mono hown3 (show w.heap.size + 2 ≤ w2.heap.size by omega)
        have HP3 := Lib.hid hP3
        have HO3 := Lib.hid hown4
        have HB3 := Lib.hid (HBW.out.trans (hS.mono (by omega)))
        clear hP3 hown3 hown4 hb3 hb2 hS
        go_wp2_with fail
        have hq := (HP3.out.set_ 0 (.slice A3 bs.length c3)).set_ 1 (.int .i64 (W bs (S - 1)))
        have q0 : ((w3.setCell ⟨w.heap.size + 1, 0, none⟩ (.slice A3 bs.length c3)).setCell ⟨w.heap.size + 1, 1, none⟩ (.int .i64 (W bs (S - 1)))).cell? ⟨w.heap.size + 1, 0, none⟩ = some (.slice A3 bs.length c3) := hq.cell 0
        have q1 : ((w3.setCell ⟨w.heap.size + 1, 0, none⟩ (.slice A3 bs.length c3)).setCell ⟨w.heap.size + 1, 1, none⟩ (.int .i64 (W bs (S - 1)))).cell? ⟨w.heap.size + 1, 1, none⟩ = some (.int .i64 (W bs (S - 1))) := hq.cell 1
        refine bodyPost_ret (v := .tuple #[.agg #[.slice A3 bs.length c3, .int .i64 (W bs (S - 1))], .int .i64 0]) (by simp [results, Tryz.results79, go_sem, q0, q1]) rfl ⟨A3, c3, rfl, ?_, HB3.out⟩
        refine own_mono (own_lo (own_lo HO3.out (grownBy_setCell _ _ _) ?_) (grownBy_setCell _ _ _) ?_) (show w.heap.size ≤ w.heap.size + 2 by omega)
        · intro g e; simp at e; omega
        · intro g e; simp at e; omega
      exact AllReadyF.nil
    exact AllReadyF.nil
  exact AllReadyF.nil
end Go.Proofs.YtcigobiolbojhaaGreat.Vb

/- The reference of layer 15: Without. -/
namespace Go.Proofs.YtcigobiolbojhaaGreat.Vb
open Go.RowKit

set_option maxRecDepth 100000 in
set_option maxHeartbeats 1600000 in
theorem refWithout15_ok (n : Int) (bs : List (List Off)) (buyer : Int) (v : Value) (R : Nat → Prop) (w : World) (hl : Buys w R v bs) (he : withE n bs buyer [] = 0) :
    Calls Tryz.prog 91 #[.agg #[.int .i64 n, v], .int .i64 buyer] w fun e w' => ∃ A' m' cap', e = .returned (.tuple #[.agg #[.slice A' m' cap', .int .i64 (W (bs.set buyer.toNat []) (allOf n))], .int .i64 0]) ∧ Below w.heap.size w w' := by
  obtain ⟨vs, ⟨_, A, cap, rfl, _⟩, _⟩ := id hl
  have HB := Lib.hid hl
  have hI := instE_nil (i := buyer.toNat) (withE_inst he)
  have HE := Lib.hid he
  have HI := Lib.hid hI
  clear hl he hI
  go_enter Tryz.func91, Tryz.ntmps91
  go_wp2_with fail
  refine (refWith_ok n bs buyer [] _ _ R (fun _ => True) _ ((HB.out.alloc _).alloc _) (Offs.nil _ _) HE.out).mono ?_
  rintro e w1 ⟨A1, cap1, rfl, hob, hb1⟩
  obtain ⟨hX, hP, hs1, hbw⟩ := two_blk' hb1
  have HOB := Lib.hid hob
  have HP := Lib.hid hP
  have HBW := Lib.hid hbw
  clear hX hP hb1 hbw hob
  go_wp2_with fail
  refine (refBest15_ok n (bs.set buyer.toNat []) (.slice A1 bs.length cap1) _ _ (HOB.out.alloc _) HI.out).mono ?_
  rintro e w2 ⟨A2, c2, rfl, _, hb2⟩
  rw [List.length_set]
  have hP2 := (HP.out.alloc _).grow hb2
  have p0 : w2.cell? ⟨w.heap.size + 1, 0, none⟩ = some (.slice none 0 0) := hP2.cell 0
  have p1 : w2.cell? ⟨w.heap.size + 1, 1, none⟩ = some (.int .i64 0) := hP2.cell 1
  have p2 := hP2.frozen 0
  have p3 := hP2.frozen 1
  have HP2 := Lib.hid hP2
  have HB2 := Lib.hid ((HBW.out.alloc HBW.out.size _).trans (hb2.mono (B' := w.heap.size) (by have := HBW.out.size; simp; omega)))
  clear hP2 hb2
  go_wp2_with fail
  have hq := (HP2.out.set_ 0 (.slice A2 bs.length c2)).set_ 1 (.int .i64 (W (bs.set buyer.toNat []) (allOf n)))
  have q0 : ((w2.setCell ⟨w.heap.size + 1, 0, none⟩ (.slice A2 bs.length c2)).setCell ⟨w.heap.size + 1, 1, none⟩ (.int .i64 (W (bs.set buyer.toNat []) (allOf n)))).cell? ⟨w.heap.size + 1, 0, none⟩ = some (.slice A2 bs.length c2) := hq.cell 0
  have q1 : ((w2.setCell ⟨w.heap.size + 1, 0, none⟩ (.slice A2 bs.length c2)).setCell ⟨w.heap.size + 1, 1, none⟩ (.int .i64 (W (bs.set buyer.toNat []) (allOf n)))).cell? ⟨w.heap.size + 1, 1, none⟩ = some (.int .i64 (W (bs.set buyer.toNat []) (allOf n))) := hq.cell 1
  refine bodyPost_ret (v := .tuple #[.agg #[.slice A2 bs.length c2, .int .i64 (W (bs.set buyer.toNat []) (allOf n))], .int .i64 0]) (by simp [results, Tryz.results91, go_sem, q0, q1]) rfl ⟨A2, _, c2, rfl, ?_⟩
  exact (HB2.out.setCell (p := ⟨w.heap.size + 1, 0, none⟩) (by simp) _).setCell (p := ⟨w.heap.size + 1, 1, none⟩) (by simp) _
end Go.Proofs.YtcigobiolbojhaaGreat.Vb

/- The reference of layer 18: Bids. -/
namespace Go.Proofs.YtcigobiolbojhaaGreat.Vb
open Go.RowKit

theorem et_bool : ElemT Tryz.prog 122 4 1 1 := elemT_of Tryz.underlying122 (by omega) (z := .bool false) (by kernel_rfl) rfl
def bools (l : List Bool) : List Value := l.map Value.bool
def winL (n : Int) (bs : List (List Off)) : List Bool := (List.range bs.length).map (winB (bestC n bs))
theorem winL_len (n : Int) (bs : List (List Off)) : (winL n bs).length = bs.length := by simp [winL]
theorem winL_get {n : Int} {bs : List (List Off)} {k : Nat} (h : k < bs.length) : (winL n bs)[k]? = some (winB (bestC n bs) k) := by simp [winL, h]

set_option maxHeartbeats 800000 in
theorem refBids_err (n : Int) (bs : List (List Off)) (v : Value) (R : Nat → Prop) (w : World) (hl : Buys w R v bs) (hi : instE n bs ≠ 0) :
    Calls Tryz.prog 63 #[.agg #[.int .i64 n, v]] w fun e w' => e = .returned (.tuple #[.slice none 0 0, .slice none 0 0, .int .i64 (instE n bs)]) ∧ Below w.heap.size w w' := by
  obtain ⟨_, ⟨_, A, cap, rfl, _⟩, _⟩ := id hl
  have HB := Lib.hid hl
  have HI := Lib.hid hi
  have hne : (instE n bs != 0) = true := by simpa using hi
  clear hl hi
  go_enter Tryz.func63, Tryz.ntmps63
  go_wp2_with fail
  refine (refBest15_err n bs _ R _ (HB.out.alloc _) HI.out).mono ?_
  rintro e w1 ⟨rfl, hb1⟩
  have HB1 := Lib.hid (one_blk' hb1).2.2
  clear hb1
  go_wp2_with fail
  exact bodyPost_ret (v := .tuple #[.slice none 0 0, .slice none 0 0, .int .i64 (instE n bs)]) (by simp [results, Tryz.results63, go_sem]) rfl ⟨rfl, HB1.out.alloc HB1.out.size _⟩

set_option maxRecDepth 100000 in
set_option maxHeartbeats 3200000 in
theorem refBids_ok (n : Int) (bs : List (List Off)) (v : Value) (R : Nat → Prop) (w : World) (hl : Buys w R v bs) (hi : instE n bs = 0) :
    Calls Tryz.prog 63 #[.agg #[.int .i64 n, v]] w fun e w' => ∃ A1 c1 A2 c2, e = .returned (.tuple #[.slice A1 bs.length c1, .slice A2 bs.length c2, .int .i64 0]) ∧
      w'.ownsRow w.heap.size 2 1 (.slice A1 bs.length c1) bs.length (ints (bidsC n bs)) ∧ w'.ownsRow w.heap.size 4 1 (.slice A2 bs.length c2) bs.length (bools (winL n bs)) ∧ Below w.heap.size w w' := by
  obtain ⟨_, ⟨_, A, cap, rfl, _⟩, _⟩ := id hl
  have HB := Lib.hid hl
  have HI := Lib.hid hi
  have hl32 := (instE_zero hi).2.2.1
  clear hl hi
  go_enter Tryz.func63, Tryz.ntmps63
  go_wp2_with fail
  refine (refBest15_ok n bs _ R _ (HB.out.alloc _) HI.out).mono ?_
  rintro e w1 ⟨A1, c1, rfl, hown, hb1⟩
  obtain ⟨hX, hs1, hbw⟩ := one_blk' hb1
  have hown' : w1.ownsRow (w.heap.size + 1) 3 1 (.slice A1 bs.length c1) bs.length (ints (bestC n bs)) := by simpa using hown
  obtain ⟨w2, hw2⟩ : ∃ V, V = w1.alloc (.cells #[.slice A1 bs.length c1, .int .i64 (W bs (allOf n))] 111) := ⟨_, rfl⟩
  have hal := (Below.refl w1.heap.size w1).alloc (Nat.le_refl _) (.cells #[.slice A1 bs.length c1, .int .i64 (W bs (allOf n))] 111)
  have hC := Blk.new w1 111 #[.slice A1 bs.length c1, .int .i64 (W bs (allOf n))]
  have hs2 : w2.heap.size = w1.heap.size + 1 := by rw [hw2]; simp
  rw [← hw2] at hal hC
  have HX := Lib.hid (hX.grow hal)
  have HC := Lib.hid hC
  have HO := Lib.hid (own_grow hown' hal)
  have HBW := Lib.hid (hbw.trans (hal.mono hbw.size))
  clear hX hbw hown hown' hal hC hb1
  go_wp2_with fail
  rw [← hw2]
  clear hw2
  go_loopw [7, 8, 9] (fun s1 s2 i wr => ∃ (k : Nat) (B1 : Option Addr) (d1 : Nat) (B2 : Option Addr) (d2 : Nat), k ≤ bs.length ∧ i = .int .i64 k ∧ s1 = .slice B1 k d1 ∧ s2 = .slice B2 k d2 ∧
      wr.ownsRow w2.heap.size 2 1 (.slice B1 k d1) k (ints ((bidsC n bs).take k)) ∧ wr.ownsRow w2.heap.size 4 1 (.slice B2 k d2) k (bools ((winL n bs).take k)) ∧ Below w2.heap.size w2 wr) (fun _ _ i _ => bs.length - (intOf i).toNat)
  case atStart => exact ⟨0, none, 0, none, 0, Nat.zero_le _, rfl, rfl, rfl, World.ownsRow_nil _ _ _ _, World.ownsRow_nil _ _ _ _, Below.refl _ _⟩
  case round =>
    obtain ⟨k, B1, d1, B2, d2, hk, rfl, rfl, rfl, ho1, ho2, hb⟩ := hrel
    have hbw := HBW.out.trans (hb.mono HBW.out.size)
    have hXr := HX.out.grow hb
    have hCr := HC.out.grow hb
    have x1 : wr.cell? ⟨w.heap.size, 1, none⟩ = some (.slice A bs.length cap) := hXr.cell 1
    have d0 : wr.cell? ⟨w1.heap.size, 0, none⟩ = some (.slice A1 bs.length c1) := hCr.cell 0
    have hne1 : ∀ g, (Value.slice B1 k d1).ownBlock = some g → (Value.slice B2 k d2).ownBlock ≠ some g := fun g hg => own_ne ho1 ho2 (by decide) hg
    have HNE := Lib.hid hne1
    have HO1 := Lib.hid ho1
    have HO2 := Lib.hid ho2
    have HBB := Lib.hid hb
    have HBWR := Lib.hid hbw
    have hsz := hb.size
    clear hXr hCr hne1 ho1 ho2
    by_cases hlt : k < bs.length
    · obtain ⟨cn, hcn⟩ : ∃ c, (bestC n bs)[k]? = some c := ⟨_, List.getElem?_eq_getElem (by rw [bestC, choose_length]; exact hlt)⟩
      obtain ⟨gC, offC, c2, hAC, hgC, hc2, cc⟩ := (Sl.of_own (own_grow HO.out hb)).int_at hlt
      obtain rfl : cn = c2 := by rw [hcn] at hc2; injection hc2
      subst hAC
      have hbg := bidsC_get hcn
      have hwg := winL_get (n := n) hlt
      have hwb : winB (bestC n bs) k = decide (0 ≤ cn) := by unfold winB; rw [hcn]
      have htk1 : (bidsC n bs).take (k + 1) = (bidsC n bs).take k ++ [coinAt bs k cn] := by rw [List.take_add_one, hbg]; rfl
      have htk2 : (winL n bs).take (k + 1) = (winL n bs).take k ++ [decide (0 ≤ cn)] := by rw [List.take_add_one, hwg, hwb]; rfl
      have HT1 := Lib.hid htk1
      have HT2 := Lib.hid htk2
      have e1 : (0 : Int) ≤ (k : Int) := by omega
      have e2 : (k : Int) < (bs.length : Int) := by omega
      have hcase := choose_get bs (allOf n) k cn hcn
      clear hbg hwg hwb htk1 htk2 hc2 hcn hb hbw
      rcases hcase with rfl | ⟨j, l, o, rfl, hl, ho⟩
      · have HT1 := Lib.hid (show (bidsC n bs).take (k + 1) = (bidsC n bs).take k ++ [0] from by rw [HT1.out]; rfl)
        have HT2 := Lib.hid (show (winL n bs).take (k + 1) = (winL n bs).take k ++ [false] from by rw [HT2.out]; rfl)
        go_wp2_with (at_builtin; first
          | (refine wpList_app _ rfl (.tmp 33) (.tmp 34) et_i64 rfl w2.heap.size (.slice B1 k d1) k (ints ((bidsC n bs).take k)) rfl (HO1.out.alloc _) _ _ 1 _ rfl (Sl.new wr #[.int .i64 0] _ 1 1 (by unfold maxLen; omega) rfl) (by simp [Value.oneCell']) (by omega) (by unfold maxLen; omega) (by simp; omega) ?_; intro A5 c5 w5 hown5 hg5 _; have HG5 := Lib.hid hg5; have HO5 := Lib.hid hown5; have hs5 := hg5.size; simp at hs5; have HP5 := Lib.hid (own_far (own_alloc HO2.out (.cells #[.int .i64 0] 2)) hg5 (fun g e => HNE.out g e)); clear hown5 hg5)
          | (refine wpList_app _ rfl (.tmp 48) (.tmp 51) et_bool rfl w2.heap.size (.slice B2 k d2) k (bools ((winL n bs).take k)) rfl (HP5.out.alloc _) _ _ 1 _ rfl (Sl.new w5 #[.bool false] _ 1 1 (by unfold maxLen; omega) rfl) (by simp [Value.oneCell']) (by omega) (by unfold maxLen; omega) (by simp; omega) ?_; intro A6 c6 w6 hown6 hg6 _; have HG6 := Lib.hid hg6; have HO6 := Lib.hid hown6; have HP6 := Lib.hid (own_far (own_alloc HO5.out (.cells #[.bool false] 4)) hg6 (fun g e e2 => own_ne HO5.out HP5.out (by decide) e2 e)); clear hown6 hg6))
        go_roundw
        case rel =>
          refine ⟨k + 1, A5, c5, A6, c6, by omega, by go_num, rfl, rfl, ?_, ?_, ?_⟩
          · rw [HT1.out]; simpa [ints] using HP6.out
          · rw [HT2.out]; simpa [bools] using HO6.out
          · exact (((HBB.out.alloc (by omega) _).grown HG5.out (by simp; omega) (fun g e => (HO1.out.lt g e).1)).alloc (by omega) _).grown HG6.out (by simp; omega) (fun g e => (HP5.out.lt g e).1)
        case measure => simp [intOf]; omega
      · have HT1 := Lib.hid (show (bidsC n bs).take (k + 1) = (bidsC n bs).take k ++ [o.c] from by rw [HT1.out]; unfold coinAt; rw [if_neg (by omega)]; simp [hl, ho])
        have HT2 := Lib.hid (show (winL n bs).take (k + 1) = (winL n bs).take k ++ [true] from by rw [HT2.out, decide_eq_true (by omega)])
        obtain ⟨vs', ⟨_, A', cap', hv, _, _, hcs⟩, hvs⟩ := HB.out
        injection hv with hv1 _ hv2
        subst hv1 hv2
        obtain ⟨bq, off, rfl, _, hbq, hcell⟩ := hcs (by omega)
        obtain ⟨u, hu, hoff⟩ := hvs k l hl
        have hjl := (List.getElem?_eq_some_iff.mp ho).1
        obtain ⟨⟨_, A4, cap4, rfl, _⟩, _⟩ := id hoff
        obtain ⟨b2, off2, rfl, hb2, _, o1⟩ := hoff.at_ ho
        have q0 := (HBWR.out.cell (p := ⟨bq, off + k, none⟩) hbq).trans (hcell _ _ hu)
        have q1 := (HBWR.out.cell (p := ⟨b2, off2 + j * 2 + 1, none⟩) hb2).trans o1
        have e4 : (0 : Int) ≤ (j : Int) := by omega
        have e5 : (j : Int) < (l.length : Int) := by omega
        clear hl ho hu hoff o1 hcell hvs hcs
        go_wp2_with (at_builtin; first
          | (refine wpList_app _ rfl (.tmp 36) (.tmp 46) et_i64 rfl w2.heap.size (.slice B1 k d1) k (ints ((bidsC n bs).take k)) rfl (HO1.out.alloc _) _ _ 1 _ rfl (Sl.new wr #[.int .i64 o.c] _ 1 1 (by unfold maxLen; omega) rfl) (by simp [Value.oneCell']) (by omega) (by unfold maxLen; omega) (by simp; omega) ?_; intro A5 c5 w5 hown5 hg5 _; have HG5 := Lib.hid hg5; have HO5 := Lib.hid hown5; have hs5 := hg5.size; simp at hs5; have HP5 := Lib.hid (own_far (own_alloc HO2.out (.cells #[.int .i64 o.c] 2)) hg5 (fun g e => HNE.out g e)); clear hown5 hg5)
          | (refine wpList_app _ rfl (.tmp 48) (.tmp 51) et_bool rfl w2.heap.size (.slice B2 k d2) k (bools ((winL n bs).take k)) rfl (HP5.out.alloc _) _ _ 1 _ rfl (Sl.new w5 #[.bool true] _ 1 1 (by unfold maxLen; omega) rfl) (by simp [Value.oneCell']) (by omega) (by unfold maxLen; omega) (by simp; omega) ?_; intro A6 c6 w6 hown6 hg6 _; have HG6 := Lib.hid hg6; have HO6 := Lib.hid hown6; have HP6 := Lib.hid (own_far (own_alloc HO5.out (.cells #[.bool true] 4)) hg6 (fun g e e2 => own_ne HO5.out HP5.out (by decide) e2 e)); clear hown6 hg6))
        go_roundw
        case rel =>
          refine ⟨k + 1, A5, c5, A6, c6, by omega, by go_num, rfl, rfl, ?_, ?_, ?_⟩
          · rw [HT1.out]; simpa [ints] using HP6.out
          · rw [HT2.out]; simpa [bools] using HO6.out
          · exact (((HBB.out.alloc (by omega) _).grown HG5.out (by simp; omega) (fun g e => (HO1.out.lt g e).1)).alloc (by omega) _).grown HG6.out (by simp; omega) (fun g e => (HP5.out.lt g e).1)
        case measure => simp [intOf]; omega
    · obtain rfl : k = bs.length := by omega
      have h1 : (bidsC n bs).take bs.length = bidsC n bs := List.take_of_length_le (by rw [bidsC_length]; omega)
      have h2 : (winL n bs).take bs.length = winL n bs := List.take_of_length_le (by rw [winL_len]; omega)
      have HH1 := Lib.hid h1
      have HH2 := Lib.hid h2
      clear h1 h2 hb hbw
      go_wp2_with fail
      refine bodyPost_ret (v := .tuple #[.slice B1 bs.length d1, .slice B2 bs.length d2, .int .i64 0]) (by simp [results, Tryz.results63, go_sem]) rfl ⟨B1, d1, B2, d2, rfl, ?_, ?_, HBWR.out⟩
      · have := HO1.out; rw [HH1.out] at this; exact own_mono this (by omega)
      · have := HO2.out; rw [HH2.out] at this; exact own_mono this (by omega)
end Go.Proofs.YtcigobiolbojhaaGreat.Vb

/- The reference of layer 18: Lower. -/
namespace Go.Proofs.YtcigobiolbojhaaGreat.Vb
open Go.RowKit

set_option maxRecDepth 100000 in
set_option maxHeartbeats 1600000 in
theorem refLower18_any (n : Int) (bs : List (List Off)) (v : Value) (pay : List Int) (vb vp : Value) (Rb R Rx : Nat → Prop) (w : World) (hl : Buys w Rx v bs) (hd : Sl w Rb vb bs.length 1 (ints (bidsC n bs))) (hp : Sl w R vp pay.length 1 (ints pay))
    (hi : instE n bs = 0) (hok : payL pay (bidsC n bs) = true) :
    Calls Tryz.prog 92 #[.agg #[.int .i64 n, v], vb, vp] w fun e w' => ∃ A' cap', e = .returned (.agg #[.int .i64 n, .slice A' bs.length cap']) ∧ OwnBuys w' w.heap.size (.slice A' bs.length cap') (lowB n bs pay) ∧ Below w.heap.size w w' := by
  obtain ⟨hlen, hall⟩ := (payL_iff _ _).mp hok
  rw [bidsC_length] at hlen
  have hlen' : pay.length ≤ bs.length ∧ bs.length ≤ pay.length := by omega
  obtain ⟨hlen1, hlen2⟩ := hlen'
  clear hlen
  have hsm := instE_small hi
  have hpos : ∀ l ∈ bs, ∀ o ∈ l, 1 ≤ o.c := fun l hl' o ho => by
    obtain ⟨k, hk, rfl⟩ := List.getElem_of_mem hl'
    obtain ⟨j, hj, rfl⟩ := List.getElem_of_mem ho
    have h1 := ((okb_of hl.wf hi).1.offer (List.getElem?_eq_getElem hk) (List.getElem?_eq_getElem hj)).2.2.1
    omega
  have HWF := Lib.hid (Buys.wf hl)
  have HPOS := Lib.hid hpos
  have HSM := Lib.hid hsm
  have HI := Lib.hid hi
  have hl32 := (instE_zero hi).2.2.1
  have HB := Lib.hid hl
  have HS := Lib.hid hd
  have HP := Lib.hid hp
  have HALL := Lib.hid hall
  obtain ⟨_, Ap, capp, rfl, hncap, hcap, _⟩ := hp
  obtain ⟨_, Ab, capb, rfl, hncapb, hcapb, _⟩ := hd
  unfold maxLen at hcap hcapb
  obtain ⟨vs, ⟨_, Av, capv, rfl, _⟩, _⟩ := id hl
  clear hl hi hok hsm hall hpos
  go_enter Tryz.func92, Tryz.ntmps92
  go_wp2
  obtain ⟨W0, hW0⟩ : ∃ W0, W0 = ((w.alloc (.cells #[.int .i64 n, .slice Av bs.length capv] 24)).alloc (.cells #[.int .i64 0, .slice none 0 0] 24)).alloc (.cells #[.int .i64 n, .slice none 0 0] 24) := ⟨_, rfl⟩
  have HX0 := Lib.hid (show Blk W0 w.heap.size 24 #[.int .i64 n, .slice Av bs.length capv] from by rw [hW0]; exact ((Blk.new w _ _).alloc _).alloc _)
  have HR0 := Lib.hid (show Blk W0 (w.heap.size + 1) 24 #[.int .i64 0, .slice none 0 0] from by rw [hW0]; exact (Blk.new' _ _ (by simp)).alloc _)
  have HY0 := Lib.hid (show Blk W0 (w.heap.size + 2) 24 #[.int .i64 n, .slice none 0 0] from by rw [hW0]; exact Blk.new' _ _ (by simp))
  have HBW := Lib.hid (show Below w.heap.size w W0 from by rw [hW0]; exact (((Below.refl _ _).alloc (Nat.le_refl _) _).alloc (by simp) _).alloc (by simp; omega) _)
  have hs0 : W0.heap.size = w.heap.size + 3 := by rw [hW0]; simp
  rw [← hW0]
  clear hW0
  go_loopw [8] (fun i wr => ∃ (k : Nat) (A' : Option Addr) (cap' : Nat), k ≤ bs.length ∧ i = .int .i64 k ∧ OwnBuys wr (w.heap.size + 3) (.slice A' k cap') ((lowB n bs pay).take k) ∧ Blk wr (w.heap.size + 2) 24 #[.int .i64 n, .slice A' k cap'] ∧ Below (w.heap.size + 2) W0 wr)
    (fun i _ => bs.length - (intOf i).toNat)
  case atStart => exact ⟨0, none, 0, Nat.zero_le _, rfl, ⟨[], World.ownsRow_nil _ _ _ _, fun k l hk => by simp at hk⟩, HY0.out, Below.refl _ _⟩
  case round =>
    obtain ⟨k, A', cap', hk, rfl, hob, hy, hb⟩ := hrel
    have hbw := HBW.out.trans (hb.mono (B' := w.heap.size) (by omega))
    have hszr : w.heap.size + 3 ≤ wr.heap.size := by have := hb.size; omega
    have HOB := Lib.hid hob
    have HY := Lib.hid hy
    have HBR := Lib.hid hb
    have HBX := Lib.hid hbw
    clear hob hy hb hbw
    by_cases hlt : k < bs.length
    · obtain ⟨l, hl⟩ : ∃ l, bs[k]? = some l := ⟨_, List.getElem?_eq_getElem hlt⟩
      obtain ⟨bq, off, u, rfl, hbq, c0, hol⟩ := HB.out.at_ hl
      obtain ⟨bp, op, p, rfl, hbp, hp, cp⟩ := HP.out.int_at (k := k) (by omega)
      obtain ⟨bd, od, q, rfl, hbd, hq, cq⟩ := HS.out.int_at hlt
      have hpq := HALL.out k p q hp hq
      have hqb := coin_bd HI.out HWF.out hq
      have hll := HSM.out.2 l (List.mem_of_getElem? hl)
      have HLG := Lib.hid (lowB_get hl hp hq)
      obtain ⟨⟨_, A1, cap1, rfl, _⟩, _⟩ := id hol
      have HOL := Lib.hid (hol.grow HBX.out)
      have d0 := (HBX.out.cell (p := ⟨bq, off + k, none⟩) hbq).trans c0
      have dp := (HBX.out.cell (p := ⟨bp, op + k, none⟩) hbp).trans cp
      have dq := (HBX.out.cell (p := ⟨bd, od + k, none⟩) hbd).trans cq
      have hxr := HX0.out.below HBR.out (by omega)
      have dx : wr.cell? ⟨w.heap.size, 1, none⟩ = some (.slice (some ⟨bq, off, none⟩) bs.length capv) := hxr.cell 1
      have dy : wr.cell? ⟨w.heap.size + 2, 1, none⟩ = some (.slice A' k cap') := HY.out.cell 1
      have hpo := HPOS.out l (List.mem_of_getElem? hl)
      have HPO := Lib.hid hpo
      have e1 : (0 : Int) ≤ (k : Int) := by omega
      have e2 : (k : Int) < (bs.length : Int) := by omega
      have e3 : (k : Int) < (pay.length : Int) := by omega
      have hsub : IntKind.i64.wrap (q - p) = q - p := IntWalk.i64_in _ (by omega)
      obtain ⟨vs', hs', ho'⟩ := HOB.out
      have hlk : ((lowB n bs pay).take k).length = k := by rw [List.length_take, lowB_length]; omega
      rw [hlk] at hs'
      have HSR := Lib.hid hs'
      have HO' := Lib.hid ho'
      have HLK := Lib.hid hlk
      clear hl hp hq c0 cp cq hol hs' ho' hlk hxr hpo
      go_wp2_with fail
      refine wp_region_F (Below (w.heap.size + 3) wr) [20] (by kernel_rfl) ((Below.refl _ _).drew) (fun hS => ?_)
      refine wpAnyF_take (i := 0) (oi := { dst := some 19, op := Go.Op.fieldAddr 24 (Go.Operand.tmp 7) 1, type := 0, pos := "ref.go:56", after := #[], guard := none }) (v := ?_) rfl (by kernel_rfl) (by kernel_rfl) (by kernel_rfl) (by kernel_rfl) (fun _ _ _ h => h) (Or.inl ⟨by rfl, ?_⟩) hS ?_
      rotate_left
      · intro w' hSw; have q1 := (hSw.cell (p := ⟨bq, off + k, none⟩) (by simp <;> omega)).trans d0; have q2 := (hSw.cell (p := ⟨bp, op + k, none⟩) (by simp <;> omega)).trans dp; have q3 := (hSw.cell (p := ⟨bd, od + k, none⟩) (by simp <;> omega)).trans dq; have q4 := (hSw.cell (p := ⟨w.heap.size, 1, none⟩) (by simp <;> omega)).trans dx; have q5 := (hSw.cell (p := ⟨w.heap.size + 2, 1, none⟩) (by simp <;> omega)).trans dy; go_simp; try with_reducible rfl
      try simp only [Act.put, List.setIfInBounds_toArray, List.set_cons_zero, List.set_cons_succ]
      refine wpAnyF_take (i := 1) (oi := { dst := some 20, op := Go.Op.load 22 (Go.Operand.tmp 19), type := 22, pos := "ref.go:56", after := #[{ on := 0, ground := Go.Ground.data }], guard := none }) (v := ?_) rfl (by kernel_rfl) (by kernel_rfl) (by kernel_rfl) (by kernel_rfl) (fun _ _ _ h => h) (Or.inl ⟨by rfl, ?_⟩) hS ?_
      rotate_left
      · intro w' hSw; have q1 := (hSw.cell (p := ⟨bq, off + k, none⟩) (by simp <;> omega)).trans d0; have q2 := (hSw.cell (p := ⟨bp, op + k, none⟩) (by simp <;> omega)).trans dp; have q3 := (hSw.cell (p := ⟨bd, od + k, none⟩) (by simp <;> omega)).trans dq; have q4 := (hSw.cell (p := ⟨w.heap.size, 1, none⟩) (by simp <;> omega)).trans dx; have q5 := (hSw.cell (p := ⟨w.heap.size + 2, 1, none⟩) (by simp <;> omega)).trans dy; go_simp; try with_reducible rfl
      try simp only [Act.put, List.setIfInBounds_toArray, List.set_cons_zero, List.set_cons_succ]
      refine wpAnyF_take (i := 2) (oi := { dst := some 21, op := Go.Op.move (Go.Operand.tmp 1), type := 37, pos := "ref.go:56", after := #[], guard := none }) (v := ?_) rfl (by kernel_rfl) (by kernel_rfl) (by kernel_rfl) (by kernel_rfl) (fun _ _ _ h => h) (Or.inl ⟨by rfl, ?_⟩) hS ?_
      rotate_left
      · intro w' hSw; have q1 := (hSw.cell (p := ⟨bq, off + k, none⟩) (by simp <;> omega)).trans d0; have q2 := (hSw.cell (p := ⟨bp, op + k, none⟩) (by simp <;> omega)).trans dp; have q3 := (hSw.cell (p := ⟨bd, od + k, none⟩) (by simp <;> omega)).trans dq; have q4 := (hSw.cell (p := ⟨w.heap.size, 1, none⟩) (by simp <;> omega)).trans dx; have q5 := (hSw.cell (p := ⟨w.heap.size + 2, 1, none⟩) (by simp <;> omega)).trans dy; go_simp; try with_reducible rfl
      try simp only [Act.put, List.setIfInBounds_toArray, List.set_cons_zero, List.set_cons_succ]
      refine wpAnyF_take (i := 3) (oi := { dst := some 22, op := Go.Op.move (Go.Operand.tmp 8), type := 3, pos := "ref.go:56", after := #[], guard := none }) (v := ?_) rfl (by kernel_rfl) (by kernel_rfl) (by kernel_rfl) (by kernel_rfl) (fun _ _ _ h => h) (Or.inl ⟨by rfl, ?_⟩) hS ?_
      rotate_left
      · intro w' hSw; have q1 := (hSw.cell (p := ⟨bq, off + k, none⟩) (by simp <;> omega)).trans d0; have q2 := (hSw.cell (p := ⟨bp, op + k, none⟩) (by simp <;> omega)).trans dp; have q3 := (hSw.cell (p := ⟨bd, od + k, none⟩) (by simp <;> omega)).trans dq; have q4 := (hSw.cell (p := ⟨w.heap.size, 1, none⟩) (by simp <;> omega)).trans dx; have q5 := (hSw.cell (p := ⟨w.heap.size + 2, 1, none⟩) (by simp <;> omega)).trans dy; go_simp; try with_reducible rfl
      try simp only [Act.put, List.setIfInBounds_toArray, List.set_cons_zero, List.set_cons_succ]
      refine wpAnyF_take (i := 4) (oi := { dst := some 23, op := Go.Op.indexAddr 37 (Go.Operand.tmp 21) (Go.Operand.tmp 22), type := 0, pos := "ref.go:56", after := #[{ on := 2, ground := Go.Ground.data }, { on := 3, ground := Go.Ground.data }], guard := none }) (v := ?_) rfl (by kernel_rfl) (by kernel_rfl) (by kernel_rfl) (by kernel_rfl) (fun _ _ _ h => h) (Or.inl ⟨by rfl, ?_⟩) hS ?_
      rotate_left
      · intro w' hSw; have q1 := (hSw.cell (p := ⟨bq, off + k, none⟩) (by simp <;> omega)).trans d0; have q2 := (hSw.cell (p := ⟨bp, op + k, none⟩) (by simp <;> omega)).trans dp; have q3 := (hSw.cell (p := ⟨bd, od + k, none⟩) (by simp <;> omega)).trans dq; have q4 := (hSw.cell (p := ⟨w.heap.size, 1, none⟩) (by simp <;> omega)).trans dx; have q5 := (hSw.cell (p := ⟨w.heap.size + 2, 1, none⟩) (by simp <;> omega)).trans dy; go_simp; try with_reducible rfl
      try simp only [Act.put, List.setIfInBounds_toArray, List.set_cons_zero, List.set_cons_succ]
      refine wpAnyF_take (i := 5) (oi := { dst := some 24, op := Go.Op.load 2 (Go.Operand.tmp 23), type := 2, pos := "ref.go:56", after := #[{ on := 4, ground := Go.Ground.data }], guard := none }) (v := ?_) rfl (by kernel_rfl) (by kernel_rfl) (by kernel_rfl) (by kernel_rfl) (fun _ _ _ h => h) (Or.inl ⟨by rfl, ?_⟩) hS ?_
      rotate_left
      · intro w' hSw; have q1 := (hSw.cell (p := ⟨bq, off + k, none⟩) (by simp <;> omega)).trans d0; have q2 := (hSw.cell (p := ⟨bp, op + k, none⟩) (by simp <;> omega)).trans dp; have q3 := (hSw.cell (p := ⟨bd, od + k, none⟩) (by simp <;> omega)).trans dq; have q4 := (hSw.cell (p := ⟨w.heap.size, 1, none⟩) (by simp <;> omega)).trans dx; have q5 := (hSw.cell (p := ⟨w.heap.size + 2, 1, none⟩) (by simp <;> omega)).trans dy; go_simp; try with_reducible rfl
      try simp only [Act.put, List.setIfInBounds_toArray, List.set_cons_zero, List.set_cons_succ]
      refine wpAnyF_take (i := 6) (oi := { dst := some 25, op := Go.Op.move (Go.Operand.tmp 2), type := 37, pos := "ref.go:56", after := #[], guard := none }) (v := ?_) rfl (by kernel_rfl) (by kernel_rfl) (by kernel_rfl) (by kernel_rfl) (fun _ _ _ h => h) (Or.inl ⟨by rfl, ?_⟩) hS ?_
      rotate_left
      · intro w' hSw; have q1 := (hSw.cell (p := ⟨bq, off + k, none⟩) (by simp <;> omega)).trans d0; have q2 := (hSw.cell (p := ⟨bp, op + k, none⟩) (by simp <;> omega)).trans dp; have q3 := (hSw.cell (p := ⟨bd, od + k, none⟩) (by simp <;> omega)).trans dq; have q4 := (hSw.cell (p := ⟨w.heap.size, 1, none⟩) (by simp <;> omega)).trans dx; have q5 := (hSw.cell (p := ⟨w.heap.size + 2, 1, none⟩) (by simp <;> omega)).trans dy; go_simp; try with_reducible rfl
      try simp only [Act.put, List.setIfInBounds_toArray, List.set_cons_zero, List.set_cons_succ]
      refine wpAnyF_take (i := 7) (oi := { dst := some 26, op := Go.Op.move (Go.Operand.tmp 8), type := 3, pos := "ref.go:56", after := #[], guard := none }) (v := ?_) rfl (by kernel_rfl) (by kernel_rfl) (by kernel_rfl) (by kernel_rfl) (fun _ _ _ h => h) (Or.inl ⟨by rfl, ?_⟩) hS ?_
      rotate_left
      · intro w' hSw; have q1 := (hSw.cell (p := ⟨bq, off + k, none⟩) (by simp <;> omega)).trans d0; have q2 := (hSw.cell (p := ⟨bp, op + k, none⟩) (by simp <;> omega)).trans dp; have q3 := (hSw.cell (p := ⟨bd, od + k, none⟩) (by simp <;> omega)).trans dq; have q4 := (hSw.cell (p := ⟨w.heap.size, 1, none⟩) (by simp <;> omega)).trans dx; have q5 := (hSw.cell (p := ⟨w.heap.size + 2, 1, none⟩) (by simp <;> omega)).trans dy; go_simp; try with_reducible rfl
      try simp only [Act.put, List.setIfInBounds_toArray, List.set_cons_zero, List.set_cons_succ]
      refine wpAnyF_take (i := 8) (oi := { dst := some 27, op := Go.Op.indexAddr 37 (Go.Operand.tmp 25) (Go.Operand.tmp 26), type := 0, pos := "ref.go:56", after := #[{ on := 6, ground := Go.Ground.data }, { on := 7, ground := Go.Ground.data }], guard := none }) (v := ?_) rfl (by kernel_rfl) (by kernel_rfl) (by kernel_rfl) (by kernel_rfl) (fun _ _ _ h => h) (Or.inl ⟨by rfl, ?_⟩) hS ?_
      rotate_left
      · intro w' hSw; have q1 := (hSw.cell (p := ⟨bq, off + k, none⟩) (by simp <;> omega)).trans d0; have q2 := (hSw.cell (p := ⟨bp, op + k, none⟩) (by simp <;> omega)).trans dp; have q3 := (hSw.cell (p := ⟨bd, od + k, none⟩) (by simp <;> omega)).trans dq; have q4 := (hSw.cell (p := ⟨w.heap.size, 1, none⟩) (by simp <;> omega)).trans dx; have q5 := (hSw.cell (p := ⟨w.heap.size + 2, 1, none⟩) (by simp <;> omega)).trans dy; go_simp; try with_reducible rfl
      try simp only [Act.put, List.setIfInBounds_toArray, List.set_cons_zero, List.set_cons_succ]
      refine wpAnyF_take (i := 9) (oi := { dst := some 28, op := Go.Op.load 2 (Go.Operand.tmp 27), type := 2, pos := "ref.go:56", after := #[{ on := 8, ground := Go.Ground.data }], guard := none }) (v := ?_) rfl (by kernel_rfl) (by kernel_rfl) (by kernel_rfl) (by kernel_rfl) (fun _ _ _ h => h) (Or.inl ⟨by rfl, ?_⟩) hS ?_
      rotate_left
      · intro w' hSw; have q1 := (hSw.cell (p := ⟨bq, off + k, none⟩) (by simp <;> omega)).trans d0; have q2 := (hSw.cell (p := ⟨bp, op + k, none⟩) (by simp <;> omega)).trans dp; have q3 := (hSw.cell (p := ⟨bd, od + k, none⟩) (by simp <;> omega)).trans dq; have q4 := (hSw.cell (p := ⟨w.heap.size, 1, none⟩) (by simp <;> omega)).trans dx; have q5 := (hSw.cell (p := ⟨w.heap.size + 2, 1, none⟩) (by simp <;> omega)).trans dy; go_simp; try with_reducible rfl
      try simp only [Act.put, List.setIfInBounds_toArray, List.set_cons_zero, List.set_cons_succ]
      refine wpAnyF_take (i := 10) (oi := { dst := some 29, op := Go.Op.binOp Go.BinOp.sub 2 (Go.Operand.tmp 24) (Go.Operand.tmp 28) 2, type := 2, pos := "ref.go:56", after := #[{ on := 5, ground := Go.Ground.data }, { on := 9, ground := Go.Ground.data }], guard := none }) (v := ?_) rfl (by kernel_rfl) (by kernel_rfl) (by kernel_rfl) (by kernel_rfl) (fun _ _ _ h => h) (Or.inl ⟨by rfl, ?_⟩) hS ?_
      rotate_left
      · intro w' hSw; have q1 := (hSw.cell (p := ⟨bq, off + k, none⟩) (by simp <;> omega)).trans d0; have q2 := (hSw.cell (p := ⟨bp, op + k, none⟩) (by simp <;> omega)).trans dp; have q3 := (hSw.cell (p := ⟨bd, od + k, none⟩) (by simp <;> omega)).trans dq; have q4 := (hSw.cell (p := ⟨w.heap.size, 1, none⟩) (by simp <;> omega)).trans dx; have q5 := (hSw.cell (p := ⟨w.heap.size + 2, 1, none⟩) (by simp <;> omega)).trans dy; go_simp; try with_reducible rfl
      try simp only [Act.put, List.setIfInBounds_toArray, List.set_cons_zero, List.set_cons_succ]
      refine wpAnyF_take (i := 11) (oi := { dst := some 30, op := Go.Op.fieldAddr 24 (Go.Operand.tmp 3) 1, type := 0, pos := "ref.go:56", after := #[], guard := none }) (v := ?_) rfl (by kernel_rfl) (by kernel_rfl) (by kernel_rfl) (by kernel_rfl) (fun _ _ _ h => h) (Or.inl ⟨by rfl, ?_⟩) hS ?_
      rotate_left
      · intro w' hSw; have q1 := (hSw.cell (p := ⟨bq, off + k, none⟩) (by simp <;> omega)).trans d0; have q2 := (hSw.cell (p := ⟨bp, op + k, none⟩) (by simp <;> omega)).trans dp; have q3 := (hSw.cell (p := ⟨bd, od + k, none⟩) (by simp <;> omega)).trans dq; have q4 := (hSw.cell (p := ⟨w.heap.size, 1, none⟩) (by simp <;> omega)).trans dx; have q5 := (hSw.cell (p := ⟨w.heap.size + 2, 1, none⟩) (by simp <;> omega)).trans dy; go_simp; try with_reducible rfl
      try simp only [Act.put, List.setIfInBounds_toArray, List.set_cons_zero, List.set_cons_succ]
      refine wpAnyF_take (i := 12) (oi := { dst := some 31, op := Go.Op.load 22 (Go.Operand.tmp 30), type := 22, pos := "ref.go:56", after := #[{ on := 11, ground := Go.Ground.data }], guard := none }) (v := ?_) rfl (by kernel_rfl) (by kernel_rfl) (by kernel_rfl) (by kernel_rfl) (fun _ _ _ h => h) (Or.inl ⟨by rfl, ?_⟩) hS ?_
      rotate_left
      · intro w' hSw; have q1 := (hSw.cell (p := ⟨bq, off + k, none⟩) (by simp <;> omega)).trans d0; have q2 := (hSw.cell (p := ⟨bp, op + k, none⟩) (by simp <;> omega)).trans dp; have q3 := (hSw.cell (p := ⟨bd, od + k, none⟩) (by simp <;> omega)).trans dq; have q4 := (hSw.cell (p := ⟨w.heap.size, 1, none⟩) (by simp <;> omega)).trans dx; have q5 := (hSw.cell (p := ⟨w.heap.size + 2, 1, none⟩) (by simp <;> omega)).trans dy; go_simp; try with_reducible rfl
      try simp only [Act.put, List.setIfInBounds_toArray, List.set_cons_zero, List.set_cons_succ]
      refine wpAnyF_take (i := 13) (oi := { dst := some 32, op := Go.Op.move (Go.Operand.tmp 8), type := 3, pos := "ref.go:56", after := #[], guard := none }) (v := ?_) rfl (by kernel_rfl) (by kernel_rfl) (by kernel_rfl) (by kernel_rfl) (fun _ _ _ h => h) (Or.inl ⟨by rfl, ?_⟩) hS ?_
      rotate_left
      · intro w' hSw; have q1 := (hSw.cell (p := ⟨bq, off + k, none⟩) (by simp <;> omega)).trans d0; have q2 := (hSw.cell (p := ⟨bp, op + k, none⟩) (by simp <;> omega)).trans dp; have q3 := (hSw.cell (p := ⟨bd, od + k, none⟩) (by simp <;> omega)).trans dq; have q4 := (hSw.cell (p := ⟨w.heap.size, 1, none⟩) (by simp <;> omega)).trans dx; have q5 := (hSw.cell (p := ⟨w.heap.size + 2, 1, none⟩) (by simp <;> omega)).trans dy; go_simp; try with_reducible rfl
      try simp only [Act.put, List.setIfInBounds_toArray, List.set_cons_zero, List.set_cons_succ]
      refine wpAnyF_take (i := 14) (oi := { dst := some 33, op := Go.Op.indexAddr 22 (Go.Operand.tmp 31) (Go.Operand.tmp 32), type := 0, pos := "ref.go:56", after := #[{ on := 12, ground := Go.Ground.data }, { on := 13, ground := Go.Ground.data }], guard := none }) (v := ?_) rfl (by kernel_rfl) (by kernel_rfl) (by kernel_rfl) (by kernel_rfl) (fun _ _ _ h => h) (Or.inl ⟨by rfl, ?_⟩) hS ?_
      rotate_left
      · intro w' hSw; have q1 := (hSw.cell (p := ⟨bq, off + k, none⟩) (by simp <;> omega)).trans d0; have q2 := (hSw.cell (p := ⟨bp, op + k, none⟩) (by simp <;> omega)).trans dp; have q3 := (hSw.cell (p := ⟨bd, od + k, none⟩) (by simp <;> omega)).trans dq; have q4 := (hSw.cell (p := ⟨w.heap.size, 1, none⟩) (by simp <;> omega)).trans dx; have q5 := (hSw.cell (p := ⟨w.heap.size + 2, 1, none⟩) (by simp <;> omega)).trans dy; go_simp; try with_reducible rfl
      try simp only [Act.put, List.setIfInBounds_toArray, List.set_cons_zero, List.set_cons_succ]
      refine wpAnyF_take (i := 15) (oi := { dst := some 34, op := Go.Op.load 26 (Go.Operand.tmp 33), type := 26, pos := "ref.go:56", after := #[{ on := 14, ground := Go.Ground.data }], guard := none }) (v := ?_) rfl (by kernel_rfl) (by kernel_rfl) (by kernel_rfl) (by kernel_rfl) (fun _ _ _ h => h) (Or.inl ⟨by rfl, ?_⟩) hS ?_
      rotate_left
      · intro w' hSw; have q1 := (hSw.cell (p := ⟨bq, off + k, none⟩) (by simp <;> omega)).trans d0; have q2 := (hSw.cell (p := ⟨bp, op + k, none⟩) (by simp <;> omega)).trans dp; have q3 := (hSw.cell (p := ⟨bd, od + k, none⟩) (by simp <;> omega)).trans dq; have q4 := (hSw.cell (p := ⟨w.heap.size, 1, none⟩) (by simp <;> omega)).trans dx; have q5 := (hSw.cell (p := ⟨w.heap.size + 2, 1, none⟩) (by simp <;> omega)).trans dy; go_simp; try with_reducible rfl
      try simp only [Act.put, List.setIfInBounds_toArray, List.set_cons_zero, List.set_cons_succ]
      refine wpAnyF_ready (rs := [16]) (by kernel_rfl) (by simp) ?_
      refine AllReadyF.cons (o := { dst := some 35, op := Go.Op.call { callee := Go.Callee.value (Go.Operand.func 103), args := #[Go.Operand.tmp 29, Go.Operand.tmp 34], argTypes := #[2, 26] }, type := 26, pos := "ref.go:56", after := #[{ on := 10, ground := Go.Ground.data }, { on := 15, ground := Go.Ground.data }], guard := none }) rfl (by rfl) (fun K hK => ?_) ?_
      · go_simp
        refine (refLower08_any (q - p) (by omega) (by omega) l _ Rx _ (HOL.out.grow (Below.refl _ _).drew) (by omega) HPO.out).mono ?_
        rintro e w1 ⟨A2, c2, rfl, hown2, hb2⟩
        refine hK.out _ _ ?_ (fun hS => ?_)
        · exact ((Below.refl wr.heap.size wr).drew.trans (hb2.mono (by simp))).mono (by omega)
        clear hK K
        try simp only [Act.put, List.setIfInBounds_toArray, List.set_cons_zero, List.set_cons_succ]
        have hb2' : Below wr.heap.size wr w1 := (Below.refl _ _).drew.trans (hb2.mono (by simp))
        have HB2 := Lib.hid hb2'
        have HW2 := Lib.hid hown2
        have hs1 := hb2'.size
        clear hb2 hb2' hown2
        refine wpAnyF_ready (rs := [17]) (by kernel_rfl) (by simp) ?_
        refine AllReadyF.cons (o := { dst := some 36, op := Go.Op.buildSlice 22 1 #[(0, Go.Operand.tmp 35)], type := 22, pos := "ref.go:56", after := #[{ on := 16, ground := Go.Ground.data }], guard := none }) rfl (by rfl) (fun K hK => ?_) ?_
        · go_simp
          refine hK.out _ _ ?_ (fun hS => ?_)
          · exact hS.alloc (by omega) _
          clear hK K
          try simp only [Act.put, List.setIfInBounds_toArray, List.set_cons_zero, List.set_cons_succ]
          refine wpAnyF_ready (rs := [18]) (by kernel_rfl) (by simp) ?_
          refine AllReadyF.cons (o := { dst := some 37, op := Go.Op.call { callee := Go.Callee.builtin Go.Builtin.append, args := #[Go.Operand.tmp 20, Go.Operand.tmp 36], argTypes := #[22, 22] }, type := 22, pos := "ref.go:56", after := #[{ on := 1, ground := Go.Ground.data }, { on := 17, ground := Go.Ground.data }, { on := 16, ground := Go.Ground.chain }], guard := none }) rfl (by rfl) (fun K hK => ?_) ?_
          · refine step_app (w1.alloc (.cells #[.slice A2 (lowL (q - p) l).length c2] 26)) rfl (.tmp 20) (.tmp 36) et_offs rfl (w.heap.size + 3) (.slice A' k cap') k vs' rfl (own_alloc (own_grow HSR.out HB2.out) _) (fun _ => True) (.slice (some ⟨w1.heap.size, 0, none⟩) 1 1) 1 [.slice A2 (lowL (q - p) l).length c2] rfl (Sl.blk (sz := 1) (Blk.new w1 26 #[.slice A2 (lowL (q - p) l).length c2]) (Nat.le_refl 1) (by unfold maxLen; omega) rfl) (by simp [Value.oneCell']) (by omega) (by unfold maxLen; omega) (by simp; omega) ?_
            intro A3 c3 w3 hown3 hg3 hloc3
            refine hK.out _ _ ?_ (fun hS => ?_)
            · exact hS.grown hg3 (by simp; omega) (fun g e => (HSR.out.lt g e).1)
            clear hK K
            try simp only [Act.put, List.setIfInBounds_toArray, List.set_cons_zero, List.set_cons_succ]
            have HW3 := Lib.hid hown3
            have HG3 := Lib.hid hg3
            have HL3 := Lib.hid hloc3
            have HY3 := Lib.hid (show Blk w3 (w.heap.size + 2) 24 #[.int .i64 n, .slice A' k cap'] from ((HY.out.grow HB2.out).alloc _).grown hg3 (fun e => by have := (HSR.out.lt _ e.symm).1; omega))
            clear hown3 hg3 hloc3
            refine wpAnyF_take (i := 19) (oi := { dst := some 38, op := Go.Op.fieldAddr 24 (Go.Operand.tmp 7) 1, type := 0, pos := "ref.go:56", after := #[{ on := 0, ground := Go.Ground.phase }, { on := 1, ground := Go.Ground.phase }, { on := 2, ground := Go.Ground.phase }, { on := 3, ground := Go.Ground.phase }, { on := 4, ground := Go.Ground.phase }, { on := 5, ground := Go.Ground.phase }, { on := 6, ground := Go.Ground.phase }, { on := 7, ground := Go.Ground.phase }, { on := 8, ground := Go.Ground.phase }, { on := 9, ground := Go.Ground.phase }, { on := 10, ground := Go.Ground.phase }, { on := 11, ground := Go.Ground.phase }, { on := 12, ground := Go.Ground.phase }, { on := 13, ground := Go.Ground.phase }, { on := 14, ground := Go.Ground.phase }, { on := 15, ground := Go.Ground.phase }, { on := 16, ground := Go.Ground.phase }, { on := 17, ground := Go.Ground.phase }, { on := 18, ground := Go.Ground.phase }], guard := none }) (v := ?_) rfl (by kernel_rfl) (by kernel_rfl) (by kernel_rfl) (by kernel_rfl) (fun _ _ _ h => h) (Or.inl ⟨by rfl, ?_⟩) hS ?_
            rotate_left
            · intro w' hSw; have q1 := (hSw.cell (p := ⟨bq, off + k, none⟩) (by simp <;> omega)).trans d0; have q2 := (hSw.cell (p := ⟨bp, op + k, none⟩) (by simp <;> omega)).trans dp; have q3 := (hSw.cell (p := ⟨bd, od + k, none⟩) (by simp <;> omega)).trans dq; have q4 := (hSw.cell (p := ⟨w.heap.size, 1, none⟩) (by simp <;> omega)).trans dx; have q5 := (hSw.cell (p := ⟨w.heap.size + 2, 1, none⟩) (by simp <;> omega)).trans dy; go_simp; try with_reducible rfl
            try simp only [Act.put, List.setIfInBounds_toArray, List.set_cons_zero, List.set_cons_succ]
            refine wpAnyF_ready (rs := [20]) (by kernel_rfl) (by simp) ?_
            refine AllReadyF.fin (o := { dst := none, op := Go.Op.store 22 (Go.Operand.tmp 38) (Go.Operand.tmp 37), type := 0, pos := "ref.go:56", after := #[{ on := 19, ground := Go.Ground.data }, { on := 18, ground := Go.Ground.data }, { on := 18, ground := Go.Ground.chain }, { on := 0, ground := Go.Ground.phase }, { on := 1, ground := Go.Ground.phase }, { on := 2, ground := Go.Ground.phase }, { on := 3, ground := Go.Ground.phase }, { on := 4, ground := Go.Ground.phase }, { on := 5, ground := Go.Ground.phase }, { on := 6, ground := Go.Ground.phase }, { on := 7, ground := Go.Ground.phase }, { on := 8, ground := Go.Ground.phase }, { on := 9, ground := Go.Ground.phase }, { on := 10, ground := Go.Ground.phase }, { on := 11, ground := Go.Ground.phase }, { on := 12, ground := Go.Ground.phase }, { on := 13, ground := Go.Ground.phase }, { on := 14, ground := Go.Ground.phase }, { on := 15, ground := Go.Ground.phase }, { on := 16, ground := Go.Ground.phase }, { on := 17, ground := Go.Ground.phase }, { on := 18, ground := Go.Ground.phase }], guard := none }) rfl (by rfl) (fun K hK => ?_) ?_
            · have f1 := HY3.out.frozen 1
              have f2 := HY3.out.cell 1
              go_simp
              refine hK.out _ _ ?_
              clear hK K
              try simp only [Act.put, List.setIfInBounds_toArray, List.set_cons_zero, List.set_cons_succ]
              refine wpAnyF_done (by kernel_rfl) ?_ _
              clear hS
              go_wp2_with fail
              go_roundw
              case rel =>
                have hclone : Offs (w1.alloc (.cells #[.slice A2 (lowL (q - p) l).length c2] 26)) (fun b => w.heap.size + 3 ≤ b ∧ (Value.slice A' k cap').ownBlock ≠ some b) (.slice A2 (lowL (q - p) l).length c2) (lowL (q - p) l) := by
                  refine ⟨((Sl.of_own HW2.out).alloc _).mono fun b _ hb => ⟨?_, fun e => ?_⟩, lowL_wf _ (by omega) _ HOL.out.2⟩
                  · have := (HW2.out.lt b hb).1; simp at this; omega
                  · have h1 := (HW2.out.lt b hb).1
                    have h2 := (HSR.out.lt b e).2
                    simp at h1
                    omega
                have hold : ∀ (j : Nat) (l2 : List Off), ((lowB n bs pay).take k)[j]? = some l2 → ∃ u, vs'[j]? = some u ∧ Offs (w1.alloc (.cells #[.slice A2 (lowL (q - p) l).length c2] 26)) (fun b => w.heap.size + 3 ≤ b ∧ (Value.slice A' k cap').ownBlock ≠ some b) u l2 :=
                  fun j l2 hj => let ⟨u, hu, hl⟩ := HO'.out j l2 hj; ⟨u, hu, (hl.grow HB2.out).alloc _⟩
                have hob2 := OwnBuys.snoc HLK.out (own_alloc (own_grow HSR.out HB2.out) _) hold hclone HW3.out HG3.out HL3.out
                refine ⟨k + 1, A3, c3, by omega, by go_num, ?_, (HY3.out.set_ 1 _).drew, ?_⟩
                · rw [List.take_add_one, HLG.out]
                  exact (hob2.far (grownBy_setCell _ ⟨w.heap.size + 2, 1, none⟩ _) (fun j e => by simp at e; omega)).drew
                · exact (((HBR.out.trans ((HB2.out.mono (by omega)).alloc (by omega) _)).grown HG3.out (by simp; omega) (fun j e => by have := (HSR.out.lt j e).1; omega)).setCell (p := ⟨w.heap.size + 2, 1, none⟩) (by simp) _)
              case measure => simp [intOf]; omega
            exact AllReadyF.nil
          exact AllReadyF.nil
        exact AllReadyF.nil
      exact AllReadyF.nil
    · obtain rfl : k = bs.length := by omega
      have x1e : wr.cell? ⟨w.heap.size, 1, none⟩ = some (.slice Av bs.length capv) := (HX0.out.below HBR.out (by omega)).cell 1
      have hR := HR0.out.below HBR.out (by omega)
      have r1 := hR.cell 1
      have r0 := hR.cell 0
      have rf := hR.frozen
      have y1 := HY.out.cell 1
      have y0 := HY.out.cell 0
      have HRR := Lib.hid hR
      clear hR
      go_wp2_with fail
      have hq := ((HRR.out.set_ 0 (.int .i64 n)).set_ 1 (.slice A' bs.length cap'))
      have s0 := hq.cell 0
      have s1 := hq.cell 1
      simp at s0 s1
      refine bodyPost_ret (v := .agg #[.int .i64 n, .slice A' bs.length cap']) (by simp [results, Tryz.results92, go_sem, s0, s1]) rfl ⟨_, _, rfl, ?_, ?_⟩
      · have h1 := HOB.out
        rw [List.take_of_length_le (by rw [lowB_length]; omega)] at h1
        exact ((h1.far (grownBy_setCell _ ⟨w.heap.size + 1, 0, none⟩ _) (fun j e => by simp at e; omega)).far (grownBy_setCell _ ⟨w.heap.size + 1, 1, none⟩ _) (fun j e => by simp at e; omega)).mono (by omega)
      · exact (HBX.out.setCell (p := ⟨w.heap.size + 1, 0, none⟩) (by simp) _).setCell (p := ⟨w.heap.size + 1, 1, none⟩) (by simp) _
end Go.Proofs.YtcigobiolbojhaaGreat.Vb

/- The reference of layer 18: least. -/
namespace Go.Proofs.YtcigobiolbojhaaGreat.Vb
open Go.RowKit

set_option maxRecDepth 100000 in
set_option maxHeartbeats 1600000 in
theorem refLeast18_any (n : Int) (bs : List (List Off)) (v vb : Value) (pay : List Int) (vp : Value) (Rb R Rx : Nat → Prop) (k : Nat) (hk : k < bs.length) (w : World) (hl : Buys w Rx v bs) (hd : Sl w Rb vb bs.length 1 (ints (bidsC n bs))) (hp : Sl w R vp pay.length 1 (ints pay))
    (hi : instE n bs = 0) (hok : payL pay (bidsC n bs) = true) :
    Calls Tryz.prog 80 #[.agg #[.int .i64 n, v], vb, vp, .int .i64 (k : Int)] w fun e w' => e = .returned (.int .i64 (leastI n bs pay k)) ∧ Below w.heap.size w w' := by
  have hwf := Buys.wf hl
  have hil := instE_low hi hok
  have hpl := pay_len hok
  have hl32 := (instE_zero hi).2.2.1
  have hwe : withE n (lowB n bs pay) (k : Int) [] = 0 := instE_withE hil (by rw [lowB_length]; exact hk)
  have hpb := pay_bd hi hwf hok
  obtain ⟨hs0, hs1⟩ := sum_bd hpb (by omega)
  obtain ⟨hw0, hw1⟩ := woW_bd (lowB_wf hwf hok) hil (k : Int)
  have hwo : woW n (lowB n bs pay) (k : Int) = W ((lowB n bs pay).set k []) (allOf n) := by unfold woW; rw [if_pos hwe]; rfl
  obtain ⟨b, off, p, hA, hb, hpk, hc⟩ : ∃ b off p, vp = .slice (some ⟨b, off, none⟩) pay.length (match vp with | .slice _ _ c => c | _ => 0) ∧ b < w.heap.size ∧ pay[k]? = some p ∧ w.cell? ⟨b, off + k, none⟩ = some (.int .i64 p) := by
    obtain ⟨_, Ap, capp, rfl, _⟩ := id hp
    obtain ⟨b, off, x, rfl, hb, hx, hc⟩ := hp.int_at (k := k) (by omega)
    exact ⟨b, off, x, rfl, hb, hx, hc⟩
  have hp2 := hpb p (List.mem_of_getElem? hpk)
  have hle : leastI n bs pay k = max 0 (woW n (lowB n bs pay) k - (sumI pay - p)) := by unfold leastI; rw [hpk]; rfl
  obtain ⟨capp, hcp⟩ : ∃ c, c = (match vp with | .slice _ _ c => c | _ => 0) := ⟨_, rfl⟩
  rw [← hcp] at hA
  clear hcp
  subst hA
  obtain ⟨Wk, hWk⟩ : ∃ x, x = woW n (lowB n bs pay) (k : Int) := ⟨_, rfl⟩
  rw [← hWk] at hw0 hw1 hwo hle
  obtain ⟨T, hT⟩ : ∃ x, x = sumI pay := ⟨_, rfl⟩
  rw [← hT] at hs0 hs1 hle
  have e1 : IntKind.i64.wrap (T - p) = T - p := IntWalk.i64_in _ (by omega)
  have e2 : IntKind.i64.wrap (Wk - (T - p)) = Wk - (T - p) := IntWalk.i64_in _ (by omega)
  have e3 : (0 : Int) ≤ (k : Int) := by omega
  have e4 : (k : Int) < (pay.length : Int) := by omega
  have HD := Lib.hid hd
  obtain ⟨_, Ab, capb, rfl, _⟩ := id hd
  obtain ⟨_, ⟨_, Av, capv, rfl, _⟩, _⟩ := id hl
  have HL := Lib.hid hl
  have HP := Lib.hid hp
  have HI := Lib.hid hi
  have HOK := Lib.hid hok
  have HWE := Lib.hid hwe
  have HWO := Lib.hid hwo
  have HT := Lib.hid hT
  have HLE := Lib.hid hle
  have HPB := Lib.hid hpb
  have HLL := Lib.hid (lowB_length n bs pay)
  have HPL := Lib.hid hpl
  have hpl64 : pay.length ≤ 64 := by omega
  clear hd hl hp hi hok hwe hwo hT hle hpb hwf hil hpk hWk hpl
  go_enter Tryz.func80, Tryz.ntmps80
  go_wp2_with fail
  refine (refLower18_any n bs _ pay _ _ Rb R Rx _ (HL.out.alloc _) (HD.out.alloc _) (HP.out.alloc _) HI.out HOK.out).mono ?_
  rintro e w1 ⟨A1, c1, rfl, hob, hb1⟩
  have HOB := Lib.hid hob
  have HB1 := Lib.hid (one_blk' hb1).2.2
  have hsz1 := (one_blk' hb1).2.1
  clear hob hb1
  go_wp2_with fail
  refine (refWithout15_ok n (lowB n bs pay) (k : Int) _ _ _ HOB.out.buys HWE.out).mono ?_
  rintro e w2 ⟨A2, m2, c2, rfl, hb2⟩
  rw [Int.toNat_natCast, ← HWO.out]
  have HB2 := Lib.hid (HB1.out.trans (hb2.mono (B' := w.heap.size) (by omega)))
  clear hb2
  go_wp2_with fail
  obtain ⟨W2, hW2⟩ : ∃ W2, W2 = w2.alloc (.cells #[.slice A2 m2 c2, .int .i64 Wk] 111) := ⟨_, rfl⟩
  have HB3 := Lib.hid (show Below w.heap.size w W2 from by rw [hW2]; exact HB2.out.alloc HB2.out.size _)
  have hlt2 : w2.heap.size < W2.heap.size := by rw [hW2]; simp
  have d0 : W2.cell? ⟨w2.heap.size, 1, none⟩ = some (.int .i64 Wk) := by rw [hW2]; exact (Blk.new w2 111 #[.slice A2 m2 c2, .int .i64 Wk]).cell 1
  have d1 := (HB3.out.cell (p := ⟨b, off + k, none⟩) hb).trans hc
  have hbW := Nat.lt_of_lt_of_le hb HB3.out.size
  rw [← hW2]
  clear hW2
  have hmx : leastI n bs pay k = if T - p < Wk then Wk - (T - p) else 0 := by rw [HLE.out]; split <;> omega
  have HMX := Lib.hid hmx
  clear hmx
  refine wp_region_F (Below W2.heap.size W2) [] (by kernel_rfl) ((Below.refl _ _).drew) (fun hS => ?_)
  refine wpAnyF_take (i := 0) (oi := { dst := some 20, op := Go.Op.fieldAddr 111 (Go.Operand.tmp 9) 1, type := 0, pos := "ref.go:73", after := #[], guard := none }) (v := ?_) rfl (by kernel_rfl) (by kernel_rfl) (by kernel_rfl) (by kernel_rfl) (fun _ _ _ h => h) (Or.inl ⟨by rfl, ?_⟩) hS ?_
  rotate_left
  · intro w' hSw; have q1 := (hSw.cell (p := ⟨w2.heap.size, 1, none⟩) hlt2).trans d0; have q2 := (hSw.cell (p := ⟨b, off + k, none⟩) hbW).trans d1; go_simp; try with_reducible rfl
  try simp only [Act.put, List.setIfInBounds_toArray, List.set_cons_zero, List.set_cons_succ]
  refine wpAnyF_take (i := 1) (oi := { dst := some 21, op := Go.Op.load 2 (Go.Operand.tmp 20), type := 2, pos := "ref.go:73", after := #[{ on := 0, ground := Go.Ground.data }], guard := none }) (v := ?_) rfl (by kernel_rfl) (by kernel_rfl) (by kernel_rfl) (by kernel_rfl) (fun _ _ _ h => h) (Or.inl ⟨by rfl, ?_⟩) hS ?_
  rotate_left
  · intro w' hSw; have q1 := (hSw.cell (p := ⟨w2.heap.size, 1, none⟩) hlt2).trans d0; have q2 := (hSw.cell (p := ⟨b, off + k, none⟩) hbW).trans d1; go_simp; try with_reducible rfl
  try simp only [Act.put, List.setIfInBounds_toArray, List.set_cons_zero, List.set_cons_succ]
  refine wpAnyF_take (i := 2) (oi := { dst := some 22, op := Go.Op.move (Go.Operand.tmp 2), type := 37, pos := "ref.go:73", after := #[], guard := none }) (v := ?_) rfl (by kernel_rfl) (by kernel_rfl) (by kernel_rfl) (by kernel_rfl) (fun _ _ _ h => h) (Or.inl ⟨by rfl, ?_⟩) hS ?_
  rotate_left
  · intro w' hSw; have q1 := (hSw.cell (p := ⟨w2.heap.size, 1, none⟩) hlt2).trans d0; have q2 := (hSw.cell (p := ⟨b, off + k, none⟩) hbW).trans d1; go_simp; try with_reducible rfl
  try simp only [Act.put, List.setIfInBounds_toArray, List.set_cons_zero, List.set_cons_succ]
  refine wpAnyF_take (i := 4) (oi := { dst := some 24, op := Go.Op.move (Go.Operand.tmp 2), type := 37, pos := "ref.go:73", after := #[], guard := none }) (v := ?_) rfl (by kernel_rfl) (by kernel_rfl) (by kernel_rfl) (by kernel_rfl) (fun _ _ _ h => h) (Or.inl ⟨by rfl, ?_⟩) hS ?_
  rotate_left
  · intro w' hSw; have q1 := (hSw.cell (p := ⟨w2.heap.size, 1, none⟩) hlt2).trans d0; have q2 := (hSw.cell (p := ⟨b, off + k, none⟩) hbW).trans d1; go_simp; try with_reducible rfl
  try simp only [Act.put, List.setIfInBounds_toArray, List.set_cons_zero, List.set_cons_succ]
  refine wpAnyF_take (i := 5) (oi := { dst := some 25, op := Go.Op.move (Go.Operand.tmp 3), type := 3, pos := "ref.go:73", after := #[], guard := none }) (v := ?_) rfl (by kernel_rfl) (by kernel_rfl) (by kernel_rfl) (by kernel_rfl) (fun _ _ _ h => h) (Or.inl ⟨by rfl, ?_⟩) hS ?_
  rotate_left
  · intro w' hSw; have q1 := (hSw.cell (p := ⟨w2.heap.size, 1, none⟩) hlt2).trans d0; have q2 := (hSw.cell (p := ⟨b, off + k, none⟩) hbW).trans d1; go_simp; try with_reducible rfl
  try simp only [Act.put, List.setIfInBounds_toArray, List.set_cons_zero, List.set_cons_succ]
  refine wpAnyF_take (i := 6) (oi := { dst := some 26, op := Go.Op.indexAddr 37 (Go.Operand.tmp 24) (Go.Operand.tmp 25), type := 0, pos := "ref.go:73", after := #[{ on := 4, ground := Go.Ground.data }, { on := 5, ground := Go.Ground.data }], guard := none }) (v := ?_) rfl (by kernel_rfl) (by kernel_rfl) (by kernel_rfl) (by kernel_rfl) (fun _ _ _ h => h) (Or.inl ⟨by rfl, ?_⟩) hS ?_
  rotate_left
  · intro w' hSw; have q1 := (hSw.cell (p := ⟨w2.heap.size, 1, none⟩) hlt2).trans d0; have q2 := (hSw.cell (p := ⟨b, off + k, none⟩) hbW).trans d1; go_simp; try with_reducible rfl
  try simp only [Act.put, List.setIfInBounds_toArray, List.set_cons_zero, List.set_cons_succ]
  refine wpAnyF_take (i := 7) (oi := { dst := some 27, op := Go.Op.load 2 (Go.Operand.tmp 26), type := 2, pos := "ref.go:73", after := #[{ on := 6, ground := Go.Ground.data }], guard := none }) (v := ?_) rfl (by kernel_rfl) (by kernel_rfl) (by kernel_rfl) (by kernel_rfl) (fun _ _ _ h => h) (Or.inl ⟨by rfl, ?_⟩) hS ?_
  rotate_left
  · intro w' hSw; have q1 := (hSw.cell (p := ⟨w2.heap.size, 1, none⟩) hlt2).trans d0; have q2 := (hSw.cell (p := ⟨b, off + k, none⟩) hbW).trans d1; go_simp; try with_reducible rfl
  try simp only [Act.put, List.setIfInBounds_toArray, List.set_cons_zero, List.set_cons_succ]
  refine wpAnyF_ready (rs := [3]) (by kernel_rfl) (by simp) ?_
  refine AllReadyF.cons (o := { dst := some 23, op := Go.Op.call { callee := Go.Callee.value (Go.Operand.func 93), args := #[Go.Operand.tmp 22], argTypes := #[37] }, type := 2, pos := "ref.go:73", after := #[{ on := 2, ground := Go.Ground.data }], guard := none }) rfl (by rfl) (fun K hK => ?_) ?_
  · go_simp
    refine (refTotal_any pay _ R _ ((HP.out.grow HB3.out).grow (Below.refl _ _).drew) (fun x hx => by have := HPB.out x hx; omega) hpl64).mono ?_
    rintro e w4 ⟨rfl, rfl⟩
    rw [← HT.out]
    refine hK.out _ _ ?_ (fun hS => ?_)
    · exact hS
    clear hK K
    try simp only [Act.put, List.setIfInBounds_toArray, List.set_cons_zero, List.set_cons_succ]
    refine wpAnyF_take (i := 8) (oi := { dst := some 28, op := Go.Op.binOp Go.BinOp.sub 2 (Go.Operand.tmp 23) (Go.Operand.tmp 27) 2, type := 2, pos := "ref.go:73", after := #[{ on := 3, ground := Go.Ground.data }, { on := 7, ground := Go.Ground.data }], guard := none }) (v := ?_) rfl (by kernel_rfl) (by kernel_rfl) (by kernel_rfl) (by kernel_rfl) (fun _ _ _ h => h) (Or.inl ⟨by rfl, ?_⟩) hS ?_
    rotate_left
    · intro w' hSw; have q1 := (hSw.cell (p := ⟨w2.heap.size, 1, none⟩) hlt2).trans d0; have q2 := (hSw.cell (p := ⟨b, off + k, none⟩) hbW).trans d1; go_simp; try with_reducible rfl
    try simp only [Act.put, List.setIfInBounds_toArray, List.set_cons_zero, List.set_cons_succ]
    refine wpAnyF_take (i := 9) (oi := { dst := some 29, op := Go.Op.binOp Go.BinOp.sub 2 (Go.Operand.tmp 21) (Go.Operand.tmp 28) 2, type := 2, pos := "ref.go:73", after := #[{ on := 1, ground := Go.Ground.data }, { on := 8, ground := Go.Ground.data }], guard := none }) (v := ?_) rfl (by kernel_rfl) (by kernel_rfl) (by kernel_rfl) (by kernel_rfl) (fun _ _ _ h => h) (Or.inl ⟨by rfl, ?_⟩) hS ?_
    rotate_left
    · intro w' hSw; have q1 := (hSw.cell (p := ⟨w2.heap.size, 1, none⟩) hlt2).trans d0; have q2 := (hSw.cell (p := ⟨b, off + k, none⟩) hbW).trans d1; go_simp; try with_reducible rfl
    try simp only [Act.put, List.setIfInBounds_toArray, List.set_cons_zero, List.set_cons_succ]
    refine wpAnyF_ready (rs := [10]) (by kernel_rfl) (by simp) ?_
    refine AllReadyF.cons (o := { dst := some 30, op := Go.Op.call { callee := Go.Callee.builtin Go.Builtin.max, args := #[Go.Operand.const (Go.Value.int Go.IntKind.i64 0), Go.Operand.tmp 29], argTypes := #[2, 2] }, type := 2, pos := "ref.go:73", after := #[{ on := 9, ground := Go.Ground.data }], guard := none }) rfl (by rfl) (fun K hK => ?_) ?_
    · go_simp
      refine hK.out _ _ ?_ (fun hS => ?_)
      · exact hS
      clear hK K
      try simp only [Act.put, List.setIfInBounds_toArray, List.set_cons_zero, List.set_cons_succ]
      refine wpAnyF_take (i := 11) (oi := { dst := some 8, op := Go.Op.assign (Go.Operand.tmp 30), type := 2, pos := "ref.go:73", after := #[{ on := 10, ground := Go.Ground.data }, { on := 3, ground := Go.Ground.chain }, { on := 0, ground := Go.Ground.phase }, { on := 1, ground := Go.Ground.phase }, { on := 2, ground := Go.Ground.phase }, { on := 3, ground := Go.Ground.phase }, { on := 4, ground := Go.Ground.phase }, { on := 5, ground := Go.Ground.phase }, { on := 6, ground := Go.Ground.phase }, { on := 7, ground := Go.Ground.phase }, { on := 8, ground := Go.Ground.phase }, { on := 9, ground := Go.Ground.phase }, { on := 10, ground := Go.Ground.phase }], guard := none }) (v := ?_) rfl (by kernel_rfl) (by kernel_rfl) (by kernel_rfl) (by kernel_rfl) (fun _ _ _ h => h) (Or.inl ⟨by rfl, ?_⟩) hS ?_
      rotate_left
      · intro w' hSw; have q1 := (hSw.cell (p := ⟨w2.heap.size, 1, none⟩) hlt2).trans d0; have q2 := (hSw.cell (p := ⟨b, off + k, none⟩) hbW).trans d1; go_simp; try with_reducible rfl
      try simp only [Act.put, List.setIfInBounds_toArray, List.set_cons_zero, List.set_cons_succ]
      refine wpAnyF_done (by kernel_rfl) ?_ _
      go_wp2_with fail
      all_goals go_ret
      all_goals exact ⟨by rw [HMX.out]; first | (rw [if_pos (by omega)]; rfl) | (rw [if_neg (by omega)]; rfl), HB3.out.drew⟩
    exact AllReadyF.nil
  exact AllReadyF.nil
end Go.Proofs.YtcigobiolbojhaaGreat.Vb

/- CoreStands: the steps, one behind the other. -/
namespace Go.Proofs.YtcigobiolbojhaaGreat.Vb
open Go.RowKit

def atOf (pre : List (Int × List Int)) : Int := match pre.getLast? with | some x => x.1 | none => -1
def lastOf (pre : List (Int × List Int)) : Int := match pre.getLast? with | some x => sumI x.2 | none => -1
theorem atOf_snoc (pre : List (Int × List Int)) (x : Int × List Int) : atOf (pre ++ [x]) = x.1 := by simp [atOf]
theorem lastOf_snoc (pre : List (Int × List Int)) (x : Int × List Int) : lastOf (pre ++ [x]) = sumI x.2 := by simp [lastOf]

section
variable {n : Int} {bs : List (List Off)}
def zipTo (n : Int) (bs : List (List Off)) (k : Nat) : List (Int × List Int) := (whoTo (bestC n bs) k).zip (rowsTo n bs k)
theorem zipTo_yes {k : Nat} (h : winB (bestC n bs) k = true) : zipTo n bs (k + 1) = zipTo n bs k ++ [((k : Int), payTo n bs (k + 1))] := by
  unfold zipTo
  have hr : rowsTo n bs (k + 1) = rowsTo n bs k ++ [payTo n bs (k + 1)] := by simp [rowsTo, h]
  rw [whoTo_yes h, hr, List.zip_append (by rw [rowsTo_len])]
  rfl
theorem zipTo_no {k : Nat} (h : winB (bestC n bs) k = false) : zipTo n bs (k + 1) = zipTo n bs k := by
  unfold zipTo
  have hr : rowsTo n bs (k + 1) = rowsTo n bs k := by simp [rowsTo, h]
  rw [whoTo_no h, hr]
theorem payTo_no {k : Nat} (h : winB (bestC n bs) k = false) : payTo n bs (k + 1) = payTo n bs k := by
  show payStep n bs (payTo n bs k) k = _
  unfold payStep
  rw [if_neg (by rw [h]; simp)]

theorem sumI_nonneg {l : List Int} (h : ∀ x ∈ l, 0 ≤ x) : 0 ≤ sumI l := by
  induction l with
  | nil => simp [sumI]
  | cons a l ih =>
    have h1 := h a (by simp)
    have h2 := ih (fun x hx => h x (by simp [hx]))
    simp only [sumI]
    omega
theorem pay_sum_nonneg (hi : instE n bs = 0) (hwf : ∀ l ∈ bs, ∀ o ∈ l, o.wf) {p : List Int} (hok : payL p (bidsC n bs) = true) : 0 ≤ sumI p := sumI_nonneg fun x hx => (pay_bd hi hwf hok x hx).1

/-- what holds behind k buyers -/
theorem zip_inv (hi : instE n bs = 0) (hwf : ∀ l ∈ bs, ∀ o ∈ l, o.wf) : ∀ k, k ≤ bs.length →
    (atOf (zipTo n bs k) < k ∧ ((zipTo n bs k = [] ∧ payTo n bs k = bidsC n bs ∧ ∀ j, j < k → winB (bestC n bs) j = false) ∨ (zipTo n bs k ≠ [] ∧ lastOf (zipTo n bs k) = sumI (payTo n bs k)))) ∧
    ∀ pre x, pre ++ [x] <+: zipTo n bs k → FreeP n bs x.2 ∧ atOf pre < x.1 ∧ 0 ≤ x.1 ∧ x.1 < (bs.length : Int) ∧ (pre ≠ [] → sumI x.2 ≤ lastOf pre)
  | 0, _ => ⟨⟨by show (-1 : Int) < 0; decide, .inl ⟨rfl, rfl, fun j h => by omega⟩⟩, fun pre x h => by
      have := h.length_le
      simp [zipTo, whoTo] at this⟩
  | k + 1, hk => by
    obtain ⟨⟨h1, h2⟩, h3⟩ := zip_inv hi hwf k (by omega)
    cases hw : winB (bestC n bs) k with
    | false =>
      rw [zipTo_no hw, payTo_no hw]
      refine ⟨⟨by omega, ?_⟩, h3⟩
      rcases h2 with ⟨a, b, c⟩ | h2
      · refine .inl ⟨a, b, fun j hj => ?_⟩
        by_cases hjk : j = k
        · subst hjk; exact hw
        · exact c j (by omega)
      · exact .inr h2
    | true =>
      rw [zipTo_yes hw]
      have hs := sum_step hi hwf (show k < bs.length by omega)
      refine ⟨⟨by rw [atOf_snoc]; simp only; omega, .inr ⟨by simp, by rw [lastOf_snoc]⟩⟩, fun pre x h => ?_⟩
      rw [List.prefix_concat_iff] at h
      rcases h with h | h
      · have h4 := List.append_inj' h rfl
        obtain rfl := List.singleton_inj.1 h4.2
        obtain rfl := h4.1
        refine ⟨free_to hi hwf (k + 1) hk, h1, by simp only; omega, by simp only; omega, fun hne => ?_⟩
        rcases h2 with ⟨a, _⟩ | ⟨_, h2⟩
        · exact absurd a hne
        · rw [h2]; exact hs
      · exact h3 pre x h
theorem zip_all (hi : instE n bs = 0) : (whoL n bs).zip (rowsL n bs) = zipTo n bs bs.length := by
  unfold whoL rowsL zipTo
  rw [if_pos hi, if_pos hi]
/-- at the end -/
theorem zip_end (hi : instE n bs = 0) (hwf : ∀ l ∈ bs, ∀ o ∈ l, o.wf) : (zipTo n bs bs.length = [] ∧ sumI (payTo n bs bs.length) = 0) ∨ (zipTo n bs bs.length ≠ [] ∧ lastOf (zipTo n bs bs.length) = sumI (payTo n bs bs.length) ∧ 0 ≤ sumI (payTo n bs bs.length)) := by
  have hf := free_to hi hwf bs.length (Nat.le_refl _)
  rcases (zip_inv hi hwf bs.length (Nat.le_refl _)).1.2 with ⟨a, b, c⟩ | ⟨a, b⟩
  · refine .inl ⟨a, ?_⟩
    rw [b]
    have h0 : ∀ x ∈ bidsC n bs, x = 0 := by
      intro x hx
      obtain ⟨i, hi', rfl⟩ := List.getElem_of_mem hx
      have : i < bs.length := by rwa [bidsC_length] at hi'
      exact lose_bid (c i this) (List.getElem?_eq_getElem hi')
    generalize bidsC n bs = l at h0
    clear hf a b c
    induction l with
    | nil => rfl
    | cons x l ih =>
      simp only [sumI]
      rw [h0 x (by simp), ih (fun y hy => h0 y (by simp [hy]))]
      rfl
  · exact .inr ⟨a, b, pay_sum_nonneg hi hwf hf.1⟩
end
end Go.Proofs.YtcigobiolbojhaaGreat.Vb

/- The reference of layer 18: Steps. -/
namespace Go.Proofs.YtcigobiolbojhaaGreat.Vb
open Go.RowKit

theorem et_step : ElemT Tryz.prog 125 128 2 32 := elemT_of Tryz.underlying125 (by omega) (z := .agg #[.int .i64 0, .slice none 0 0]) (by kernel_rfl) rfl
def stepCells : List (Int × List Int) → List Value → List Value
  | z :: zs, u :: vs => .int .i64 z.1 :: u :: stepCells zs vs
  | _, _ => []
theorem stepCells_len : ∀ {zs : List (Int × List Int)} {vs : List Value}, vs.length = zs.length → (stepCells zs vs).length = zs.length * 2
  | [], [], _ => rfl
  | z :: zs, u :: vs, h => by
    have := stepCells_len (zs := zs) (vs := vs) (by simpa using h)
    simp only [stepCells, List.length_cons, this]
    omega
theorem stepCells_snoc : ∀ {zs : List (Int × List Int)} {vs : List Value} (z : Int × List Int) (u : Value), vs.length = zs.length → stepCells (zs ++ [z]) (vs ++ [u]) = stepCells zs vs ++ [.int .i64 z.1, u]
  | [], [], z, u, _ => rfl
  | z0 :: zs, u0 :: vs, z, u, h => by
    have := stepCells_snoc (zs := zs) (vs := vs) z u (by simpa using h)
    simp only [stepCells, List.cons_append, this]
theorem stepCells_at : ∀ {zs : List (Int × List Int)} {vs : List Value} {j : Nat} {z : Int × List Int} {u : Value}, zs[j]? = some z → vs[j]? = some u → (stepCells zs vs)[j * 2]? = some (.int .i64 z.1) ∧ (stepCells zs vs)[j * 2 + 1]? = some u
  | [], _, j, z, u, h, _ => by simp at h
  | _ :: _, [], j, z, u, _, h => by simp at h
  | z0 :: zs, u0 :: vs, 0, z, u, h1, h2 => by
    simp at h1 h2
    subst h1 h2
    exact ⟨rfl, rfl⟩
  | z0 :: zs, u0 :: vs, j + 1, z, u, h1, h2 => by
    have := stepCells_at (zs := zs) (vs := vs) (j := j) (z := z) (u := u) (by simpa using h1) (by simpa using h2)
    rw [show (j + 1) * 2 = j * 2 + 1 + 1 from by omega]
    exact this

/-- steps in memory of their own -/
def StepsR (w : World) (lo : Nat) (sl : Value) (zs : List (Int × List Int)) : Prop :=
  ∃ vs : List Value, vs.length = zs.length ∧ w.ownsRow lo 128 2 sl zs.length (stepCells zs vs) ∧ ∀ (j : Nat) (z : Int × List Int), zs[j]? = some z → ∃ u, vs[j]? = some u ∧ Sl w (fun b => lo ≤ b ∧ sl.ownBlock ≠ some b) u z.2.length 1 (ints z.2)
theorem StepsR.grow {w w' : World} {lo : Nat} {sl : Value} {zs : List (Int × List Int)} (h : StepsR w lo sl zs) (hb : Below w.heap.size w w') : StepsR w' lo sl zs := by
  obtain ⟨vs, h1, h2, h3⟩ := h
  exact ⟨vs, h1, own_grow h2 hb, fun j z hj => let ⟨u, hu, hs⟩ := h3 j z hj; ⟨u, hu, hs.grow hb⟩⟩
/-- what is written lies above lo, in no row of the steps -/
theorem StepsR.keep {w w' : World} {lo hi : Nat} {sl : Value} {zs : List (Int × List Int)} (h : StepsR w lo sl zs) (hk : KeepR lo hi w w') (hh : hi = w.heap.size) : StepsR w' lo sl zs := by
  subst hh
  obtain ⟨vs, h1, h2, h3⟩ := h
  refine ⟨vs, h1, ?_, fun j z hj => ?_⟩
  · obtain ⟨a, b | ⟨g, cap, cur, hv, hgb, hcur, hrest⟩⟩ := h2
    · exact ⟨a, .inl b⟩
    · exact ⟨a, .inr ⟨g, cap, cur, hv, hgb, (hk.same g hgb (Array.getElem?_eq_some_iff.1 hcur).1).trans hcur, hrest⟩⟩
  · obtain ⟨u, hu, hs⟩ := h3 j z hj
    refine ⟨u, hu, ?_⟩
    have := (hk.sl (hs.mono fun b hlt hb => ⟨hb.1, hlt⟩) : Sl w' (fun b => lo ≤ b ∧ b < w.heap.size) u z.2.length 1 (ints z.2))
    exact (Sl.keep (R := fun b => lo ≤ b ∧ sl.ownBlock ≠ some b) hs hk.size fun b hlt hb => hk.same b hb.1 hlt)

theorem sl_app {w w' : World} {lo n sz : Nat} {v u : Value} {m : Nat} {xs : List Value} {A' : Option Addr} {cap' : Nat} (h : Sl w (fun b => lo ≤ b ∧ v.ownBlock ≠ some b) u n sz xs) (hg : w.grownBy w' v.ownBlock)
    (hloc : (Value.slice A' m cap').ownBlock = v.ownBlock ∨ (Value.slice A' m cap').ownBlock = some w.heap.size) : Sl w' (fun b => lo ≤ b ∧ (Value.slice A' m cap').ownBlock ≠ some b) u n sz xs := by
  refine (h.sized.grown hg fun b _ hb e => hb.1.2 e.symm).mono fun b _ hb => ⟨hb.1.1, fun e => ?_⟩
  rcases hloc with e' | e'
  · exact hb.1.2 (e'.symm.trans e)
  · rw [e'] at e
    injection e with e
    omega
theorem StepsR.snoc {w w' : World} {lo m : Nat} {v : Value} {zs : List (Int × List Int)} {vs : List Value} {z : Int × List Int} {u : Value} {A' : Option Addr} {cap' : Nat} (hm : zs.length = m) (hv : vs.length = zs.length)
    (ho : ∀ (j : Nat) (z : Int × List Int), zs[j]? = some z → ∃ u, vs[j]? = some u ∧ Sl w (fun b => lo ≤ b ∧ v.ownBlock ≠ some b) u z.2.length 1 (ints z.2))
    (hu : Sl w (fun b => lo ≤ b ∧ v.ownBlock ≠ some b) u z.2.length 1 (ints z.2))
    (hown : w'.ownsRow lo 128 2 (.slice A' (m + 1) cap') (m + 1) (stepCells zs vs ++ [.int .i64 z.1, u])) (hg : w.grownBy w' v.ownBlock)
    (hloc : (Value.slice A' (m + 1) cap').ownBlock = v.ownBlock ∨ (Value.slice A' (m + 1) cap').ownBlock = some w.heap.size) : StepsR w' lo (.slice A' (m + 1) cap') (zs ++ [z]) := by
  subst hm
  refine ⟨vs ++ [u], by simp [hv], by rw [stepCells_snoc z u hv]; simpa using hown, fun j z' hj => ?_⟩
  by_cases hlt : j < zs.length
  · rw [List.getElem?_append_left hlt] at hj
    obtain ⟨u', hu', hs'⟩ := ho j z' hj
    exact ⟨u', by rw [List.getElem?_append_left (by omega)]; exact hu', sl_app hs' hg hloc⟩
  · have : j = zs.length := by
      rcases Nat.lt_or_ge j (zs ++ [z]).length with h | h
      · simp at h; omega
      · rw [List.getElem?_eq_none h] at hj; cases hj
    subst this
    simp at hj
    subst hj
    exact ⟨u, by rw [← hv]; simp, sl_app hu hg hloc⟩

set_option maxHeartbeats 800000 in
theorem refSteps_err (n : Int) (bs : List (List Off)) (v : Value) (R : Nat → Prop) (w : World) (hl : Buys w R v bs) (hi : instE n bs ≠ 0) :
    Calls Tryz.prog 64 #[.agg #[.int .i64 n, v]] w fun e w' => e = .returned (.slice none 0 0) ∧ Below w.heap.size w w' := by
  obtain ⟨_, ⟨_, A, cap, rfl, _⟩, _⟩ := id hl
  have HB := Lib.hid hl
  have HI := Lib.hid hi
  have hne : (instE n bs != 0) = true := by simpa using hi
  clear hl hi
  go_enter Tryz.func64, Tryz.ntmps64
  go_wp2_with fail
  refine (refBids_err n bs _ R _ (HB.out.alloc _) HI.out).mono ?_
  rintro e w1 ⟨rfl, hb1⟩
  have HB1 := Lib.hid (one_blk' hb1).2.2
  clear hb1
  go_wp2_with fail
  go_ret
  exact ⟨rfl, HB1.out⟩

set_option maxRecDepth 100000 in
set_option maxHeartbeats 3200000 in
theorem refSteps_ok (n : Int) (bs : List (List Off)) (v : Value) (R : Nat → Prop) (w : World) (hl : Buys w R v bs) (hi : instE n bs = 0) :
    Calls Tryz.prog 64 #[.agg #[.int .i64 n, v]] w fun e w' => ∃ A' c', e = .returned (.slice A' (zipTo n bs bs.length).length c') ∧ StepsR w' w.heap.size (.slice A' (zipTo n bs bs.length).length c') (zipTo n bs bs.length) ∧ Below w.heap.size w w' := by
  obtain ⟨_, ⟨_, A, cap, rfl, _⟩, _⟩ := id hl
  have HB := Lib.hid hl
  have HI := Lib.hid hi
  have HWF := Lib.hid (Buys.wf hl)
  have hl32 := (instE_zero hi).2.2.1
  clear hl hi
  go_enter Tryz.func64, Tryz.ntmps64
  go_wp2_with fail
  refine (refBids_ok n bs _ R _ (HB.out.alloc _) HI.out).mono ?_
  rintro e w1 ⟨A1, c1, A2, c2, rfl, hown1, hown2, hb1⟩
  obtain ⟨hX, hs1, hbw⟩ := one_blk' hb1
  have HX := Lib.hid hX
  have HBI := Lib.hid (Sl.of_own hown1).any
  have HWI := Lib.hid (Sl.of_own hown2).any
  have HBW := Lib.hid hbw
  clear hX hbw hown1 hown2 hb1
  go_wp2_with (at_builtin; refine wpList_app _ rfl (.const (.slice none 0 0)) (.tmp 18) et_i64 rfl w1.heap.size (.slice none 0 0) 0 [] rfl (World.ownsRow_nil _ _ _ _) _ _ bs.length (ints (bidsC n bs)) rfl HBI.out (by simp [ints, Value.oneCell']) (by omega) (by unfold maxLen; omega) (Nat.le_refl _) ?_; intro A3 c3 w3 hown3 hg3 _; rw [Nat.zero_add] at hown3 ⊢; rw [List.nil_append] at hown3; have HOW3 := Lib.hid hown3; have HG3 := Lib.hid ((Below.refl w1.heap.size w1).grown hg3 (Nat.le_refl _) (fun r e => by cases e)); clear hown3 hg3)
  go_loopw [6, 7, 8] (fun s1 s2 i wr => ∃ (k : Nat) (Ao : Option Addr) (co : Nat) (Ap : Option Addr) (cp : Nat), k ≤ bs.length ∧ i = .int .i64 k ∧ s1 = .slice Ao (zipTo n bs k).length co ∧ s2 = .slice Ap bs.length cp ∧
      StepsR wr w1.heap.size (.slice Ao (zipTo n bs k).length co) (zipTo n bs k) ∧ Sl wr (fun b => w1.heap.size ≤ b ∧ (Value.slice Ao (zipTo n bs k).length co).ownBlock ≠ some b) (.slice Ap bs.length cp) bs.length 1 (ints (payTo n bs k)) ∧ Below w1.heap.size w1 wr) (fun _ _ i _ => bs.length - (intOf i).toNat)
  case atStart =>
    refine ⟨0, none, 0, A3, c3, Nat.zero_le _, rfl, rfl, rfl, ⟨[], rfl, World.ownsRow_nil _ _ _ _, fun j z hj => by simp [zipTo, whoTo] at hj⟩, ?_, HG3.out⟩
    exact (Sl.own_from HOW3.out).mono fun b _ hb => ⟨hb, by simp [Value.ownBlock]⟩
  case round =>
    obtain ⟨k, Ao, co, Ap, cp, hk, rfl, rfl, rfl, hst, hpy, hb⟩ := hrel
    have hbw := HBW.out.trans (hb.mono (B' := w.heap.size) (by omega))
    have hsz := hb.size
    have hXr := HX.out.below hb (by omega)
    have x0 : wr.cell? ⟨w.heap.size, 0, none⟩ = some (.int .i64 n) := hXr.cell 0
    have x1 : wr.cell? ⟨w.heap.size, 1, none⟩ = some (.slice A bs.length cap) := hXr.cell 1
    have HXR := Lib.hid hXr
    have HST := Lib.hid hst
    have HPY := Lib.hid hpy
    have HBB := Lib.hid hb
    have HBWR := Lib.hid hbw
    clear hst hpy hXr
    by_cases hlt : k < bs.length
    · have hwg := winL_get (n := n) hlt
      obtain ⟨_, A2', c2', hv2, _, _, hcw⟩ := HWI.out
      injection hv2 with hv21 _ hv22
      subst hv21 hv22
      obtain ⟨gW, oW, rfl, _, hgW, hcw⟩ := hcw (by omega)
      have dW := (hb.cell hgW).trans (hcw k _ (show (bools (winL n bs))[k]? = some (.bool (winB (bestC n bs) k)) from by simp [bools, hwg]))
      have e1 : (0 : Int) ≤ (k : Int) := by omega
      have e2 : (k : Int) < (bs.length : Int) := by omega
      have hzl : (zipTo n bs k).length ≤ 40 := by unfold zipTo; rw [List.length_zip, rowsTo_len, Nat.min_self]; exact Nat.le_trans (whoTo_len _ _) (by omega)
      clear hcw hwg hb hbw
      cases hw : winB (bestC n bs) k with
      | false =>
        rw [hw] at dW
        have HZ := Lib.hid (zipTo_no hw)
        have HPN := Lib.hid (payTo_no hw)
        clear hw
        go_wp2_with fail
        go_roundw
        case rel => exact ⟨k + 1, Ao, co, Ap, cp, by omega, by go_num, by rw [HZ.out], rfl, by rw [HZ.out]; exact HST.out, by rw [HZ.out, HPN.out]; exact HPY.out, HBB.out⟩
        case measure => simp [intOf]; omega
      | true =>
        rw [hw] at dW
        have HZ := Lib.hid (zipTo_yes hw)
        have hpe : payTo n bs (k + 1) = (payTo n bs k).set k (leastI n bs (payTo n bs k) k) := by
          show payStep n bs (payTo n bs k) k = _
          unfold payStep
          rw [if_pos hw]
        have HPE := Lib.hid hpe
        have hpl := payTo_len HI.out HWF.out (k := k) (by omega)
        have hpok := (free_to HI.out HWF.out k (by omega)).1
        have HPL := Lib.hid hpl
        have HPO := Lib.hid hpok
        clear hw hpe hpl hpok
        go_wp2_with (at_builtin; refine wpList_app _ rfl (.const (.slice none 0 0)) (.tmp 31) et_i64 rfl wr.heap.size (.slice none 0 0) 0 [] rfl (World.ownsRow_nil _ _ _ _) _ _ bs.length (ints (payTo n bs k)) rfl HPY.out (by simp [ints, Value.oneCell']) (by omega) (by unfold maxLen; omega) (Nat.le_refl _) ?_; intro A4 c4 w4 hown4 hg4 _; rw [Nat.zero_add] at hown4 ⊢; rw [List.nil_append] at hown4; have hg4' := (Below.refl wr.heap.size wr).grown hg4 (Nat.le_refl _) (fun r e => by cases e); have y0 : w4.cell? ⟨w.heap.size, 0, none⟩ = some (.int .i64 n) := (HXR.out.grow hg4').cell 0; have y1 : w4.cell? ⟨w.heap.size, 1, none⟩ = some (.slice A bs.length cap) := (HXR.out.grow hg4').cell 1; have HOW4 := Lib.hid hown4; have HG4 := Lib.hid hg4'; clear hown4 hg4 hg4')
        obtain ⟨g4, rfl, hg4a, hg4b, _, _, _⟩ := own_some HOW4.out (by omega)
        refine (refLeast18_any n bs _ _ (payTo n bs k) (.slice Ap bs.length cp) _ _ R k hlt w4 (HB.out.grow (HBWR.out.trans (HG4.out.mono (by omega)))) ((HBI.out.grow (HBB.out.mono (by omega))).grow HG4.out) (by rw [HPL.out]; exact HPY.out.grow HG4.out) HI.out HPO.out).mono ?_
        rintro e w5 ⟨rfl, hb5⟩
        obtain ⟨vs, hvl, hso, hsp⟩ := HST.out
        have hb45 := HG4.out.trans (hb5.mono HG4.out.size)
        have hown5 := own_grow HOW4.out hb5
        obtain ⟨g5, hg5, _, _, _, hfz, hce⟩ := own_some hown5 (by omega)
        obtain rfl : g4 = g5 := by simpa using hg5
        obtain ⟨u5, _, hc5⟩ := hce k hlt
        have hf5 := hfz k
        have hgo : ∀ g, (Value.slice Ao (zipTo n bs k).length co).ownBlock = some g → g ≠ g4 := fun g e => by have := (hso.lt g e).2; omega
        have hst5 := hown5.stored k (.int .i64 (leastI n bs (payTo n bs k) k))
        have hset : ints (payTo n bs (k + 1)) = (ints (payTo n bs k)).set k (.int .i64 (leastI n bs (payTo n bs k) k)) := by rw [HPE.out]; simp [ints]
        rw [← hset] at hst5
        obtain ⟨w6, hw6⟩ : ∃ V, V = (w5.setCell ⟨g4, k, none⟩ (.int .i64 (leastI n bs (payTo n bs k) k))).alloc (.cells #[.int .i64 (k : Int), .slice (some ⟨g4, 0, none⟩) bs.length c4] 128) := ⟨_, rfl⟩
        have hs56 : w6.heap.size = w5.heap.size + 1 := by rw [hw6]; simp [World.setCell]
        have hs45 := hb5.size
        have hs34 := HG4.out.size
        have hso6 : w6.ownsRow w1.heap.size 128 2 (.slice Ao (zipTo n bs k).length co) (zipTo n bs k).length (stepCells (zipTo n bs k) vs) := by
          rw [hw6]; exact own_alloc (own_far (own_grow hso hb45) (grownBy_setCell w5 ⟨g4, k, none⟩ _) (fun g e e2 => by simp at e; exact hgo g e2 e.symm)) _
        have hsp6 : ∀ (j : Nat) (z : Int × List Int), (zipTo n bs k)[j]? = some z → ∃ u, vs[j]? = some u ∧ Sl w6 (fun b => w1.heap.size ≤ b ∧ (Value.slice Ao (zipTo n bs k).length co).ownBlock ≠ some b) u z.2.length 1 (ints z.2) := fun j z hj => by
          obtain ⟨u, hu, hs⟩ := hsp j z hj
          refine ⟨u, hu, ?_⟩
          have h1 := (hs.grow hb45).sized
          rw [hw6]
          refine Sl.alloc ?_ _
          have h2 : Sl w5 (fun b => b < wr.heap.size ∧ w1.heap.size ≤ b ∧ (Value.slice Ao (zipTo n bs k).length co).ownBlock ≠ some b) u z.2.length 1 (ints z.2) := (hs.mono fun b hlt hb => ⟨hlt, hb.1, hb.2⟩).grow hb45
          exact (h2.set (p := ⟨g4, k, none⟩) (by simp; omega) _).mono fun b _ hb => hb.2
        have hn6 : Sl w6 (fun b => w1.heap.size ≤ b ∧ (Value.slice Ao (zipTo n bs k).length co).ownBlock ≠ some b) (.slice (some ⟨g4, 0, none⟩) bs.length c4) bs.length 1 (ints (payTo n bs (k + 1))) := by
          rw [hw6]
          refine ((Sl.of_own hst5.1).alloc _).mono fun b _ hb => ?_
          have : b = g4 := by simpa [Value.ownBlock] using hb.symm
          subst this
          exact ⟨by omega, fun e => hgo _ e rfl⟩
        have hB6 : Below w1.heap.size w1 w6 := by
          rw [hw6]
          exact ((HBB.out.trans (hb45.mono (by omega))).setCell (p := ⟨g4, k, none⟩) (by simp; omega) _).alloc (by simp [World.setCell]; omega) _
        have hv6 : Sl w6 (fun _ => True) (.slice (some ⟨w5.heap.size, 0, none⟩) 1 1) 1 2 [.int .i64 (k : Int), .slice (some ⟨g4, 0, none⟩) bs.length c4] := by
          rw [hw6]
          exact Sl.blk (sz := 2) (cs := #[.int .i64 (k : Int), .slice (some ⟨g4, 0, none⟩) bs.length c4]) (t := 128) (Blk.new' _ _ (by simp [World.setCell])) (Nat.le_refl 1) (by unfold maxLen; omega) rfl
        have hpl1 := payTo_len HI.out HWF.out (k := k + 1) (by omega)
        have HSO6 := Lib.hid hso6
        have HSP6 := Lib.hid hsp6
        have HN6 := Lib.hid hn6
        have HB6 := Lib.hid hB6
        have HV6 := Lib.hid hv6
        have HVL := Lib.hid hvl
        have HPL1 := Lib.hid hpl1
        clear hvl hso hsp hb45 hown5 hfz hce hgo hst5 hset hso6 hsp6 hn6 hB6 hv6 hpl1 hb5 y0 y1 hg5
        go_wp2_with (at_builtin; rw [← hw6]; refine wpList_app w6 rfl (.tmp 42) (.tmp 46) et_step rfl w1.heap.size (.slice Ao (zipTo n bs k).length co) (zipTo n bs k).length (stepCells (zipTo n bs k) vs) rfl HSO6.out (fun _ => True) (.slice (some ⟨w5.heap.size, 0, none⟩) 1 1) 1 [.int .i64 (k : Int), .slice (some ⟨g4, 0, none⟩) bs.length c4] rfl HV6.out (by simp [Value.oneCell']) (by omega) (by unfold maxLen; omega) (by omega) ?_; intro A7 c7 w7 hown7 hg7 hloc7; have HW7 := Lib.hid hown7; have HG7 := Lib.hid hg7; have HL7 := Lib.hid hloc7; clear hown7 hg7 hloc7)
        go_roundw
        case rel =>
          have hlen : (zipTo n bs (k + 1)).length = (zipTo n bs k).length + 1 := by rw [HZ.out]; simp
          refine ⟨k + 1, A7, c7, some ⟨g4, 0, none⟩, c4, by omega, by go_num, by rw [hlen], rfl, ?_, ?_, ?_⟩
          · rw [hlen, HZ.out]
            exact StepsR.snoc (z := ((k : Int), payTo n bs (k + 1))) (u := .slice (some ⟨g4, 0, none⟩) bs.length c4) rfl HVL.out HSP6.out (by rw [HPL1.out]; exact HN6.out) HW7.out HG7.out HL7.out
          · rw [hlen]
            exact sl_app HN6.out HG7.out HL7.out
          · exact HB6.out.grown HG7.out (by omega) (fun g e => (HSO6.out.lt g e).1)
        case measure => simp [intOf]; omega
    · obtain rfl : k = bs.length := by omega
      clear hb hbw
      go_wp2_with fail
      go_ret
      refine ⟨Ao, co, rfl, ?_, HBWR.out⟩
      obtain ⟨vs, h1, h2, h3⟩ := HST.out
      exact ⟨vs, h1, own_mono h2 (by omega), fun j z hj => let ⟨u, hu, hs⟩ := h3 j z hj; ⟨u, hu, hs.mono fun b _ hb => ⟨by omega, hb.2⟩⟩⟩
end Go.Proofs.YtcigobiolbojhaaGreat.Vb

/- The reference of layer 18: Pay. -/
namespace Go.Proofs.YtcigobiolbojhaaGreat.Vb
open Go.RowKit

theorem zip_last (n : Int) (bs : List (List Off)) : ∀ k, (zipTo n bs k = [] ∧ payTo n bs k = bidsC n bs) ∨ ∃ (m : Nat) (a : Int), (zipTo n bs k).length = m + 1 ∧ (zipTo n bs k)[m]? = some (a, payTo n bs k)
  | 0 => .inl ⟨rfl, rfl⟩
  | k + 1 => by
    cases hw : winB (bestC n bs) k with
    | false =>
      rw [zipTo_no hw, payTo_no hw]
      exact zip_last n bs k
    | true =>
      rw [zipTo_yes hw]
      exact .inr ⟨(zipTo n bs k).length, k, by simp, by simp⟩

set_option maxHeartbeats 800000 in
theorem refPay_err (n : Int) (bs : List (List Off)) (v : Value) (R : Nat → Prop) (w : World) (hl : Buys w R v bs) (hi : instE n bs ≠ 0) :
    Calls Tryz.prog 39 #[.agg #[.int .i64 n, v]] w fun e w' => e = .returned (.tuple #[.slice none 0 0, .int .i64 (instE n bs)]) ∧ Below w.heap.size w w' := by
  obtain ⟨_, ⟨_, A, cap, rfl, _⟩, _⟩ := id hl
  have HB := Lib.hid hl
  have HI := Lib.hid hi
  have hne : (instE n bs != 0) = true := by simpa using hi
  clear hl hi
  go_enter Tryz.func39, Tryz.ntmps39
  go_wp2_with fail
  refine (refBids_err n bs _ R _ (HB.out.alloc _) HI.out).mono ?_
  rintro e w1 ⟨rfl, hb1⟩
  have HB1 := Lib.hid (one_blk' hb1).2.2
  clear hb1
  go_wp2_with fail
  go_ret2
  exact ⟨rfl, HB1.out⟩

set_option maxRecDepth 100000 in
set_option maxHeartbeats 1600000 in
theorem refPay_ok (n : Int) (bs : List (List Off)) (v : Value) (R : Nat → Prop) (w : World) (hl : Buys w R v bs) (hi : instE n bs = 0) :
    Calls Tryz.prog 39 #[.agg #[.int .i64 n, v]] w fun e w' => ∃ A' c', e = .returned (.tuple #[.slice A' bs.length c', .int .i64 0]) ∧ Sl w' (w.heap.size ≤ ·) (.slice A' bs.length c') bs.length 1 (ints (payTo n bs bs.length)) ∧ Below w.heap.size w w' := by
  obtain ⟨_, ⟨_, A, cap, rfl, _⟩, _⟩ := id hl
  have HB := Lib.hid hl
  have HI := Lib.hid hi
  have hpl := payTo_len hi (Buys.wf hl) (Nat.le_refl bs.length)
  have HPL := Lib.hid hpl
  clear hl hi hpl
  go_enter Tryz.func39, Tryz.ntmps39
  go_wp2_with fail
  refine (refBids_ok n bs _ R _ (HB.out.alloc _) HI.out).mono ?_
  rintro e w1 ⟨A1, c1, A2, c2, rfl, hown1, _, hb1⟩
  obtain ⟨hX, hs1, hbw⟩ := one_blk' hb1
  have x0 : w1.cell? ⟨w.heap.size, 0, none⟩ = some (.int .i64 n) := hX.cell 0
  have x1 : w1.cell? ⟨w.heap.size, 1, none⟩ = some (.slice A bs.length cap) := hX.cell 1
  have HO1 := Lib.hid hown1
  have HBW := Lib.hid hbw
  clear hX hbw hown1 hb1
  go_wp2_with fail
  refine (refSteps_ok n bs _ R _ (HB.out.grow HBW.out) HI.out).mono ?_
  rintro e w2 ⟨A3, c3, rfl, hst, hb2⟩
  have hlast := zip_last n bs bs.length
  have HST := Lib.hid hst
  have HO2 := Lib.hid (own_grow HO1.out hb2)
  have HB2 := Lib.hid (HBW.out.trans (hb2.mono HBW.out.size))
  have hs2 := HBW.out.size
  clear hst hb2 x0 x1
  rcases hlast with ⟨hz, hp⟩ | ⟨m, a, hlen, hz⟩
  · have hz0 : (zipTo n bs bs.length).length = 0 := by rw [hz]; rfl
    rw [hz0]
    have HP := Lib.hid hp
    clear hz hz0 hp
    go_wp2_with fail
    go_ret2
    refine ⟨A1, c1, rfl, ?_, HB2.out⟩
    rw [HP.out]
    exact (Sl.own_from HO2.out).mono fun b _ hb => by simp at hb; omega
  · obtain ⟨vs, hvl, hso, hsp⟩ := HST.out
    obtain ⟨u, hu, hs⟩ := hsp m _ hz
    have hcl := (stepCells_at hz hu).2
    have hml : m < 9223372036854775806 := by
      have h1 : (zipTo n bs bs.length).length ≤ bs.length := by unfold zipTo; rw [List.length_zip, rowsTo_len, Nat.min_self]; exact whoTo_len _ _
      have h2 := (instE_zero HI.out).2.2.1
      omega
    obtain ⟨g, c', hv, hg1, hg2⟩ := World.ownsRow.form hso (by omega)
    injection hv with hv1 _ hv2
    subst hv1 hv2
    have hcell := hso.cellAt (m * 2 + 1) (by omega)
    rw [hcl] at hcell
    obtain ⟨_, Au, cu, rfl, _⟩ := id hs
    rw [hlen]
    rw [HPL.out] at hs hcell
    have HS := Lib.hid hs
    have e1 : (0 : Int) ≤ (m : Int) := by omega
    clear hz hlen hvl hso hsp hu hs hcl
    go_wp2_with fail
    go_ret2
    refine ⟨Au, cu, rfl, ?_, HB2.out⟩
    exact HS.out.mono fun b _ hb => by have := hb.1; omega
end Go.Proofs.YtcigobiolbojhaaGreat.Vb

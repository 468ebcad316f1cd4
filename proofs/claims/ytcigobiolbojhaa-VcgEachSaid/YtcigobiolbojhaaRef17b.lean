/- The reference of layer 17: Best. -/
import Derived.Test.YtcigobiolbojhaaRef17a
namespace Go.Proofs.Ytcigobiolbojhaa.Vb
open Go.RowKit

set_option maxRecDepth 100000 in
set_option maxHeartbeats 3200000 in
theorem refBest_any (n : Int) (bs : List (List Off)) (v : Value) (R : Nat → Prop) (w : World) (hl : Buys w R v bs) (hi : instE n bs = 0) :
    Calls Try.prog 80 #[.agg #[.int .i64 n, v]] w fun e w' => ∃ A' cap', e = .returned (.slice A' bs.length cap') ∧
      w'.ownsRow w.heap.size 3 1 (.slice A' bs.length cap') bs.length (ints (bestC n bs)) ∧ Below w.heap.size w w' := by
  have hok := (okb_of hl.wf hi).1
  obtain ⟨hn1, hn2, hl32, _⟩ := instE_zero hi
  obtain ⟨m, rfl⟩ := Int.eq_ofNat_of_zero_le (show 0 ≤ n by omega)
  have hm0 : 1 ≤ m := by omega
  have hm1 : m ≤ 10 := by omega
  obtain ⟨S, hS⟩ : ∃ S, S = 2 ^ m := ⟨_, rfl⟩
  have hS1 : S ≤ 1024 := by rw [hS]; exact Nat.le_trans (Nat.pow_le_pow_right (by omega) hm1) (by decide)
  have hS0 : 0 < S := by rw [hS]; exact Nat.two_pow_pos m
  have hal : bestC (m : Int) bs = choose bs (S - 1) := by unfold bestC; rw [allOf_nat hm1, hS]
  have hall : ((2 ^ m - 1 : Nat) : Int) = ((S - 1 : Nat) : Int) := by rw [hS]
  obtain ⟨vs, ⟨_, A, cap, rfl, hnc, hcm, hcs⟩, hvs⟩ := id hl
  have HB := Lib.hid hl
  have HAL := Lib.hid hal
  have HALL := Lib.hid hall
  have HS := Lib.hid hS
  have HOK := Lib.hid hok
  have HCS := Lib.hid hcs
  have HVS := Lib.hid hvs
  clear hl hi hal hS hok hall hcs hvs hcm
  go_enter Try.func80, Try.ntmps80
  go_wp2_with (first
    | (go_at_call 116; refine (table_any m S hm0 hm1 HS.out bs _ R _ (HB.out.alloc _) HOK.out).mono ?_; rintro e w1 ⟨gT, hi, F, rfl, hT, hg, hb1⟩; obtain ⟨hX, hs1, hbw⟩ := one_blk' hb1; have x0 : w1.cell? ⟨w.heap.size, 0, none⟩ = some (.int .i64 m) := hX.cell 0; have x1 : w1.cell? ⟨w.heap.size, 1, none⟩ = some (.slice A bs.length cap) := hX.cell 1; have HT := Lib.hid hT; have HX := Lib.hid hX; have HBW := Lib.hid hbw; clear hb1 hT hX hbw)
    | (go_at_call 117; refine (refAll_any m hm0 hm1 _).mono ?_; rintro e w2 ⟨rfl, rfl⟩; rw [HALL.out]))
  go_loopw [4, 5, 6] (fun fr sl i wr => ∃ (k fi : Nat) (cs : List Int) (A' : Option Addr) (cap' : Nat), k ≤ bs.length ∧ i = .int .i64 k ∧ fr = .int .u32 fi ∧ sl = .slice A' k cap' ∧ fi < S ∧ choose bs (S - 1) = cs ++ choose (bs.drop k) fi ∧
      wr.ownsRow w1.heap.size 3 1 (.slice A' k cap') k (ints cs) ∧ Below w1.heap.size w1 wr)
    (fun _ _ i _ => bs.length - (intOf i).toNat)
  case atStart => exact ⟨0, S - 1, [], none, 0, Nat.zero_le _, rfl, rfl, rfl, by omega, rfl, World.ownsRow_nil _ _ _ _, Below.refl _ _⟩
  case round =>
    obtain ⟨wo, rfl⟩ : ∃ wo : World, wo = wr := ⟨_, rfl⟩
    obtain ⟨k, fi, cs, A', cap', hk, rfl, rfl, rfl, hfi, hch, hown, hb⟩ := hrel
    have HOWN := Lib.hid hown
    have HCH := Lib.hid hch
    have HBB := Lib.hid hb
    have hxo : Blk wo w.heap.size 24 #[.int .i64 m, .slice A bs.length cap] := HX.out.grow hb
    have o1 : wo.cell? ⟨w.heap.size, 1, none⟩ = some (.slice A bs.length cap) := hxo.cell 1
    have hbo : Below w.heap.size w wo := HBW.out.trans (hb.mono (by omega))
    have hto := HT.out.grow hb
    have hlo := hb.size
    clear x0 x1
    by_cases hlt : k < bs.length
    · obtain ⟨bq, off, rfl, _, hbq, hcs⟩ := HCS.out (by omega)
      obtain ⟨l, hl⟩ : ∃ l, bs[k]? = some l := ⟨_, List.getElem?_eq_getElem hlt⟩
      obtain ⟨u, hu, hol⟩ := HVS.out k l hl
      have cl := hcs k u hu
      have HL := Lib.hid hl
      have hl8 : l.length ≤ 8 := HOK.out.len hl
      obtain ⟨⟨_, A1, cap1, rfl, hnc1, hcm1, hcs1⟩, _⟩ := hol
      unfold maxLen at hcm1
      have HC1 := Lib.hid hcs1
      have HCL := Lib.hid cl
      have HXO := Lib.hid hxo
      have HBO := Lib.hid hbo
      have HTO := Lib.hid hto
      have hk0 : (0 : Int) ≤ (k : Int) := by omega
      clear hcs hu hl hcs1 cl hxo hbo hto hb hown hch
      go_wp2_with fail
      clear o1
      go_loopw [7, 8] (fun nn i wr2 => ∃ j : Nat, j ≤ l.length ∧ i = .int .i64 j ∧ ((nn = .int .i64 (-1) ∧ ∀ (i : Nat) (x : Off), i < j → l[i]? = some x → pickB (W (bs.drop (k + 1))) fi (W (bs.drop k) fi) x = false) ∨
            ∃ (jj : Nat) (o : Off), nn = .int .i64 jj ∧ l[jj]? = some o ∧ pickB (W (bs.drop (k + 1))) fi (W (bs.drop k) fi) o = true ∧ ∀ (i : Nat) (x : Off), i < jj → l[i]? = some x → pickB (W (bs.drop (k + 1))) fi (W (bs.drop k) fi) x = false) ∧
          Below wo.heap.size wo wr2)
        (fun _ i _ => l.length - (intOf i).toNat)
      case atStart => exact ⟨0, Nat.zero_le _, rfl, .inl ⟨rfl, fun i x h => by omega⟩, Below.refl _ _⟩
      case round =>
        obtain ⟨j, hj, rfl, hnn, hb2⟩ := hrel
        have hx2 : Blk wr w.heap.size 24 #[.int .i64 m, .slice (some ⟨bq, off, none⟩) bs.length cap] := HXO.out.grow hb2
        have x1 : wr.cell? ⟨w.heap.size, 1, none⟩ = some (.slice (some ⟨bq, off, none⟩) bs.length cap) := hx2.cell 1
        have hbw2 : Below w.heap.size w wr := HBO.out.trans (hb2.mono (by omega))
        have q1 := (hbw2.cell hbq).trans HCL.out
        have ht2 := HTO.out.grow hb2
        have hl2 := hb2.size
        have HB2 := Lib.hid hb2
        rcases hnn with ⟨rfl, hno⟩ | ⟨jj, o, rfl, ho, hpb, hno⟩
        · by_cases hlj : j < l.length
          · obtain ⟨b1, off1, rfl, _, hb1, hcs1⟩ := HC1.out (by omega)
            obtain ⟨o, ho⟩ : ∃ o, l[j]? = some o := ⟨_, List.getElem?_eq_getElem hlj⟩
            have o0 := (hbw2.cell hb1).trans (hcs1 _ _ (Off.all_fst l j o ho))
            have o1 : wr.cell? ⟨b1, off1 + j * 2 + 1, none⟩ = some (.int .i64 o.c) := (hbw2.cell hb1).trans (hcs1 _ _ (Off.all_snd l j o ho))
            obtain ⟨ho1, ho2, ho3, ho4⟩ := HOK.out.offer HL.out ho
            have hB0 := W_nonneg (bs.drop (k + 1)) (andNot fi o.g)
            have hB1 := HOK.out.W_le (k + 1) (andNot fi o.g)
            have hbits : bits .andNot .u32 (o.g : Int) (fi : Int) = ((andNot o.g fi : Nat) : Int) := u32_andNot_nat o.g fi (by omega) (by omega)
            have hbits2 : bits .andNot .u32 (fi : Int) (o.g : Int) = ((andNot fi o.g : Nat) : Int) := u32_andNot_nat fi o.g (by omega) (by omega)
            have hfo : andNot fi o.g < S := Nat.lt_of_le_of_lt (andNot_le _ _) hfi
            obtain ⟨ga, _, p0, ps⟩ := ht2.at (k := k + 1) (Nat.zero_le _) (by omega)
            obtain ⟨gb, _, p2, ps2⟩ := ht2.at (k := k) (Nat.zero_le _) (by omega)
            have p1 := cellAlloc (ps _ hfo)
            have p3 := cellAlloc (ps2 _ hfi)
            have p0 := cellAlloc p0
            have p2 := cellAlloc p2
            have HO := Lib.hid ho
            have HNO := Lib.hid hno
            clear hcs1 ho hno hb2 hx2 hbw2 ht2 ps ps2
            by_cases hfit : andNot o.g fi = 0
            · have hfb : (((andNot o.g fi : Nat) : Int) == 0) = true := by simp [hfit]
              have HFI := Lib.hid hfit
              have hsum : IntKind.i64.wrap (o.c + W (bs.drop (k + 1)) (andNot fi o.g)) = o.c + W (bs.drop (k + 1)) (andNot fi o.g) := IntWalk.i64_in _ (by omega)
              have hk1 : IntKind.i64.wrap ((k : Int) + 1) = (k : Int) + 1 := IntWalk.i64_in _ (by omega)
              clear hfit
              by_cases heq : o.c + W (bs.drop (k + 1)) (andNot fi o.g) = W (bs.drop k) fi
              · have hpb : pickB (W (bs.drop (k + 1))) fi (W (bs.drop k) fi) o = true := by simp [pickB, HFI.out, heq]
                have HPB := Lib.hid hpb
                have heb : (o.c + W (bs.drop (k + 1)) (andNot fi o.g) == W (bs.drop k) fi) = true := by simp [heq]
                clear heq hpb
                go_wp2_with fail
                go_quiet (fail)
                go_wp2_with fail
                go_roundw
                case rel =>
                  exact ⟨j + 1, by omega, by go_num, .inr ⟨j, o, rfl, HO.out, HPB.out, HNO.out⟩, below_drewN (HB2.out.alloc (by omega) _) _⟩
                case measure => simp [intOf]; omega
              · have hpb : pickB (W (bs.drop (k + 1))) fi (W (bs.drop k) fi) o = false := by simp [pickB, heq]
                have HPB := Lib.hid hpb
                have heb : (o.c + W (bs.drop (k + 1)) (andNot fi o.g) == W (bs.drop k) fi) = false := by simp [heq]
                clear heq hpb
                go_wp2_with fail
                go_quiet (fail)
                go_wp2_with fail
                go_roundw
                case rel =>
                  refine ⟨j + 1, by omega, by go_num, .inl ⟨rfl, fun i x hi hx => ?_⟩, below_drewN (HB2.out.alloc (by omega) _) _⟩
                  by_cases hij : i < j
                  · exact HNO.out i x hij hx
                  · obtain rfl : i = j := by omega
                    rw [HO.out] at hx
                    cases hx
                    exact HPB.out
                case measure => simp [intOf]; omega
            · have hfb : (((andNot o.g fi : Nat) : Int) == 0) = false := by simp [hfit]
              have hpb : pickB (W (bs.drop (k + 1))) fi (W (bs.drop k) fi) o = false := by simp [pickB, hfit]
              have HPB := Lib.hid hpb
              clear hfit hpb
              go_wp2_with fail
              go_quiet (fail)
              go_wp2_with fail
              go_roundw
              case rel =>
                refine ⟨j + 1, by omega, by go_num, .inl ⟨rfl, fun i x hi hx => ?_⟩, below_drewN (HB2.out.alloc (by omega) _) _⟩
                by_cases hij : i < j
                · exact HNO.out i x hij hx
                · obtain rfl : i = j := by omega
                  rw [HO.out] at hx
                  cases hx
                  exact HPB.out
              case measure => simp [intOf]; omega
          · obtain rfl : j = l.length := by omega
            have hpn : pickN (W (bs.drop (k + 1))) fi (W (bs.drop k) fi) l = (-1, fi) := pickN_none hno
            have HPN := Lib.hid hpn
            have HOT := Lib.hid (own_grow HOWN.out hb2)
            clear hno hb2 hpn hx2 hbw2 ht2
            go_wp2_with (at_builtin; refine wpList_app _ rfl (.tmp 87) (.tmp 89) et_int rfl w1.heap.size (.slice A' k cap') k (ints cs) rfl (HOT.out.alloc _) _ _ 1 _ rfl (Sl.new wr #[.int .i64 (-1)] _ 1 1 (by unfold maxLen; omega) rfl) (by simp [Value.oneCell']) (by omega) (by unfold maxLen; omega) (by simp; omega) ?_; intro A3 cap3 w3 hown3 hg3 hloc3; have HG3 := Lib.hid hg3; have HO3 := Lib.hid hown3; clear hg3 hown3 hloc3)
            go_roundw
            case rel =>
              refine ⟨k + 1, fi, cs ++ [(-1)], A3, cap3, by omega, by go_num, rfl, rfl, hfi, ?_, ?_, ?_⟩
              · rw [HCH.out, choose_drop HL.out fi, HPN.out]
                simp
              · simpa [ints] using HO3.out
              · exact ((HBB.out.trans (HB2.out.mono hlo)).alloc (by omega) _).grown HG3.out (by simp; omega) (fun g e => (HOT.out.lt g e).1)
            case measure => simp [intOf]; omega
        · have hpn := pickN_some ho hpb hno
          have hjl : jj < l.length := (List.getElem?_eq_some_iff.1 ho).1
          obtain ⟨b1, off1, rfl, _, hb1, hcs1⟩ := HC1.out (by omega)
          have o0 := (hbw2.cell hb1).trans (hcs1 _ _ (Off.all_fst l jj o ho))
          obtain ⟨ho1, ho2, ho3, ho4⟩ := HOK.out.offer HL.out ho
          have hbits2 : bits .andNot .u32 (fi : Int) (o.g : Int) = ((andNot fi o.g : Nat) : Int) := u32_andNot_nat fi o.g (by omega) (by omega)
          have hfo : andNot fi o.g < S := Nat.lt_of_le_of_lt (andNot_le _ _) hfi
          have hjj : (0 : Int) ≤ (jj : Int) := by omega
          have HPN := Lib.hid hpn
          have HOT := Lib.hid (own_grow HOWN.out hb2)
          clear hno hb2 hpn hx2 hbw2 ht2 ho hpb hcs1
          by_cases hlj : j < l.length
          all_goals
            go_wp2_with (at_builtin; refine wpList_app _ rfl (.tmp 87) (.tmp 89) et_int rfl w1.heap.size (.slice A' k cap') k (ints cs) rfl (HOT.out.alloc _) _ _ 1 _ rfl (Sl.new wr #[.int .i64 (jj : Nat)] _ 1 1 (by unfold maxLen; omega) rfl) (by simp [Value.oneCell']) (by omega) (by unfold maxLen; omega) (by simp; omega) ?_; intro A3 cap3 w3 hown3 hg3 hloc3; have HG3 := Lib.hid hg3; have HO3 := Lib.hid hown3; clear hg3 hown3 hloc3)
            go_roundw
            case rel =>
              refine ⟨k + 1, andNot fi o.g, cs ++ [((jj : Nat) : Int)], A3, cap3, by omega, by go_num, rfl, rfl, hfo, ?_, ?_, ?_⟩
              · rw [HCH.out, choose_drop HL.out fi, HPN.out]
                simp
              · simpa [ints] using HO3.out
              · exact ((HBB.out.trans (HB2.out.mono hlo)).alloc (by omega) _).grown HG3.out (by simp; omega) (fun g e => (HOT.out.lt g e).1)
            case measure => simp [intOf]; omega
    · obtain rfl : k = bs.length := by omega
      have hcs : choose bs (S - 1) = cs := by rw [hch]; simp [choose]
      have HCC := Lib.hid hcs
      have HBO := Lib.hid hbo
      clear hcs hch hown hb hxo hbo hto
      go_wp2_with fail
      go_ret
      refine ⟨A', cap', rfl, ?_, HBO.out⟩
      rw [HAL.out, HCC.out]
      exact own_mono HOWN.out (by omega)
end Go.Proofs.Ytcigobiolbojhaa.Vb

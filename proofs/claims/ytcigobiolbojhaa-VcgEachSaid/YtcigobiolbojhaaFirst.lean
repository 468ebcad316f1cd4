/- (*board).first from the first buyer on: the best choice. -/
import Derived.Test.YtcigobiolbojhaaBlk
namespace Go.Proofs.Ytcigobiolbojhaa.Vb
open Go.RowKit

def ints (l : List Int) : List Value := l.map (Value.int .i64)

set_option maxRecDepth 100000 in
set_option maxHeartbeats 3200000 in
theorem first_any (B bb m : Nat) (n : Int) (v : Value) (bs : List (List Off)) (f : Nat) (hf : f < 1024) (w : World) (hb : BoardAt w B bb m n v bs) :
    Calls Try.prog 122 #[.pointer (some ⟨bb, 0, none⟩), .int .i64 0, .int .u32 f] w fun e w' => ∃ A' cap', e = .returned (.agg #[.slice A' bs.length cap', .int .i64 (W bs f)]) ∧
      w'.ownsRow w.heap.size 3 1 (.slice A' bs.length cap') bs.length (ints (choose bs f)) ∧ BoardAt w' B bb m n v bs ∧ w.grownBy w' (some m) := by
  obtain ⟨vs, ⟨_, A, cap, rfl, hnc, hcm, hcs⟩, hvs⟩ := id hb.buys
  have hl32 : bs.length ≤ 32 := hb.ok.1
  have HB := Lib.hid hb
  have HCS := Lib.hid hcs
  have HVS := Lib.hid hvs
  have hml := hb.map.lt
  obtain ⟨c0, c1, c2, _, _, _, _⟩ := hb
  clear hcs hvs hcm
  go_enter Try.func122, Try.ntmps122
  go_wp2_with (go_at_call 126; refine (w_any B bb m n _ bs _ 0 f _ _ _ rfl rfl rfl (by omega) hf (HB.out.alloc _)).mono ?_; rintro e w1 ⟨rfl, hb1, hg1⟩; have d1 := cellAlloc hb1.c1; have hg1' := hg1.size; simp at hg1'; have HB1 := Lib.hid hb1; have HG1 := Lib.hid hg1; clear hb1 hg1)
  have hblk0 : Blk (w1.alloc (.cells #[.slice none 0 0, .int .i64 (W bs f)] 66)) w1.heap.size 66 #[.slice none 0 0, .int .i64 (W bs f)] := Blk.new _ _ _
  have hres0 : Blk (w1.alloc (.cells #[.slice none 0 0, .int .i64 (W bs f)] 66)) w.heap.size 66 #[.slice none 0 0, .int .i64 0] := ((Blk.new w _ _).grown HG1.out (fun e => by injection e with e; omega)).alloc _
  have hgr0 : w.grownBy (w1.alloc (.cells #[.slice none 0 0, .int .i64 (W bs f)] 66)) (some m) := ((World.grownBy_alloc w _ _).trans HG1.out).trans (World.grownBy_alloc w1 _ _)
  have hbd0 : BoardAt (w1.alloc (.cells #[.slice none 0 0, .int .i64 (W bs f)] 66)) B bb m n (.slice A bs.length cap) bs := HB1.out.alloc _
  clear d1
  go_loopw [2, 24] (fun fr i wr => ∃ (k fi : Nat) (cs : List Int) (A' : Option Addr) (cap' : Nat), k ≤ bs.length ∧ i = .int .i64 k ∧ fr = .int .u32 fi ∧ fi < 1024 ∧ choose bs f = cs ++ choose (bs.drop k) fi ∧
      BoardAt wr B bb m n (.slice A bs.length cap) bs ∧ w.grownBy wr (some m) ∧ Blk wr w.heap.size 66 #[.slice none 0 0, .int .i64 0] ∧ Blk wr w1.heap.size 66 #[.slice A' k cap', .int .i64 (W bs f)] ∧
      wr.ownsRow (w1.heap.size + 1) 3 1 (.slice A' k cap') k (ints cs))
    (fun _ i _ => bs.length - (intOf i).toNat)
  case atStart => exact ⟨0, f, [], none, 0, Nat.zero_le _, rfl, rfl, hf, rfl, hbd0, hgr0, hres0, hblk0, World.ownsRow_nil _ _ _ _⟩
  case round =>
    obtain ⟨wo, rfl⟩ : ∃ wo : World, wo = wr := ⟨_, rfl⟩
    obtain ⟨k, fi, cs, A', cap', hk, rfl, rfl, hfi, hch, hbr, hgr, hres, hblk, hown⟩ := hrel
    clear hblk0 hres0 hgr0 hbd0
    have HBR := Lib.hid hbr
    have HGR := Lib.hid hgr
    have HRES := Lib.hid hres
    have HBLK := Lib.hid hblk
    have HOWN := Lib.hid hown
    have HCH := Lib.hid hch
    have hwlt := hblk.lt
    by_cases hlt : k < bs.length
    · obtain ⟨bq, off, rfl, _, hbq, hcs⟩ := HCS.out (by omega)
      obtain ⟨l, hl⟩ : ∃ l, bs[k]? = some l := ⟨_, List.getElem?_eq_getElem hlt⟩
      obtain ⟨u, hu, hol⟩ := HVS.out k l hl
      have cl := hcs k u hu
      have HL := Lib.hid hl
      have hl8 : l.length ≤ 8 := hbr.ok.len hl
      obtain ⟨⟨_, A1, cap1, rfl, hnc1, _, hcs1⟩, _⟩ := hol
      have HC1 := Lib.hid hcs1
      have HCL := Lib.hid cl
      have hk0 : (0 : Int) ≤ (k : Int) := by omega
      clear hcs hu hl hcs1 cl hbr hgr hres hblk hown hch
      go_wp2_with (go_at_call 126; refine (w_any B bb m n _ bs _ k fi _ _ _ rfl rfl rfl (by omega) hfi HBR.out).mono ?_; rintro e w2 ⟨rfl, hb2, hg2⟩; have e1 := hb2.c1; have el := HB.out.keep (HGR.out.trans hg2) HCL.out; have hg2' := hg2.size; have HB2 := Lib.hid hb2; have HG2 := Lib.hid hg2; clear hb2 hg2)
      go_loopw [2, 9, 43] (fun fr nn i wr2 => ∃ j : Nat, j ≤ l.length ∧ i = .int .i64 j ∧ nn = .int .i64 (-1) ∧ fr = .int .u32 fi ∧ (∀ (i : Nat) (x : Off), i < j → l[i]? = some x → pickB (W (bs.drop (k + 1))) fi (W (bs.drop k) fi) x = false) ∧
          BoardAt wr2 B bb m n (.slice (some ⟨bq, off, none⟩) bs.length cap) bs ∧ wo.grownBy wr2 (some m))
        (fun _ _ i _ => l.length - (intOf i).toNat)
      case atStart => exact ⟨0, Nat.zero_le _, rfl, rfl, rfl, fun i x h => by omega, HB2.out, HG2.out⟩
      case round =>
        obtain ⟨j, hj, rfl, rfl, rfl, hno, hbt, hgt⟩ := hrel
        have HNO := Lib.hid hno
        have HBT := Lib.hid hbt
        have HGT := Lib.hid hgt
        by_cases hlj : j < l.length
        · obtain ⟨b1, off1, rfl, _, hb1, hcs1⟩ := HC1.out (by omega)
          obtain ⟨o, ho⟩ : ∃ o, l[j]? = some o := ⟨_, List.getElem?_eq_getElem hlj⟩
          have o0 : wr.cell? ⟨b1, off1 + j * 2, none⟩ = some (.int .u32 o.g) := HB.out.keep (HGR.out.trans hgt) (hcs1 _ _ (Off.all_fst l j o ho))
          have o1 : wr.cell? ⟨b1, off1 + j * 2 + 1, none⟩ = some (.int .i64 o.c) := HB.out.keep (HGR.out.trans hgt) (hcs1 _ _ (Off.all_snd l j o ho))
          obtain ⟨ho1, ho2, ho3, ho4⟩ := HB.out.ok.offer HL.out ho
          have hB0 := W_nonneg (bs.drop (k + 1)) (andNot fi o.g)
          have hB1 := HB.out.ok.W_le (k + 1) (andNot fi o.g)
          have hbits : bits .andNot .u32 (o.g : Int) (fi : Int) = ((andNot o.g fi : Nat) : Int) := u32_andNot_nat o.g fi (by omega) (by omega)
          have hbits2 : bits .andNot .u32 (fi : Int) (o.g : Int) = ((andNot fi o.g : Nat) : Int) := u32_andNot_nat fi o.g (by omega) (by omega)
          have hfo : andNot fi o.g < 1024 := Nat.lt_of_le_of_lt (andNot_le _ _) hfi
          have HO := Lib.hid ho
          clear hcs1 ho hno hbt hgt
          by_cases hfit : andNot o.g fi = 0
          · have hfb : (((andNot o.g fi : Nat) : Int) == 0) = true := by simp [hfit]
            have HFI := Lib.hid hfit
            have hsum : IntKind.i64.wrap (o.c + W (bs.drop (k + 1)) (andNot fi o.g)) = o.c + W (bs.drop (k + 1)) (andNot fi o.g) := IntWalk.i64_in _ (by omega)
            have hk1 : IntKind.i64.wrap ((k : Int) + 1) = (k : Int) + 1 := IntWalk.i64_in _ (by omega)
            clear hfit
            by_cases heq : o.c + W (bs.drop (k + 1)) (andNot fi o.g) = W (bs.drop k) fi
            · have hpb : pickB (W (bs.drop (k + 1))) fi (W (bs.drop k) fi) o = true := by simp [pickB, HFI.out, heq]
              have hpn := pickN_some HO.out hpb HNO.out
              have HPN := Lib.hid hpn
              have heb : (o.c + W (bs.drop (k + 1)) (andNot fi o.g) == W (bs.drop k) fi) = true := by simp [heq]
              clear heq hpn hpb
              go_wp2_with fail
              go_region_held3 (fun w' => w'.cell? ⟨wr.heap.size, 0, none⟩ = some (.int .u32 o.g) ∧ w'.cell? ⟨wr.heap.size, 1, none⟩ = some (.int .i64 o.c)) (go_keep)
                ((go_at_call 126; refine (w_any B bb m n _ bs _ (k + 1) (andNot fi o.g) _ _ _ (by omega) rfl rfl (by omega) hfo ((HBT.out.alloc _).drew)).mono ?_; rintro e w2 ⟨rfl, hb2, hg2⟩; have z0 : w2.cell? ⟨wr.heap.size, 0, none⟩ = some (.int .u32 o.g) := (HBT.out.alloc _).drew.keep hg2 (by simp); have z1 : w2.cell? ⟨wr.heap.size, 1, none⟩ = some (.int .i64 o.c) := (HBT.out.alloc _).drew.keep hg2 (by simp)))
              have HBT2 := Lib.hid hb2
              have HGT2 := Lib.hid (HGT.out.trans ((grownBy_of_below (((Below.refl _ _).alloc (Nat.le_refl _) _).drew) _ : wr.grownBy (wr.alloc (.cells #[.int .u32 o.g, .int .i64 o.c] 45)).drew (some m)).trans hg2))
              clear hb2 hg2 hsum hk1
              have hgt : wo.grownBy w2 (some m) := HGT2.out
              have hbk : Blk w2 w1.heap.size 66 #[.slice A' k cap', .int .i64 (W bs f)] := HBLK.out.grown hgt (fun e => by injection e with e; omega)
              have g0 : w2.cell? ⟨w1.heap.size, 0, none⟩ = some (.slice A' k cap') := hbk.cell 0
              have hot : w2.ownsRow (w1.heap.size + 1) 3 1 (.slice A' k cap') k (ints cs) := HOWN.out.kept hgt (by
                cases hv : (Value.slice A' k cap').ownBlock with
                | none => exact .inl rfl
                | some g => exact .inr fun e => by injection e with e; have := (HOWN.out.lt g hv).1; omega)
              have hlt' := hgt.size
              have HBK := Lib.hid hbk
              have HOT := Lib.hid hot
              clear hgt hbk hot
              have g0a := cellAlloc g0 (.cells #[.int .i64 (j : Nat)] 3)
              go_wp2_with (at_builtin; refine wpList_app _ rfl (.tmp 75) (.tmp 77) et_int rfl (w1.heap.size + 1) (.slice A' k cap') k (ints cs) rfl (HOT.out.alloc _) _ _ 1 _ rfl (Sl.new w2 #[.int .i64 (j : Nat)] _ 1 1 (by unfold maxLen; omega) rfl) (by simp [Value.oneCell']) (by omega) (by unfold maxLen; omega) (by simp; omega) ?_; intro A3 cap3 w3 hown3 hg3 hloc3; have hb3 : Blk w3 w1.heap.size 66 #[.slice A' k cap', .int .i64 (W bs f)] := (HBK.out.alloc _).grown hg3 (fun e => by have := (HOT.out.lt _ e.symm).1; omega); have k0 : w3.cell? ⟨w1.heap.size, 0, none⟩ = some (.slice A' k cap') := hb3.cell 0; have k1 := hb3.frozen 0; have HB3 := Lib.hid hb3; have HG3 := Lib.hid hg3; have HO3 := Lib.hid hown3; clear hb3 hg3 hown3 hloc3)
              go_roundw
              case rel =>
                have hro : ∀ g, (Value.slice A' k cap').ownBlock = some g → w1.heap.size + 1 ≤ g := fun g e => (HOT.out.lt g e).1
                have hbl := World.block_lt_of_cell? w _ HB.out.c0
                simp only at hbl
                refine ⟨k + 1, andNot fi o.g, cs ++ [((j : Nat) : Int)], A3, cap3, by omega, by go_num, rfl, hfo, ?_, ?_, ?_, ?_, ?_, ?_⟩
                · rw [HCH.out, choose_drop HL.out fi, HPN.out]
                  simp
                · exact ((HBT2.out.alloc _).far HG3.out (fun g e => by have := hro g e; omega)).far (grownBy_setCell _ ⟨w1.heap.size, 0, none⟩ _) (fun g e => by simp at e; omega)
                · exact grownBy_far (grownBy_far ((HGR.out.trans HGT2.out).trans (World.grownBy_alloc _ _ _)) HG3.out (fun g e => by have := hro g e; omega)) (grownBy_setCell _ ⟨w1.heap.size, 0, none⟩ _) (fun g e => by simp at e; omega)
                · exact ((((HRES.out.grown HGT2.out (fun e => by injection e with e; omega)).alloc _).grown HG3.out (fun e => by have := hro _ e.symm; omega)).far (p := ⟨w1.heap.size, 0, none⟩) (by simp; omega) _)
                · exact HB3.out.set_ 0 _
                · have := ownsRow_setCell_below HO3.out (a := ⟨w1.heap.size, 0, none⟩) (by simp) (.slice A3 (k + 1) cap3)
                  simpa [ints] using this
              case measure => simp [intOf]; omega
            · have hpb : pickB (W (bs.drop (k + 1))) fi (W (bs.drop k) fi) o = false := by simp [pickB, heq]
              have HPB := Lib.hid hpb
              have heb : (o.c + W (bs.drop (k + 1)) (andNot fi o.g) == W (bs.drop k) fi) = false := by simp [heq]
              clear heq hpb
              go_wp2_with fail
              go_region_held3 (fun w' => w'.cell? ⟨wr.heap.size, 0, none⟩ = some (.int .u32 o.g) ∧ w'.cell? ⟨wr.heap.size, 1, none⟩ = some (.int .i64 o.c)) (go_keep)
                ((go_at_call 126; refine (w_any B bb m n _ bs _ (k + 1) (andNot fi o.g) _ _ _ (by omega) rfl rfl (by omega) hfo ((HBT.out.alloc _).drew)).mono ?_; rintro e w2 ⟨rfl, hb2, hg2⟩; have z0 : w2.cell? ⟨wr.heap.size, 0, none⟩ = some (.int .u32 o.g) := (HBT.out.alloc _).drew.keep hg2 (by simp); have z1 : w2.cell? ⟨wr.heap.size, 1, none⟩ = some (.int .i64 o.c) := (HBT.out.alloc _).drew.keep hg2 (by simp)))
              have HBT2 := Lib.hid hb2
              have HGT2 := Lib.hid (HGT.out.trans ((grownBy_of_below (((Below.refl _ _).alloc (Nat.le_refl _) _).drew) _ : wr.grownBy (wr.alloc (.cells #[.int .u32 o.g, .int .i64 o.c] 45)).drew (some m)).trans hg2))
              clear hb2 hg2 hsum hk1
              go_wp2_with fail
              go_roundw
              case rel =>
                refine ⟨j + 1, by omega, by go_num, rfl, rfl, fun i x hi hx => ?_, HBT2.out, HGT2.out⟩
                by_cases hij : i < j
                · exact HNO.out i x hij hx
                · obtain rfl : i = j := by omega
                  rw [HO.out] at hx
                  cases hx
                  exact HPB.out
              case measure => simp [intOf]; omega
          · have hfb : (((andNot o.g fi : Nat) : Int) == 0) = false := by simp [hfit]
            have hpb : pickB (W (bs.drop (k + 1))) fi (W (bs.drop k) fi) o = false := by simp [pickB, hfit]
            have HPB := Lib.hid hpb
            clear hfit hpb
            go_wp2_with fail
            go_quiet (fail)
            go_wp2_with fail
            go_roundw
            case rel =>
              refine ⟨j + 1, by omega, by go_num, rfl, rfl, fun i x hi hx => ?_, (HBT.out.alloc _).drewN nq, HGT.out.trans (grownBy_of_below (below_drewN ((Below.refl _ _).alloc (Nat.le_refl _) _) nq) _)⟩
              by_cases hij : i < j
              · exact HNO.out i x hij hx
              · obtain rfl : i = j := by omega
                rw [HO.out] at hx
                cases hx
                exact HPB.out
            case measure => simp [intOf]; omega
        · obtain rfl : j = l.length := by omega
          have hpn : pickN (W (bs.drop (k + 1))) fi (W (bs.drop k) fi) l = (-1, fi) := pickN_none hno
          have HPN := Lib.hid hpn
          clear hno hbt hgt hpn
          have hgt : wo.grownBy wr (some m) := HGT.out
          have hbk : Blk wr w1.heap.size 66 #[.slice A' k cap', .int .i64 (W bs f)] := HBLK.out.grown hgt (fun e => by injection e with e; omega)
          have g0 : wr.cell? ⟨w1.heap.size, 0, none⟩ = some (.slice A' k cap') := hbk.cell 0
          have hot : wr.ownsRow (w1.heap.size + 1) 3 1 (.slice A' k cap') k (ints cs) := HOWN.out.kept hgt (by
            cases hv : (Value.slice A' k cap').ownBlock with
            | none => exact .inl rfl
            | some g => exact .inr fun e => by injection e with e; have := (HOWN.out.lt g hv).1; omega)
          have hlt' := hgt.size
          have HBK := Lib.hid hbk
          have HOT := Lib.hid hot
          clear hgt hbk hot
          have g0a := cellAlloc g0 (.cells #[.int .i64 (-1)] 3)
          go_wp2_with (at_builtin; refine wpList_app _ rfl (.tmp 75) (.tmp 77) et_int rfl (w1.heap.size + 1) (.slice A' k cap') k (ints cs) rfl (HOT.out.alloc _) _ _ 1 _ rfl (Sl.new wr #[.int .i64 (-1)] _ 1 1 (by unfold maxLen; omega) rfl) (by simp [Value.oneCell']) (by omega) (by unfold maxLen; omega) (by simp; omega) ?_; intro A3 cap3 w3 hown3 hg3 hloc3; have hb3 : Blk w3 w1.heap.size 66 #[.slice A' k cap', .int .i64 (W bs f)] := (HBK.out.alloc _).grown hg3 (fun e => by have := (HOT.out.lt _ e.symm).1; omega); have k0 : w3.cell? ⟨w1.heap.size, 0, none⟩ = some (.slice A' k cap') := hb3.cell 0; have k1 := hb3.frozen 0; have HB3 := Lib.hid hb3; have HG3 := Lib.hid hg3; have HO3 := Lib.hid hown3; clear hb3 hg3 hown3 hloc3)
          go_roundw
          case rel =>
            have hro : ∀ g, (Value.slice A' k cap').ownBlock = some g → w1.heap.size + 1 ≤ g := fun g e => (HOT.out.lt g e).1
            have hbl := World.block_lt_of_cell? w _ HB.out.c0
            simp only at hbl
            refine ⟨k + 1, fi, cs ++ [(-1)], A3, cap3, by omega, by go_num, rfl, hfi, ?_, ?_, ?_, ?_, ?_, ?_⟩
            · rw [HCH.out, choose_drop HL.out fi, HPN.out]
              simp
            · exact ((HBT.out.alloc _).far HG3.out (fun g e => by have := hro g e; omega)).far (grownBy_setCell _ ⟨w1.heap.size, 0, none⟩ _) (fun g e => by simp at e; omega)
            · exact grownBy_far (grownBy_far ((HGR.out.trans HGT.out).trans (World.grownBy_alloc _ _ _)) HG3.out (fun g e => by have := hro g e; omega)) (grownBy_setCell _ ⟨w1.heap.size, 0, none⟩ _) (fun g e => by simp at e; omega)
            · exact ((((HRES.out.grown HGT.out (fun e => by injection e with e; omega)).alloc _).grown HG3.out (fun e => by have := hro _ e.symm; omega)).far (p := ⟨w1.heap.size, 0, none⟩) (by simp; omega) _)
            · exact HB3.out.set_ 0 _
            · have := ownsRow_setCell_below HO3.out (a := ⟨w1.heap.size, 0, none⟩) (by simp) (.slice A3 (k + 1) cap3)
              simpa [ints] using this
          case measure => simp [intOf]; omega
    · obtain rfl : k = bs.length := by omega
      have hcs : choose bs f = cs := by rw [hch]; simp [choose]
      have y0 := hres.cell 0
      have y1 := hres.cell 1
      have y2 := hres.frozen
      have x0 : wo.cell? ⟨w1.heap.size, 0, none⟩ = some (.slice A' bs.length cap') := hblk.cell 0
      have x1 : wo.cell? ⟨w1.heap.size, 1, none⟩ = some (.int .i64 (W bs f)) := hblk.cell 1
      simp at y0 y1
      clear hbr hgr hres hblk hown hch
      have hbl := World.block_lt_of_cell? w _ HB.out.c0
      simp only at hbl
      have HCS := Lib.hid hcs
      clear hcs
      go_wp2_with fail
      refine bodyPost_ret (v := .agg #[.slice A' bs.length cap', .int .i64 (W bs f)]) (by simp [results, Try.results122, go_sem, y0, y1]) rfl ⟨A', cap', rfl, ?_, ?_, ?_⟩
      · rw [HCS.out]
        exact own_mono (ownsRow_setCell_below (ownsRow_setCell_below HOWN.out (a := ⟨w.heap.size, 0, none⟩) (by simp; omega) _) (a := ⟨w.heap.size, 1, none⟩) (by simp; omega) _) (by omega)
      · exact (HBR.out.far (grownBy_setCell _ ⟨w.heap.size, 0, none⟩ _) (fun g e => by simp at e; omega)).far (grownBy_setCell _ ⟨w.heap.size, 1, none⟩ _) (fun g e => by simp at e; omega)
      · exact grownBy_far (grownBy_far HGR.out (grownBy_setCell _ ⟨w.heap.size, 0, none⟩ _) (fun g e => by simp at e; omega)) (grownBy_setCell _ ⟨w.heap.size, 1, none⟩ _) (fun g e => by simp at e; omega)
end Go.Proofs.Ytcigobiolbojhaa.Vb

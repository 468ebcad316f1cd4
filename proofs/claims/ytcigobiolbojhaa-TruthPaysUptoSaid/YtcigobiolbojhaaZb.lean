/- Joined by program: Place Bw Clear Clear2 Blk Come MapI Sell First Best Vcg1 Vcg2. -/
import Derived.Test.YtcigobiolbojhaaZa
import Derived.DeepKeys4
import Derived.Maps.OwnOps
import Derived.Maps.Views
import Derived.Maps.OwnSet
/- The key of a part. -/
namespace Go.Proofs.Ytcigobiolbojhaa.Vb
open Go.RowKit
open Go.Maps (Keyed)

theorem laidOut : laidOutB Try.prog = true := by kernel_rfl
theorem placeRow : (218 : TypeId) < Try.prog.types.size := of_decide_eq_true (by kernel_rfl)
theorem placeKeyed : Keyed Try.prog 218 := Keyed.of_law (deep_law_laid laidOut (m := 3) (by omega) placeRow (by kernel_rfl) (by rw [Try.underlying218]))
theorem placeType : Try.prog.keyType 218 = true := by kernel_rfl
theorem placeCells : Try.prog.cellsOf 218 = 2 := by kernel_rfl
theorem intCells : Try.prog.cellsOf 3 = 1 := by kernel_rfl
theorem goodsCells : Try.prog.cellsOf 43 = 1 := by kernel_rfl
theorem typesSize : ∃ m, Try.prog.types.size = m + 2 := ⟨Try.prog.types.size - 2, by
  have : 2 ≤ Try.prog.types.size := of_decide_eq_true (by kernel_rfl)
  omega⟩

theorem placeKey (k f : Int) (hk : (Lit.int .i64 k).wf = true) (hf : (Lit.int .u32 f).wf = true) : ∃ kl, keyOf Try.prog 218 (.agg #[.int .i64 k, .int .u32 f]) = some kl := by
  obtain ⟨m, hm⟩ := typesSize
  have hfo : (Value.agg #[.int .i64 k, .int .u32 f]).formed Try.prog 218 = true := by simp [Value.formed, Try.underlying218, placeCells]
  have hls : Try.prog.keyLits (Try.prog.types.size + 1) 218 [.int .i64 k, .int .u32 f] = some [.int .i64 k, .int .u32 f] := by
    rw [hm]
    simp [Program.keyLits, Try.underlying218, Try.underlying3, Try.underlying43, placeCells, intCells, goodsCells, hk, hf]
  refine ⟨.string (keyBytes [.int .i64 k, .int .u32 f]), ?_⟩
  unfold keyOf
  rw [Try.underlying218]
  simp only [placeType, hfo, Bool.and_self, if_true, Value.cells]
  rw [hls]
  rfl
end Go.Proofs.Ytcigobiolbojhaa.Vb

/- (*board).w: what is known of parts is right, and stays so. -/
namespace Go.Proofs.Ytcigobiolbojhaa.Vb
open Go.RowKit
open Go.Maps (Keyed)

/-- what is known of a part -/
def Known (bs : List (List Off)) (key val : Value) : Prop := ∃ k f : Nat, k ≤ 32 ∧ f < 1024 ∧ key = .agg #[.int .i64 k, .int .u32 f] ∧ val = .int .i64 (W (bs.drop k) f)
def allKeys : List Value := (List.range 33).flatMap fun k => (List.range 1024).map fun f => .agg #[.int .i64 (k : Nat), .int .u32 (f : Nat)]
theorem allKeys_length : allKeys.length < maxLen := by
  have : allKeys.length = 33792 := by
    simp only [allKeys, List.length_flatMap, List.length_map, List.length_range]
    decide
  rw [this]
  decide
theorem known_in (bs : List (List Off)) : ∀ k v, Known bs k v → k ∈ allKeys := by
  rintro key val ⟨k, f, hk, hf, rfl, _⟩
  exact List.mem_flatMap.2 ⟨k, List.mem_range.2 (by omega), List.mem_map.2 ⟨f, List.mem_range.2 hf, rfl⟩⟩
theorem zero64 (w : World) : (zeroValue 2).run Try.prog w = .ok (.int .i64 0) w := by kernel_rfl

structure BoardAt (w : World) (B bb m : Nat) (n : Int) (v : Value) (bs : List (List Off)) : Prop where
  c0 : w.cell? ⟨bb, 0, none⟩ = some (.int .i64 n)
  c1 : w.cell? ⟨bb, 1, none⟩ = some v
  c2 : w.cell? ⟨bb, 2, none⟩ = some (.map (some m))
  buys : Buys w (· < B) v bs
  hB : B ≤ m
  map : MapG Try.prog 218 2 w m (Known bs)
  ok : Okb bs

section
variable {w w' : World} {B bb m : Nat} {n : Int} {v : Value} {bs : List (List Off)}
theorem BoardAt.grown (h : BoardAt w B bb m n v bs) (hg : w.grownBy w' (some m)) (hm : MapG Try.prog 218 2 w' m (Known bs)) : BoardAt w' B bb m n v bs :=
  have hne : some bb ≠ some m := fun e => h.map.not_cells h.c0 (by injection e)
  ⟨hg.cell h.c0 hne, hg.cell h.c1 hne, hg.cell h.c2 hne, h.buys.grown hg (fun b _ hb e => by injection e with e; have := h.hB; omega), h.hB, hm, h.ok⟩
theorem BoardAt.keep (h : BoardAt w B bb m n v bs) (hg : w.grownBy w' (some m)) {p : Addr} {u : Value} (hc : w.cell? p = some u) : w'.cell? p = some u := hg.cell hc (fun e => h.map.not_cells hc (by injection e))
theorem BoardAt.grow (h : BoardAt w B bb m n v bs) (hb : Below w.heap.size w w') : BoardAt w' B bb m n v bs := h.grown (grownBy_of_below hb _) (h.map.grow hb)
theorem BoardAt.alloc (h : BoardAt w B bb m n v bs) (o : Obj) : BoardAt (w.alloc o) B bb m n v bs := h.grow ((Below.refl _ _).alloc (Nat.le_refl _) o)
theorem below_drewN {B : Nat} {a w : World} (h : Below B a w) (n : Nat) : Below B a (w.drewN n) := ⟨h.os, h.tape, h.output, h.size, h.block⟩
theorem BoardAt.drewN (h : BoardAt w B bb m n v bs) (k : Nat) : BoardAt (w.drewN k) B bb m n v bs := ⟨h.c0, h.c1, h.c2, h.buys, h.hB, h.map, h.ok⟩
theorem BoardAt.drew (h : BoardAt w B bb m n v bs) : BoardAt w.drew B bb m n v bs := ⟨h.c0, h.c1, h.c2, h.buys, h.hB, h.map, h.ok⟩
end

set_option maxRecDepth 100000 in
set_option maxHeartbeats 1600000 in
theorem w_any (B bb m : Nat) (n : Int) (v : Value) (bs : List (List Off)) : ∀ (r k f : Nat) (kI fI : Int) (w : World), kI = k → fI = f → bs.length - k = r → k ≤ bs.length → f < 1024 → BoardAt w B bb m n v bs →
    Calls Try.prog 126 #[.pointer (some ⟨bb, 0, none⟩), .int .i64 kI, .int .u32 fI] w fun e w' => e = .returned (.int .i64 (W (bs.drop k) f)) ∧ BoardAt w' B bb m n v bs ∧ w.grownBy w' (some m) := by
  intro r
  induction r with
  | zero =>
    intro k f kI fI w hkI hfI hr hk hf hb
    subst hkI hfI
    obtain rfl : k = bs.length := by omega
    have hW := W_end bs f
    obtain ⟨vs, ⟨_, A, cap, rfl, _⟩, _⟩ := id hb.buys
    have HB := Lib.hid hb
    obtain ⟨c0, c1, c2, _, _, _, _⟩ := hb
    have HW := Lib.hid hW
    clear hW
    go_enter Try.func126, Try.ntmps126
    go_wp2
    go_step3
    go_wp2
    (try rw [Exit.noGoto_ret])
    go_ret
    rw [HW.out]
    exact ⟨rfl, HB.out, grownBy_of_below (Below.refl _ _) _⟩
  | succ r ih =>
    intro k f kI fI w hkI hfI hr hk hf hb
    subst hkI hfI
    have hlt : k < bs.length := by omega
    have hr' : bs.length - (k + 1) = r := by omega
    have HR := Lib.hid hr'
    clear hr'
    have hl32 : bs.length ≤ 32 := hb.ok.1
    have hkb : ((k : Int) == (bs.length : Int)) = false := by simp; omega
    obtain ⟨vs, ⟨_, A, cap, rfl, hnc, _, hcs⟩, hvs⟩ := id hb.buys
    obtain ⟨bq, off, rfl, _, hbq, hcs⟩ := hcs (by omega)
    obtain ⟨l, hl⟩ : ∃ l, bs[k]? = some l := ⟨_, List.getElem?_eq_getElem hlt⟩
    obtain ⟨u, hu, hol⟩ := hvs k l hl
    have cl := hcs k u hu
    have HB := Lib.hid hb
    have HL := Lib.hid hl
    have HO := Lib.hid hol
    have IH := Lib.hid ih
    obtain ⟨⟨_, A1, cap1, rfl, hnc1, _, hcs1⟩, hwf1⟩ := hol
    have HC1 := Lib.hid hcs1
    have HWF := Lib.hid hwf1
    have hl8 : l.length ≤ 8 := hb.ok.len hl
    obtain ⟨c0, c1, c2, _, _, _, _⟩ := hb
    clear hcs hvs hu hl ih hr hcs1 hwf1
    by_cases hf0 : f = 0
    · have hf1 : ((f : Int) == 0) = true := by simp [hf0]
      have hW : W (bs.drop k) f = 0 := by rw [hf0]; exact W_zero _ (fun l hl => (HB.out.ok.2 l (List.mem_of_mem_drop hl)).2)
      have HW := Lib.hid hW
      clear hW hf0
      go_enter Try.func126, Try.ntmps126
      go_wp2
      go_step3
      go_wp2
      (try rw [Exit.noGoto_ret])
      go_ret
      rw [HW.out]
      exact ⟨rfl, HB.out, grownBy_of_below (Below.refl _ _) _⟩
    · have hf1 : ((f : Int) == 0) = false := by simpa using hf0
      obtain ⟨kl, hkl⟩ := placeKey k f (WalkArith.wf_i64 (by omega)) (WalkArith.wf_u32 (by omega))
      have HK := Lib.hid hkl
      have hca0 := cellAlloc c2 (.cells #[.int .i64 (k : Nat), .int .u32 (f : Nat)] 218)
      have hlook := (HB.out.map.alloc (.cells #[.int .i64 (k : Nat), .int .u32 (f : Nat)] 218)).look placeKeyed Try.underlying209 zero64 hkl true
      clear hkl
      rcases hlook with hrun | ⟨vv, hrun, hgood⟩
      · have hq : ∀ j, (Instr.lookup 209 (.map (some m)) (.agg #[.int .i64 (k : Nat), .int .u32 (f : Nat)]) true).run Try.prog ((w.alloc (.cells #[.int .i64 (k : Nat), .int .u32 (f : Nat)] 218)).drewN j) = .ok (.tuple #[.int .i64 0, .bool false]) ((w.alloc (.cells #[.int .i64 (k : Nat), .int .u32 (f : Nat)] 218)).drewN j) := fun j => hrun _ rfl
        clear hrun
        go_enter Try.func126, Try.ntmps126
        go_wp2_with fail
        go_step3
        go_wp2_with fail
        go_quiet (fail)
        have hB0 : BoardAt ((w.alloc (.cells #[.int .i64 (k : Nat), .int .u32 (f : Nat)] 218)).drewN nq) B bb m n _ bs := (HB.out.alloc _).drewN nq
        have hG0 : w.grownBy ((w.alloc (.cells #[.int .i64 (k : Nat), .int .u32 (f : Nat)] 218)).drewN nq) (some m) := grownBy_of_below (below_drewN ((Below.refl _ _).alloc (Nat.le_refl _) _) nq) _
        have hcq0 : ((w.alloc (.cells #[.int .i64 (k : Nat), .int .u32 (f : Nat)] 218)).drewN nq).cell? ⟨w.heap.size, 0, none⟩ = some (.int .i64 k) := by simp
        have hcq1 : ((w.alloc (.cells #[.int .i64 (k : Nat), .int .u32 (f : Nat)] 218)).drewN nq).cell? ⟨w.heap.size, 1, none⟩ = some (.int .u32 f) := by simp
        have hsz0 : ((w.alloc (.cells #[.int .i64 (k : Nat), .int .u32 (f : Nat)] 218)).drewN nq).heap.size = w.heap.size + 1 := by simp
        clear hq
        generalize ((w.alloc (.cells #[.int .i64 (k : Nat), .int .u32 (f : Nat)] 218)).drewN nq) = W0 at hB0 hG0 hcq0 hcq1 hsz0 ⊢
        have HB0 := Lib.hid hB0
        have HG0 := Lib.hid hG0
        have HS0 := Lib.hid hsz0
        clear hB0 hG0 hsz0
        go_wp2_with (go_at_call 126; refine (IH.out (k + 1) f _ _ _ (by omega) rfl HR.out (by omega) hf HB0.out).mono ?_; rintro e w1 ⟨rfl, hb1, hg1⟩)
        have hg01 := HG0.out.trans hg1
        have d0 := hb1.c0
        have d1 := hb1.c1
        have d2 := hb1.c2
        have dl := HB.out.keep hg01 cl
        have q0 := HB0.out.keep hg1 hcq0
        have q1 := HB0.out.keep hg1 hcq1
        have hsz1 : w.heap.size + 1 ≤ w1.heap.size := by have := hg1.size; have := HS0.out; omega
        have HB1 := Lib.hid hb1
        have HG1 := Lib.hid hg01
        clear hb1 hg1 hg01 hcq0 hcq1 c0 c1 c2 hca0
        go_step3
        go_wp2_with fail
        go_loopw [10, 53] (fun s i wr => ∃ j : Nat, j ≤ l.length ∧ i = .int .i64 j ∧ s = .int .i64 ((l.take j).foldl (stepO (W (bs.drop (k + 1))) f) (W (bs.drop (k + 1)) f)) ∧
            BoardAt wr B bb m n (.slice (some ⟨bq, off, none⟩) bs.length cap) bs ∧ w.grownBy wr (some m) ∧ wr.cell? ⟨w.heap.size, 0, none⟩ = some (.int .i64 k) ∧ wr.cell? ⟨w.heap.size, 1, none⟩ = some (.int .u32 f) ∧ w.heap.size < wr.heap.size)
          (fun _ i _ => l.length - (intOf i).toNat)
        case atStart => exact ⟨0, Nat.zero_le _, rfl, rfl, HB1.out, HG1.out, q0, q1, by omega⟩
        case round =>
          obtain ⟨j, hj, rfl, rfl, hbr, hgr, r0, r1, hsr⟩ := hrel
          have HBR := Lib.hid hbr
          have HGR := Lib.hid hgr
          by_cases hlj : j < l.length
          · obtain ⟨b1, off1, rfl, _, hb1, hcs1⟩ := HC1.out (by omega)
            obtain ⟨o, ho⟩ : ∃ o, l[j]? = some o := ⟨_, List.getElem?_eq_getElem hlj⟩
            have e0 := HB.out.keep hgr (hcs1 _ _ (Off.all_fst l j o ho))
            have e1 : wr.cell? ⟨b1, off1 + j * 2 + 1, none⟩ = some (.int .i64 o.c) := HB.out.keep hgr (hcs1 _ _ (Off.all_snd l j o ho))
            obtain ⟨ho1, ho2, ho3, ho4⟩ := HB.out.ok.offer HL.out ho
            have hB0 := W_nonneg (bs.drop (k + 1)) (andNot f o.g)
            have hB1 := HB.out.ok.W_le (k + 1) (andNot f o.g)
            have hsucc : (l.take (j + 1)).foldl (stepO (W (bs.drop (k + 1))) f) (W (bs.drop (k + 1)) f) = stepO (W (bs.drop (k + 1))) f ((l.take j).foldl (stepO (W (bs.drop (k + 1))) f) (W (bs.drop (k + 1)) f)) o := by
              rw [List.take_add_one, ho, List.foldl_append]
              rfl
            have hbits : bits .andNot .u32 (o.g : Int) (f : Int) = ((andNot o.g f : Nat) : Int) := u32_andNot_nat o.g f (by omega) (by omega)
            have hbits2 : bits .andNot .u32 (f : Int) (o.g : Int) = ((andNot f o.g : Nat) : Int) := u32_andNot_nat f o.g (by omega) (by omega)
            have hfo : andNot f o.g < 1024 := Nat.lt_of_le_of_lt (andNot_le _ _) hf
            have HSU := Lib.hid hsucc
            clear hcs1 hsucc hbr hgr ho
            generalize hbest : (l.take j).foldl (stepO (W (bs.drop (k + 1))) f) (W (bs.drop (k + 1)) f) = best at *
            have HBE := Lib.hid hbest
            clear hbest
            by_cases hfit : andNot o.g f = 0
            · have hfb : (((andNot o.g f : Nat) : Int) != 0) = false := by simp [hfit]
              have HFI := Lib.hid hfit
              have hsum : IntKind.i64.wrap (o.c + W (bs.drop (k + 1)) (andNot f o.g)) = o.c + W (bs.drop (k + 1)) (andNot f o.g) := IntWalk.i64_in _ (by omega)
              have hk1 : IntKind.i64.wrap ((k : Int) + 1) = (k : Int) + 1 := IntWalk.i64_in _ (by omega)
              have HS := Lib.hid hsum
              have HK1 := Lib.hid hk1
              clear hfit hsum hk1
              have hsum := HS.out
              have hk1 := HK1.out
              go_wp2_with fail
              go_region_held3 (fun w' => w'.cell? ⟨wr.heap.size, 0, none⟩ = some (.int .u32 o.g) ∧ w'.cell? ⟨wr.heap.size, 1, none⟩ = some (.int .i64 o.c)) (go_keep)
                ((go_at_call 126; refine (IH.out (k + 1) (andNot f o.g) _ _ _ (by omega) rfl HR.out (by omega) hfo ((HBR.out.alloc _).drew)).mono ?_; rintro e w2 ⟨rfl, hb2, hg2⟩; have z0 : w2.cell? ⟨wr.heap.size, 0, none⟩ = some (.int .u32 o.g) := (HBR.out.alloc _).drew.keep hg2 (by simp); have z1 : w2.cell? ⟨wr.heap.size, 1, none⟩ = some (.int .i64 o.c) := (HBR.out.alloc _).drew.keep hg2 (by simp)))
              have HB2 := Lib.hid hb2
              have HG2 := Lib.hid hg2
              clear hb2 hg2
              go_wp2_with fail
              go_roundw
              case rel =>
                have hg3 : wr.grownBy w2 (some m) := (grownBy_of_below (((Below.refl _ _).alloc (Nat.le_refl _) _).drew) _ : wr.grownBy (wr.alloc (.cells #[.int .u32 o.g, .int .i64 o.c] 45)).drew (some m)).trans HG2.out
                refine ⟨j + 1, by omega, by go_num, ?_, HB2.out, HGR.out.trans hg3, HBR.out.keep hg3 r0, HBR.out.keep hg3 r1, by have := hg3.size; omega⟩
                rw [HSU.out]
                unfold stepO
                rw [if_pos HFI.out]
                congr 1
                split <;> omega
              case measure => simp [intOf]; omega
            · have hfb : (((andNot o.g f : Nat) : Int) != 0) = true := by simp [hfit]
              have HFI := Lib.hid hfit
              clear hfit
              go_wp2_with fail
              go_roundw
              case rel =>
                have hg3 : wr.grownBy (wr.alloc (.cells #[.int .u32 o.g, .int .i64 o.c] 45)) (some m) := grownBy_of_below ((Below.refl _ _).alloc (Nat.le_refl _) _) _
                refine ⟨j + 1, by omega, by go_num, ?_, HBR.out.alloc _, HGR.out.trans hg3, cellAlloc r0 _, cellAlloc r1 _, by simp; omega⟩
                rw [HSU.out]
                unfold stepO
                rw [if_neg HFI.out]
              case measure => simp [intOf]; omega
          · obtain rfl : j = l.length := by omega
            rw [List.take_length, ← W_drop HL.out f]
            have s2 := hbr.c2
            have hw0 := W_nonneg (bs.drop k) f
            have hw1 := HB.out.ok.W_le k f
            obtain ⟨w5, hrun5, hm5, hg5⟩ := hbr.map.drew.store placeKeyed Try.underlying209 Try.underlying2 (known_in bs) allKeys_length HK.out (c := W (bs.drop k) f) (WalkArith.wf_i64 (by omega)) ⟨k, f, by omega, hf, rfl, rfl⟩
            have HM5 := Lib.hid hm5
            have HG5 := Lib.hid hg5
            clear hbr hgr hm5 hg5 d0 d1 d2 dl q0 q1
            go_wp2_with fail
            go_region
            all_goals go_wp2_with fail
            all_goals (try rw [Exit.noGoto_ret])
            all_goals go_ret
            exact ⟨by simp, HBR.out.drew.grown HG5.out HM5.out, HGR.out.trans ((grownBy_of_below (Below.refl _ _).drew _).trans HG5.out)⟩
      · obtain ⟨k', f', _, _, hkey, rfl⟩ := hgood
        have hkk : k' = k ∧ f' = f := by simp at hkey; omega
        obtain ⟨rfl, rfl⟩ := hkk
        clear hkey
        have hq : ∀ j, (Instr.lookup 209 (.map (some m)) (.agg #[.int .i64 (k' : Nat), .int .u32 (f' : Nat)]) true).run Try.prog ((w.alloc (.cells #[.int .i64 (k' : Nat), .int .u32 (f' : Nat)] 218)).drewN j) = .ok (.tuple #[.int .i64 (W (bs.drop k') f'), .bool true]) ((w.alloc (.cells #[.int .i64 (k' : Nat), .int .u32 (f' : Nat)] 218)).drewN j) := fun j => hrun _ rfl
        clear hrun
        go_enter Try.func126, Try.ntmps126
        go_wp2_with fail
        go_step3
        go_wp2_with fail
        go_quiet (fail)
        go_wp2_with fail
        (try rw [Exit.noGoto_ret])
        go_ret
        exact ⟨by simp, (HB.out.alloc _).drewN nq, grownBy_of_below (below_drewN ((Below.refl _ _).alloc (Nat.le_refl _) _) nq) _⟩
end Go.Proofs.Ytcigobiolbojhaa.Vb

/- clear: of, whole, may, From, W. -/
namespace Go.Proofs.Ytcigobiolbojhaa.Vb
open Go.RowKit

theorem buys_lt {w : World} {R : Nat → Prop} {v : Value} {bs : List (List Off)} (h : Buys w R v bs) {B : Nat} (hB : w.heap.size ≤ B) : Buys w (· < B) v bs :=
  h.mono fun b hlt _ => by omega
theorem buys_wf {w : World} {R : Nat → Prop} {v : Value} {bs : List (List Off)} (h : Buys w R v bs) : ∀ l ∈ bs, ∀ o ∈ l, o.wf := by
  obtain ⟨vs, hs, ho⟩ := h
  intro l hl
  obtain ⟨k, hk⟩ := List.getElem?_of_mem hl
  obtain ⟨u, _, hu⟩ := ho k l hk
  exact hu.2

set_option maxHeartbeats 400000 in
theorem of_any (n : Int) (bs : List (List Off)) (v : Value) (R : Nat → Prop) (w : World) (hl : Buys w R v bs) (hok : Okb bs) :
    Calls Try.prog 121 #[.agg #[.int .i64 n, v]] w fun e w' => ∃ bb m, e = .returned (.pointer (some ⟨bb, 0, none⟩)) ∧ BoardAt w' w.heap.size bb m n v bs ∧ w.heap.size ≤ m ∧ Below w.heap.size w w' := by
  obtain ⟨vs, ⟨_, A, cap, rfl, _⟩, _⟩ := id hl
  have HB := Lib.hid hl
  clear hl
  have hmm := @run_makeMap Try.prog
  go_enter Try.func121, Try.ntmps121
  go_wp2
  go_ret
  refine ⟨w.heap.size + 1 + 1, w.heap.size + 1, by simp, ?_, by omega, (((Below.refl _ _).alloc (Nat.le_refl _) _).alloc (by simp) _).alloc (by simp; omega) _⟩
  have hm : MapG Try.prog 218 2 ((w.alloc (.cells #[.int .i64 n, .slice A bs.length cap] 24)).alloc (.map #[] 0)) (w.heap.size + 1) (Known bs) := by
    simpa using MapG.made (P := Try.prog) (kt := 218) (et := 2) (Good := Known bs) (w.alloc (.cells #[.int .i64 n, .slice A bs.length cap] 24))
  refine ⟨?_, ?_, ?_, ?_, by omega, hm.alloc _, hok⟩
  · go_simp
  · go_simp
  · go_simp
  · exact ((buys_lt HB.out (Nat.le_refl _)).grow ((((Below.refl _ _).alloc (Nat.le_refl _) _).alloc (by simp) _).alloc (by simp; omega) _))

set_option maxHeartbeats 400000 in
theorem whole_any (n : Int) (A : Option Addr) (k c : Nat) (w : World) :
    Calls Try.prog 88 #[.agg #[.int .i64 n, .slice A k c]] w fun e w' => e = .returned (.int .u32 (allOf n : Nat)) ∧ Below w.heap.size w w' := by
  go_enter Try.func88, Try.ntmps88
  go_wp2_with (go_at_call 123; refine (all_any n _).mono ?_; rintro e w' ⟨rfl, rfl⟩)
  go_ret
  exact ⟨rfl, (Below.refl _ _).alloc (Nat.le_refl _) _⟩

/-- behind one new block -/
theorem one_new {w w1 : World} {c0 c1 : Value} {t : TypeId} (hb : Below (w.heap.size + 1) (w.alloc (.cells #[c0, c1] t)) w1) :
    w1.cell? ⟨w.heap.size, 0, none⟩ = some c0 ∧ w1.cell? ⟨w.heap.size, 1, none⟩ = some c1 ∧ (∀ i, w1.frozen? ⟨w.heap.size, i, none⟩ = false) ∧ w.heap.size + 1 ≤ w1.heap.size ∧ Below w.heap.size w w1 := by
  have hs := hb.size
  simp at hs
  exact ⟨(hb.cell (p := ⟨w.heap.size, 0, none⟩) (by simp)).trans (by simp), (hb.cell (p := ⟨w.heap.size, 1, none⟩) (by simp)).trans (by simp),
    fun i => (hb.frozen (p := ⟨w.heap.size, i, none⟩) (by simp)).trans (by simp), hs, ((Below.refl _ _).alloc (Nat.le_refl _) _).trans (hb.mono (by omega))⟩

theorem andNot_self (a : Nat) (h : a < 4294967296) : andNot a a = 0 := by
  unfold andNot
  apply Nat.eq_of_testBit_eq
  intro i
  rw [Nat.testBit_and, Nat.zero_testBit]
  by_cases hi : i < 32
  · have e : 4294967295 - a = 2 ^ 32 - (a + 1) := by omega
    rw [e, Nat.testBit_two_pow_sub_succ (by omega)]
    cases a.testBit i <;> simp
  · have : a.testBit i = false := Nat.testBit_lt_two_pow (Nat.lt_of_lt_of_le h (by
      have : 2 ^ 32 ≤ 2 ^ i := Nat.pow_le_pow_right (by omega) (by omega)
      simpa using this))
    rw [this]
    rfl

/-- clear.may of the whole instance from the first buyer on: Instance's error. -/
theorem may_any (n : Int) (bs : List (List Off)) (v : Value) (R : Nat → Prop) (w : World) (hl : Buys w R v bs) :
    Calls Try.prog 120 #[.agg #[.int .i64 n, v], .int .i64 0, .int .u32 (allOf n : Nat)] w fun e w' => e = .returned (.int .i64 (instE n bs)) ∧ Below w.heap.size w w' := by
  obtain ⟨vs, ⟨_, A, cap, rfl, _⟩, _⟩ := id hl
  have HB := Lib.hid hl
  clear hl
  have hself := andNot_self (allOf n) (allOf_lt n)
  have hlt := allOf_lt n
  by_cases hi : instE n bs = 0
  · have HI := Lib.hid hi
    have HSF := Lib.hid hself
    clear hi hself
    have hge : ¬ ((bs.length : Int) < 0) := by omega
    go_enter Try.func120, Try.ntmps120
    go_wp2_with (first
      | (go_at_call 124; refine (instance_any n bs _ R _ (HB.out.alloc _)).mono ?_; rintro e w1 ⟨rfl, hb1⟩; rw [HI.out]; have hb1a := hb1.mono (B' := w.heap.size + 1) (by simp); obtain ⟨c0, c1, fz, hs1, hbw⟩ := one_new hb1a; have HBW := Lib.hid hbw; clear hbw hb1 hb1a)
      | (go_at_call 88; refine (whole_any n _ _ _ _).mono ?_; rintro e w2 ⟨rfl, hb2⟩; have HB2 := Lib.hid hb2; clear hb2)
      | (go_at_call 135; refine (within_any _ _ hlt hlt _).mono ?_; rintro e w3 ⟨rfl, rfl⟩; rw [HSF.out]))
    go_ret
    exact ⟨by rw [HI.out]; rfl, HBW.out.trans (HB2.out.mono HBW.out.size)⟩
  · have hcb : (instE n bs != 0) = true := by simpa using hi
    clear hself
    have HI := Lib.hid hi
    clear hi
    go_enter Try.func120, Try.ntmps120
    go_wp2_with (go_at_call 124; refine (instance_any n bs _ R _ (HB.out.alloc _)).mono ?_; rintro e w1 ⟨rfl, hb1⟩; have hb1a := hb1.mono (B' := w.heap.size + 1) (by simp); obtain ⟨c0, c1, fz, hs1, hbw⟩ := one_new hb1a; have HBW := Lib.hid hbw; clear hbw hb1 hb1a)
    go_ret
    exact ⟨rfl, HBW.out⟩
end Go.Proofs.Ytcigobiolbojhaa.Vb

/- clear.From, clear.W. -/
namespace Go.Proofs.Ytcigobiolbojhaa.Vb
open Go.RowKit

theorem allOf_1024 {n : Int} (h : n ≤ 10) : allOf n < 1024 := by
  unfold allOf
  split
  · omega
  · have hp : 2 ^ n.toNat ≤ 1024 := Nat.le_trans (Nat.pow_le_pow_right (by omega) (show n.toNat ≤ 10 by omega)) (by decide)
    have hp0 : 0 < 2 ^ n.toNat := Nat.two_pow_pos _
    omega

/-- W of an instance, 0 of one that may not be. -/
def bestW (n : Int) (bs : List (List Off)) : Int := if instE n bs = 0 then W bs (allOf n) else 0

set_option maxHeartbeats 800000 in
theorem from_any (n : Int) (bs : List (List Off)) (v : Value) (R : Nat → Prop) (w : World) (hl : Buys w R v bs) :
    Calls Try.prog 90 #[.agg #[.int .i64 n, v], .int .i64 0, .int .u32 (allOf n : Nat)] w fun e w' => e = .returned (.tuple #[.int .i64 (bestW n bs), .int .i64 (instE n bs)]) ∧ Below w.heap.size w w' := by
  obtain ⟨vs, ⟨_, A, cap, rfl, _⟩, _⟩ := id hl
  have HB := Lib.hid hl
  have hwf := Lib.hid (buys_wf hl)
  clear hl
  by_cases hi : instE n bs = 0
  · have hW : bestW n bs = W bs (allOf n) := by unfold bestW; rw [if_pos hi]
    have h10 := allOf_1024 (instE_zero hi).2.1
    have hok := Lib.hid (okb_of hwf.out hi).1
    have HI := Lib.hid hi
    have HW := Lib.hid hW
    clear hi hW
    go_enter Try.func90, Try.ntmps90
    go_wp2_with (first
      | (go_at_call 120; refine (may_any n bs _ R _ (HB.out.alloc _)).mono ?_; rintro e w1 ⟨rfl, hb1⟩; rw [HI.out]; have hb1a := hb1.mono (B' := w.heap.size + 1) (by simp); obtain ⟨c0, c1, fz, hs1, hbw⟩ := one_new hb1a; have HBW := Lib.hid hbw; clear hbw hb1 hb1a)
      | (go_at_call 121; refine (of_any n bs _ R _ (HB.out.grow HBW.out) hok.out).mono ?_; rintro e w2 ⟨bb, m, rfl, hbd, hm, hb2⟩; have HBD := Lib.hid hbd; have HM := Lib.hid hm; have HB2 := Lib.hid hb2; clear hbd hm hb2)
      | (go_at_call 126; refine (w_any _ bb m n _ bs _ 0 (allOf n) _ _ _ rfl rfl rfl (by omega) h10 HBD.out).mono ?_; rintro e w3 ⟨rfl, hb3, hg3⟩; have HG3 := Lib.hid hg3; clear hb3 hg3))
    go_ret2
    refine ⟨by rw [HW.out, HI.out]; rfl, ?_⟩
    exact (HBW.out.trans (HB2.out.mono HBW.out.size)).grown HG3.out (by have := HBW.out.size; have := HB2.out.size; omega) (fun k e => by injection e with e; have := HM.out; have := HBW.out.size; omega)
  · have hW : bestW n bs = 0 := by unfold bestW; rw [if_neg hi]
    have hcb : (instE n bs != 0) = true := by simpa using hi
    have HI := Lib.hid hi
    have HW := Lib.hid hW
    clear hi hW
    go_enter Try.func90, Try.ntmps90
    go_wp2_with (go_at_call 120; refine (may_any n bs _ R _ (HB.out.alloc _)).mono ?_; rintro e w1 ⟨rfl, hb1⟩; have hb1a := hb1.mono (B' := w.heap.size + 1) (by simp); obtain ⟨c0, c1, fz, hs1, hbw⟩ := one_new hb1a; have HBW := Lib.hid hbw; clear hbw hb1 hb1a)
    go_ret2
    exact ⟨by rw [HW.out]; rfl, HBW.out⟩

set_option maxHeartbeats 800000 in
theorem W_any (n : Int) (bs : List (List Off)) (v : Value) (R : Nat → Prop) (w : World) (hl : Buys w R v bs) :
    Calls Try.prog 33 #[.agg #[.int .i64 n, v]] w fun e w' => e = .returned (.tuple #[.int .i64 (bestW n bs), .int .i64 (instE n bs)]) ∧ Below w.heap.size w w' := by
  obtain ⟨vs, ⟨_, A, cap, rfl, _⟩, _⟩ := id hl
  have HB := Lib.hid hl
  clear hl
  have d0 : (w.alloc (.cells #[.int .i64 n, .slice A bs.length cap] 24)).cell? ⟨w.heap.size, 0, none⟩ = some (.int .i64 n) := by simp
  have d1 : (w.alloc (.cells #[.int .i64 n, .slice A bs.length cap] 24)).cell? ⟨w.heap.size, 1, none⟩ = some (.slice A bs.length cap) := by simp
  go_enter Try.func33, Try.ntmps33
  go_wp2_with fail
  go_region_held3 (fun w' => w'.cell? ⟨w.heap.size, 0, none⟩ = some (.int .i64 n) ∧ w'.cell? ⟨w.heap.size, 1, none⟩ = some (.slice A bs.length cap)) (go_keep)
    (first
      | (go_at_call 88; refine (whole_any n _ _ _ _).mono ?_; rintro e w1 ⟨rfl, hb1⟩; have e0 := (hb1.cell (p := ⟨w.heap.size, 0, none⟩) (by simp)).trans d0; have e1 := (hb1.cell (p := ⟨w.heap.size, 1, none⟩) (by simp)).trans d1; have HB1 := Lib.hid hb1; clear hb1)
      | (go_at_call 90; refine (from_any n bs _ R _ (((HB.out.alloc _).drew).grow HB1.out)).mono ?_; rintro e w2 ⟨rfl, hb2⟩; have z0 := (hb2.cell (p := ⟨w.heap.size, 0, none⟩) (by have := HB1.out.size; simp at this; simp; omega)).trans e0; have z1 := (hb2.cell (p := ⟨w.heap.size, 1, none⟩) (by have := HB1.out.size; simp at this; simp; omega)).trans e1; have HB2 := Lib.hid hb2; clear hb2))
  all_goals go_wp2_with fail
  all_goals go_ret2
  all_goals refine ⟨by simp, ?_⟩
  all_goals exact ((Below.refl _ _).alloc (Nat.le_refl _) _).drew.trans ((HB1.out.mono (by simp)).trans (HB2.out.mono (by have := HB1.out.size; simp at this; omega)))
end Go.Proofs.Ytcigobiolbojhaa.Vb

/- A block known whole; the best choice: plain. -/
namespace Go.Proofs.Ytcigobiolbojhaa.Vb
open Go.RowKit

def Blk (w : World) (g : Nat) (t : TypeId) (cs : Array Value) : Prop := w.heap[g]? = some (.cells cs t (0, 0))
section
variable {w w' : World} {g : Nat} {t : TypeId} {cs : Array Value}
theorem Blk.lt (h : Blk w g t cs) : g < w.heap.size := by
  rcases Nat.lt_or_ge g w.heap.size with hlt | hge
  · exact hlt
  · unfold Blk at h; rw [Array.getElem?_eq_none hge] at h; cases h
theorem Blk.cell (h : Blk w g t cs) (i : Nat) : w.cell? ⟨g, i, none⟩ = cs[i]? := cell_of_row w g i cs t (0, 0) h
theorem Blk.frozen (h : Blk w g t cs) (i : Nat) : w.frozen? ⟨g, i, none⟩ = false := by
  unfold Blk at h
  simp [World.frozen?, h]
theorem Blk.new (w : World) (t : TypeId) (cs : Array Value) : Blk (w.alloc (.cells cs t)) w.heap.size t cs := heap_alloc_new w _
theorem Blk.drew (h : Blk w g t cs) : Blk w.drew g t cs := h
theorem Blk.drewN (h : Blk w g t cs) (n : Nat) : Blk (w.drewN n) g t cs := h
theorem Blk.alloc (h : Blk w g t cs) (o : Obj) : Blk (w.alloc o) g t cs := (Below.heap_alloc w o g h.lt).trans h
theorem Blk.set_ (h : Blk w g t cs) (i : Nat) (u : Value) : Blk (w.setCell ⟨g, i, none⟩ u) g t (cs.setIfInBounds i u) := by
  unfold Blk at h ⊢
  simp [World.setCell, Array.getElem?_modify, h]
theorem Blk.far (h : Blk w g t cs) {p : Addr} (hp : g ≠ p.block) (u : Value) : Blk (w.setCell p u) g t cs := (Below.heap_setCell w p u g hp).trans h
theorem Blk.below {B : Nat} (h : Blk w g t cs) (hb : Below B w w') (hg : g < B) : Blk w' g t cs := (hb.block g hg).trans h
theorem Blk.grow (h : Blk w g t cs) (hb : Below w.heap.size w w') : Blk w' g t cs := (hb.block g h.lt).trans h
theorem Blk.grown {row : Option Nat} (h : Blk w g t cs) (hb : w.grownBy w' row) (hg : some g ≠ row) : Blk w' g t cs := (hb.block g h.lt hg).trans h
end

theorem grownBy_far {a b c : World} {row row2 : Option Nat} (h : a.grownBy b row) (hg : b.grownBy c row2) (hr : ∀ g, row2 = some g → a.heap.size ≤ g) : a.grownBy c row :=
  ⟨hg.os.trans h.os, hg.tape.trans h.tape, hg.output.trans h.output, Nat.le_trans h.size hg.size, fun i hi hne => (hg.block i (Nat.lt_of_lt_of_le hi h.size) (fun e => by have := hr i e.symm; omega)).trans (h.block i hi hne)⟩
theorem BoardAt.far {w w' : World} {B bb m : Nat} {n : Int} {v : Value} {bs : List (List Off)} {row : Option Nat} (h : BoardAt w B bb m n v bs) (hg : w.grownBy w' row) (hr : ∀ g, row = some g → bb < g ∧ m < g) : BoardAt w' B bb m n v bs :=
  have hne : some bb ≠ row := fun e => by have := hr bb e.symm; omega
  ⟨hg.cell h.c0 hne, hg.cell h.c1 hne, hg.cell h.c2 hne, h.buys.grown hg (fun b _ hb e => by have := hr b e.symm; have := h.hB; omega), h.hB, h.map.grown hg (fun e => by have := hr m e.symm; omega), h.ok⟩

/-- the least offer's number with which the greatest worth can be had -/
def pickB (g : Nat → Int) (f : Nat) (left : Int) (o : Off) : Bool := decide (andNot o.g f = 0) && decide (o.c + g (andNot f o.g) = left)
def pickAt (g : Nat → Int) (f : Nat) (left : Int) : List Off → Option (Nat × Nat)
  | [] => none
  | o :: l => if pickB g f left o then some (0, o.g) else (pickAt g f left l).map fun p => (p.1 + 1, p.2)
/-- a buyer's number, and what is free behind it -/
def pickN (g : Nat → Int) (f : Nat) (left : Int) (l : List Off) : Int × Nat := match pickAt g f left l with | some (j, o) => ((j : Int), andNot f o) | none => (-1, f)
def choose : List (List Off) → Nat → List Int
  | [], _ => []
  | l :: bs, f => (pickN (W bs) f (W (l :: bs) f) l).1 :: choose bs (pickN (W bs) f (W (l :: bs) f) l).2

theorem choose_length : ∀ (bs : List (List Off)) (f : Nat), (choose bs f).length = bs.length
  | [], _ => rfl
  | l :: bs, f => by simp [choose, choose_length bs]
theorem choose_drop {bs : List (List Off)} {k : Nat} {l : List Off} (h : bs[k]? = some l) (f : Nat) :
    choose (bs.drop k) f = (pickN (W (bs.drop (k + 1))) f (W (bs.drop k) f) l).1 :: choose (bs.drop (k + 1)) (pickN (W (bs.drop (k + 1))) f (W (bs.drop k) f) l).2 := by
  have hlt : k < bs.length := (List.getElem?_eq_some_iff.1 h).1
  rw [List.drop_eq_getElem_cons hlt]
  have : bs[k] = l := by rw [List.getElem?_eq_getElem hlt] at h; injection h
  rw [this]
  rfl
theorem pickAt_none (g : Nat → Int) (f : Nat) (left : Int) : ∀ l : List Off, (∀ o ∈ l, pickB g f left o = false) → pickAt g f left l = none
  | [], _ => rfl
  | o :: l, h => by simp [pickAt, h o (by simp), pickAt_none g f left l (fun x hx => h x (by simp [hx]))]
theorem pickAt_some (g : Nat → Int) (f : Nat) (left : Int) : ∀ (l : List Off) (k : Nat) (o : Off), l[k]? = some o → pickB g f left o = true → (∀ j x, j < k → l[j]? = some x → pickB g f left x = false) → pickAt g f left l = some (k, o.g)
  | [], k, o, h, _, _ => by simp at h
  | x :: l, 0, o, h, hb, _ => by simp at h; subst h; simp [pickAt, hb]
  | x :: l, k + 1, o, h, hb, hn => by
    have h0 := hn 0 x (by omega) rfl
    have := pickAt_some g f left l k o (by simpa using h) hb (fun j y hj hy => hn (j + 1) y (by omega) (by simpa using hy))
    simp [pickAt, h0, this]
theorem pickN_none {g : Nat → Int} {f : Nat} {left : Int} {l : List Off} (h : ∀ j x, j < l.length → l[j]? = some x → pickB g f left x = false) : pickN g f left l = (-1, f) := by
  unfold pickN
  rw [pickAt_none g f left l (fun o ho => ?_)]
  obtain ⟨j, hj, rfl⟩ := List.getElem_of_mem ho
  exact h j _ hj (List.getElem?_eq_getElem hj)
theorem pickN_some {g : Nat → Int} {f : Nat} {left : Int} {l : List Off} {k : Nat} {o : Off} (h1 : l[k]? = some o) (h2 : pickB g f left o = true) (h3 : ∀ j x, j < k → l[j]? = some x → pickB g f left x = false) :
    pickN g f left l = ((k : Int), andNot f o.g) := by
  unfold pickN
  rw [pickAt_some g f left l k o h1 h2 h3]
end Go.Proofs.Ytcigobiolbojhaa.Vb

/- sealed.come. -/
namespace Go.Proofs.Ytcigobiolbojhaa.Vb
open Go.RowKit

def nextC (floor : Int) (l : List Sec) (j : Nat) : Int := match bestK floor (j : Int) l l.length with | none => floor | some (_, c) => c
def soldVal (floor : Int) (l : List Sec) : Value := match bestK floor (-1) l l.length with
  | none => .agg #[.bool false, .int .i64 0, .int .i64 0, .int .i64 0]
  | some (j, c) => .agg #[.bool true, .int .i64 ((l[j]?.map (·.b)).getD 0), .int .i64 c, .int .i64 (nextC floor l j)]

set_option maxRecDepth 100000 in
set_option maxHeartbeats 1600000 in
theorem come_any (floor : Int) (l : List Sec) (v : Value) (R : Nat → Prop) (w : World) (hl : Secs w R v l) :
    Calls Try.prog 130 #[.int .i64 floor, v] w fun e w' => e = .returned (soldVal floor l) ∧ Below w.heap.size w w' := by
  have HL := Lib.hid hl
  obtain ⟨⟨_, A, cap, rfl, hncap, hcap, hcells⟩, _⟩ := hl
  unfold maxLen at hcap
  have HC := Lib.hid hcells
  clear hcells
  cases hbk : bestK floor (-1) l l.length with
  | none =>
    have hs : soldVal floor l = .agg #[.bool false, .int .i64 0, .int .i64 0, .int .i64 0] := by unfold soldVal; rw [hbk]
    have HS := Lib.hid hs
    have HBK := Lib.hid hbk
    clear hs hbk
    have hat : atI none = -1 := rfl
    go_enter Try.func130, Try.ntmps130
    go_wp2_with (go_at_call 150; refine (best_any' floor (-1) l _ R _ (HL.out.alloc _)).mono ?_; rintro e w1 ⟨rfl, hb1⟩; rw [HBK.out, hat]; have hk := (Blk.new w 150 #[.bool false, .int .i64 0, .int .i64 0, .int .i64 0]).grow hb1; have q0 := hk.cell 0; have q1 := hk.cell 1; have q2 := hk.cell 2; have q3 := hk.cell 3; have qf := hk.frozen; simp at q0 q1 q2 q3; have HK := Lib.hid hk; have HB1 := Lib.hid (((Below.refl _ _).alloc (Nat.le_refl _) _).trans (hb1.mono (B' := w.heap.size) (by simp))); clear hb1 hk)
    have hq := (((HK.out.set_ 0 (.bool false)).set_ 1 (.int .i64 0)).set_ 2 (.int .i64 0)).set_ 3 (.int .i64 0)
    have r0 := hq.cell 0
    have r1 := hq.cell 1
    have r2 := hq.cell 2
    have r3 := hq.cell 3
    simp at r0 r1 r2 r3
    rw [HS.out]
    refine bodyPost_ret (v := .agg #[.bool false, .int .i64 0, .int .i64 0, .int .i64 0]) (by simp [results, Try.results130, go_sem, r0, r1, r2, r3]) rfl ⟨rfl, ?_⟩
    exact (((HB1.out.setCell (p := ⟨w.heap.size, 0, none⟩) (by simp) _).setCell (p := ⟨w.heap.size, 1, none⟩) (by simp) _).setCell (p := ⟨w.heap.size, 2, none⟩) (by simp) _).setCell (p := ⟨w.heap.size, 3, none⟩) (by simp) _
  | some p =>
    obtain ⟨j, c⟩ := p
    obtain ⟨hj, s, hsj, hsc⟩ := bestK_get hbk
    have HBK := Lib.hid hbk
    have HSJ := Lib.hid hsj
    obtain ⟨bb, off, rfl, _, hbb, hcs⟩ := HC.out (by omega)
    have c0 : w.cell? ⟨bb, off + j * 2, none⟩ = some (.int .i64 s.b) := hcs _ _ (Sec.all_fst l j s hsj)
    have c1 : w.cell? ⟨bb, off + j * 2 + 1, none⟩ = some (.int .i64 c) := by rw [← hsc]; exact hcs _ _ (Sec.all_snd l j s hsj)
    have C0 := Lib.hid c0
    have C1 := Lib.hid c1
    have HSC := Lib.hid hsc
    have hat : atI (some (j, c)) = (j : Int) := rfl
    have e1 : (0 : Int) ≤ (j : Int) := by omega
    have e2 : (j : Int) < (l.length : Int) := by omega
    have HCS := Lib.hid hcs
    clear hbk hsj hsc c0 c1 hcs
    go_enter Try.func130, Try.ntmps130
    go_wp2_with (go_at_call 150; refine (best_any' floor (-1) l _ R _ (HL.out.alloc _)).mono ?_; rintro e w1 ⟨rfl, hb1⟩; rw [HBK.out, hat]; have hk := (Blk.new w 150 #[.bool false, .int .i64 0, .int .i64 0, .int .i64 0]).grow hb1; have hb := ((Below.refl w.heap.size w).alloc (Nat.le_refl _) (.cells #[.bool false, .int .i64 0, .int .i64 0, .int .i64 0] 150)).trans (hb1.mono (B' := w.heap.size) (by simp)); have c0 := (hb.cell (p := ⟨bb, off + j * 2, none⟩) hbb).trans C0.out; have c1 := (hb.cell (p := ⟨bb, off + j * 2 + 1, none⟩) hbb).trans C1.out; have HK := Lib.hid hk; have HB1 := Lib.hid hb; clear hb1 hk hb)
    have hbb1 : bb < w1.heap.size := Nat.lt_of_lt_of_le hbb HB1.out.size
    have hle1 := HB1.out.size
    have hkl := HK.out.lt
    refine wp_region_F (Below w1.heap.size w1) [13] (by kernel_rfl) ((Below.refl _ _).drew) (fun hS => ?_)
    refine wpAnyF_take (i := 0) (oi := { dst := some 14, op := Go.Op.move (Go.Operand.tmp 1), type := 116, pos := "sealed.go:30", after := #[], guard := none }) (v := ?_) rfl (by kernel_rfl) (by kernel_rfl) (by kernel_rfl) (by kernel_rfl) (fun _ _ _ h => h) (Or.inl ⟨by rfl, ?_⟩) hS ?_
    rotate_left
    · intro w' hSw; have q1 := (hSw.cell (p := ⟨bb, off + j * 2, none⟩) hbb1).trans c0; have q2 := (hSw.cell (p := ⟨bb, off + j * 2 + 1, none⟩) hbb1).trans c1; go_simp; try with_reducible rfl
    try simp only [Act.put, List.setIfInBounds_toArray, List.set_cons_zero, List.set_cons_succ]
    refine wpAnyF_take (i := 1) (oi := { dst := some 15, op := Go.Op.move (Go.Operand.tmp 5), type := 3, pos := "sealed.go:30", after := #[], guard := none }) (v := ?_) rfl (by kernel_rfl) (by kernel_rfl) (by kernel_rfl) (by kernel_rfl) (fun _ _ _ h => h) (Or.inl ⟨by rfl, ?_⟩) hS ?_
    rotate_left
    · intro w' hSw; have q1 := (hSw.cell (p := ⟨bb, off + j * 2, none⟩) hbb1).trans c0; have q2 := (hSw.cell (p := ⟨bb, off + j * 2 + 1, none⟩) hbb1).trans c1; go_simp; try with_reducible rfl
    try simp only [Act.put, List.setIfInBounds_toArray, List.set_cons_zero, List.set_cons_succ]
    refine wpAnyF_take (i := 2) (oi := { dst := some 16, op := Go.Op.indexAddr 116 (Go.Operand.tmp 14) (Go.Operand.tmp 15), type := 0, pos := "sealed.go:30", after := #[{ on := 0, ground := Go.Ground.data }, { on := 1, ground := Go.Ground.data }], guard := none }) (v := ?_) rfl (by kernel_rfl) (by kernel_rfl) (by kernel_rfl) (by kernel_rfl) (fun _ _ _ h => h) (Or.inl ⟨by rfl, ?_⟩) hS ?_
    rotate_left
    · intro w' hSw; have q1 := (hSw.cell (p := ⟨bb, off + j * 2, none⟩) hbb1).trans c0; have q2 := (hSw.cell (p := ⟨bb, off + j * 2 + 1, none⟩) hbb1).trans c1; go_simp; try with_reducible rfl
    try simp only [Act.put, List.setIfInBounds_toArray, List.set_cons_zero, List.set_cons_succ]
    refine wpAnyF_take (i := 3) (oi := { dst := some 17, op := Go.Op.fieldAddr 148 (Go.Operand.tmp 16) 0, type := 0, pos := "sealed.go:30", after := #[{ on := 2, ground := Go.Ground.data }], guard := none }) (v := ?_) rfl (by kernel_rfl) (by kernel_rfl) (by kernel_rfl) (by kernel_rfl) (fun _ _ _ h => h) (Or.inl ⟨by rfl, ?_⟩) hS ?_
    rotate_left
    · intro w' hSw; have q1 := (hSw.cell (p := ⟨bb, off + j * 2, none⟩) hbb1).trans c0; have q2 := (hSw.cell (p := ⟨bb, off + j * 2 + 1, none⟩) hbb1).trans c1; go_simp; try with_reducible rfl
    try simp only [Act.put, List.setIfInBounds_toArray, List.set_cons_zero, List.set_cons_succ]
    refine wpAnyF_take (i := 4) (oi := { dst := some 18, op := Go.Op.load 3 (Go.Operand.tmp 17), type := 3, pos := "sealed.go:30", after := #[{ on := 3, ground := Go.Ground.data }], guard := none }) (v := ?_) rfl (by kernel_rfl) (by kernel_rfl) (by kernel_rfl) (by kernel_rfl) (fun _ _ _ h => h) (Or.inl ⟨by rfl, ?_⟩) hS ?_
    rotate_left
    · intro w' hSw; have q1 := (hSw.cell (p := ⟨bb, off + j * 2, none⟩) hbb1).trans c0; have q2 := (hSw.cell (p := ⟨bb, off + j * 2 + 1, none⟩) hbb1).trans c1; go_simp; try with_reducible rfl
    try simp only [Act.put, List.setIfInBounds_toArray, List.set_cons_zero, List.set_cons_succ]
    refine wpAnyF_take (i := 5) (oi := { dst := some 19, op := Go.Op.move (Go.Operand.tmp 1), type := 116, pos := "sealed.go:30", after := #[], guard := none }) (v := ?_) rfl (by kernel_rfl) (by kernel_rfl) (by kernel_rfl) (by kernel_rfl) (fun _ _ _ h => h) (Or.inl ⟨by rfl, ?_⟩) hS ?_
    rotate_left
    · intro w' hSw; have q1 := (hSw.cell (p := ⟨bb, off + j * 2, none⟩) hbb1).trans c0; have q2 := (hSw.cell (p := ⟨bb, off + j * 2 + 1, none⟩) hbb1).trans c1; go_simp; try with_reducible rfl
    try simp only [Act.put, List.setIfInBounds_toArray, List.set_cons_zero, List.set_cons_succ]
    refine wpAnyF_take (i := 6) (oi := { dst := some 20, op := Go.Op.move (Go.Operand.tmp 5), type := 3, pos := "sealed.go:30", after := #[], guard := none }) (v := ?_) rfl (by kernel_rfl) (by kernel_rfl) (by kernel_rfl) (by kernel_rfl) (fun _ _ _ h => h) (Or.inl ⟨by rfl, ?_⟩) hS ?_
    rotate_left
    · intro w' hSw; have q1 := (hSw.cell (p := ⟨bb, off + j * 2, none⟩) hbb1).trans c0; have q2 := (hSw.cell (p := ⟨bb, off + j * 2 + 1, none⟩) hbb1).trans c1; go_simp; try with_reducible rfl
    try simp only [Act.put, List.setIfInBounds_toArray, List.set_cons_zero, List.set_cons_succ]
    refine wpAnyF_take (i := 7) (oi := { dst := some 21, op := Go.Op.indexAddr 116 (Go.Operand.tmp 19) (Go.Operand.tmp 20), type := 0, pos := "sealed.go:30", after := #[{ on := 5, ground := Go.Ground.data }, { on := 6, ground := Go.Ground.data }], guard := none }) (v := ?_) rfl (by kernel_rfl) (by kernel_rfl) (by kernel_rfl) (by kernel_rfl) (fun _ _ _ h => h) (Or.inl ⟨by rfl, ?_⟩) hS ?_
    rotate_left
    · intro w' hSw; have q1 := (hSw.cell (p := ⟨bb, off + j * 2, none⟩) hbb1).trans c0; have q2 := (hSw.cell (p := ⟨bb, off + j * 2 + 1, none⟩) hbb1).trans c1; go_simp; try with_reducible rfl
    try simp only [Act.put, List.setIfInBounds_toArray, List.set_cons_zero, List.set_cons_succ]
    refine wpAnyF_take (i := 8) (oi := { dst := some 22, op := Go.Op.fieldAddr 148 (Go.Operand.tmp 21) 1, type := 0, pos := "sealed.go:30", after := #[{ on := 7, ground := Go.Ground.data }], guard := none }) (v := ?_) rfl (by kernel_rfl) (by kernel_rfl) (by kernel_rfl) (by kernel_rfl) (fun _ _ _ h => h) (Or.inl ⟨by rfl, ?_⟩) hS ?_
    rotate_left
    · intro w' hSw; have q1 := (hSw.cell (p := ⟨bb, off + j * 2, none⟩) hbb1).trans c0; have q2 := (hSw.cell (p := ⟨bb, off + j * 2 + 1, none⟩) hbb1).trans c1; go_simp; try with_reducible rfl
    try simp only [Act.put, List.setIfInBounds_toArray, List.set_cons_zero, List.set_cons_succ]
    refine wpAnyF_take (i := 9) (oi := { dst := some 23, op := Go.Op.load 2 (Go.Operand.tmp 22), type := 2, pos := "sealed.go:30", after := #[{ on := 8, ground := Go.Ground.data }], guard := none }) (v := ?_) rfl (by kernel_rfl) (by kernel_rfl) (by kernel_rfl) (by kernel_rfl) (fun _ _ _ h => h) (Or.inl ⟨by rfl, ?_⟩) hS ?_
    rotate_left
    · intro w' hSw; have q1 := (hSw.cell (p := ⟨bb, off + j * 2, none⟩) hbb1).trans c0; have q2 := (hSw.cell (p := ⟨bb, off + j * 2 + 1, none⟩) hbb1).trans c1; go_simp; try with_reducible rfl
    try simp only [Act.put, List.setIfInBounds_toArray, List.set_cons_zero, List.set_cons_succ]
    refine wpAnyF_take (i := 10) (oi := { dst := some 24, op := Go.Op.move (Go.Operand.tmp 0), type := 2, pos := "sealed.go:30", after := #[], guard := none }) (v := ?_) rfl (by kernel_rfl) (by kernel_rfl) (by kernel_rfl) (by kernel_rfl) (fun _ _ _ h => h) (Or.inl ⟨by rfl, ?_⟩) hS ?_
    rotate_left
    · intro w' hSw; have q1 := (hSw.cell (p := ⟨bb, off + j * 2, none⟩) hbb1).trans c0; have q2 := (hSw.cell (p := ⟨bb, off + j * 2 + 1, none⟩) hbb1).trans c1; go_simp; try with_reducible rfl
    try simp only [Act.put, List.setIfInBounds_toArray, List.set_cons_zero, List.set_cons_succ]
    refine wpAnyF_take (i := 11) (oi := { dst := some 25, op := Go.Op.build 150 #[(0, Go.Operand.const (Go.Value.bool true)), (1, Go.Operand.tmp 18), (2, Go.Operand.tmp 23), (3, Go.Operand.tmp 24)], type := 150, pos := "sealed.go:30", after := #[{ on := 4, ground := Go.Ground.data }, { on := 9, ground := Go.Ground.data }, { on := 10, ground := Go.Ground.data }], guard := none }) (v := ?_) rfl (by kernel_rfl) (by kernel_rfl) (by kernel_rfl) (by kernel_rfl) (fun _ _ _ h => h) (Or.inl ⟨by rfl, ?_⟩) hS ?_
    rotate_left
    · intro w' hSw; have q1 := (hSw.cell (p := ⟨bb, off + j * 2, none⟩) hbb1).trans c0; have q2 := (hSw.cell (p := ⟨bb, off + j * 2 + 1, none⟩) hbb1).trans c1; go_simp; try with_reducible rfl
    try simp only [Act.put, List.setIfInBounds_toArray, List.set_cons_zero, List.set_cons_succ]
    refine wpAnyF_ready (rs := [12]) (by kernel_rfl) (by simp) ?_
    refine AllReadyF.cons (o := { dst := some 6, op := Go.Op.alloc 150, type := 0, pos := "sealed.go:30", after := #[], guard := none }) rfl (by rfl) (fun K hK => ?_) ?_
    · go_simp
      refine hK.out _ _ ?_ (fun hS => ?_)
      · exact hS.alloc hS.size _
      clear hK K
      try simp only [Act.put, List.setIfInBounds_toArray, List.set_cons_zero, List.set_cons_succ]
      refine wpAnyF_ready (rs := [13]) (by kernel_rfl) (by simp) ?_
      refine AllReadyF.fin (o := { dst := none, op := Go.Op.store 150 (Go.Operand.tmp 6) (Go.Operand.tmp 25), type := 0, pos := "sealed.go:30", after := #[{ on := 12, ground := Go.Ground.data }, { on := 11, ground := Go.Ground.data }, { on := 0, ground := Go.Ground.phase }, { on := 1, ground := Go.Ground.phase }, { on := 2, ground := Go.Ground.phase }, { on := 3, ground := Go.Ground.phase }, { on := 4, ground := Go.Ground.phase }, { on := 5, ground := Go.Ground.phase }, { on := 6, ground := Go.Ground.phase }, { on := 7, ground := Go.Ground.phase }, { on := 8, ground := Go.Ground.phase }, { on := 9, ground := Go.Ground.phase }, { on := 10, ground := Go.Ground.phase }, { on := 11, ground := Go.Ground.phase }, { on := 12, ground := Go.Ground.phase }], guard := none }) rfl (by rfl) (fun K hK => ?_) ?_
      · go_simp
        refine hK.out _ _ ?_
        clear hK K
        try simp only [Act.put, List.setIfInBounds_toArray, List.set_cons_zero, List.set_cons_succ]
        refine wpAnyF_done (by kernel_rfl) ?_ _
        go_wp2_with fail
        refine (best_any' floor (j : Int) l _ R _ (HL.out.grow (HB1.out.trans (((Below.refl w1.heap.size w1).alloc (Nat.le_refl _) (.cells #[.bool true, .int .i64 s.b, .int .i64 c, .int .i64 floor] 150)).drew.mono (B' := w.heap.size) hle1)))).mono ?_
        rintro e w2 ⟨rfl, hb2⟩
        have hb2' := hb2.mono (B' := w1.heap.size + 1) (by simp)
        have hR := HK.out.grow (((Below.refl w1.heap.size w1).alloc (Nat.le_refl _) (.cells #[.bool true, .int .i64 s.b, .int .i64 c, .int .i64 floor] 150)).drew.trans (hb2'.mono (by omega)))
        have hN : Blk w2 w1.heap.size 150 #[.bool true, .int .i64 s.b, .int .i64 c, .int .i64 floor] := (Blk.new w1 150 #[.bool true, .int .i64 s.b, .int .i64 c, .int .i64 floor]).drew.below hb2' (by omega)
        have hB2 := (HB1.out.alloc hle1 (.cells #[.bool true, .int .i64 s.b, .int .i64 c, .int .i64 floor] 150)).drew.trans (hb2'.mono (B' := w.heap.size) (by omega))
        have hval : soldVal floor l = .agg #[.bool true, .int .i64 s.b, .int .i64 c, .int .i64 (nextC floor l j)] := by
          unfold soldVal
          rw [HBK.out]
          simp only [HSJ.out, Option.map_some, Option.getD_some]
        have HVAL := Lib.hid hval
        have HR := Lib.hid hR
        have HN := Lib.hid hN
        have HB2 := Lib.hid hB2
        clear hb2 hb2' hR hN hB2 hval hS
        cases hbk2 : bestK floor (j : Int) l l.length with
        | none =>
          have hnx : nextC floor l j = floor := by unfold nextC; rw [hbk2]
          have HNX := Lib.hid hnx
          have n0 := HN.out.cell 0
          have n1 := HN.out.cell 1
          have n2 := HN.out.cell 2
          have n3 := HN.out.cell 3
          have r0 := HR.out.cell 0
          have r1 := HR.out.cell 1
          have r2 := HR.out.cell 2
          have r3 := HR.out.cell 3
          have rf := HR.out.frozen
          have hq := (((HR.out.set_ 0 (.bool true)).set_ 1 (.int .i64 s.b)).set_ 2 (.int .i64 c)).set_ 3 (.int .i64 floor)
          have s0 := hq.cell 0
          have s1 := hq.cell 1
          have s2 := hq.cell 2
          have s3 := hq.cell 3
          simp at n0 n1 n2 n3 r0 r1 r2 r3 s0 s1 s2 s3
          have hat2 : atI none = -1 := rfl
          rw [hat2]
          clear hbk2 hnx hq
          go_wp2_with fail
          rw [HVAL.out, HNX.out]
          refine bodyPost_ret (v := .agg #[.bool true, .int .i64 s.b, .int .i64 c, .int .i64 floor]) (by simp [results, Try.results130, go_sem, s0, s1, s2, s3]) rfl ⟨rfl, ?_⟩
          exact (((HB2.out.setCell (p := ⟨w.heap.size, 0, none⟩) (by simp) _).setCell (p := ⟨w.heap.size, 1, none⟩) (by simp) _).setCell (p := ⟨w.heap.size, 2, none⟩) (by simp) _).setCell (p := ⟨w.heap.size, 3, none⟩) (by simp) _
        | some p2 =>
          obtain ⟨j2, c2⟩ := p2
          obtain ⟨hj2, s2, hsj2, hsc2⟩ := bestK_get hbk2
          have hnx : nextC floor l j = c2 := by unfold nextC; rw [hbk2]
          have HNX := Lib.hid hnx
          have hat2 : atI (some (j2, c2)) = (j2 : Int) := rfl
          have e3 : (0 : Int) ≤ (j2 : Int) := by omega
          have e4 : (j2 : Int) < (l.length : Int) := by omega
          have d1 : w2.cell? ⟨bb, off + j2 * 2 + 1, none⟩ = some (.int .i64 c2) := by rw [← hsc2]; exact (HB2.out.cell (p := ⟨bb, off + j2 * 2 + 1, none⟩) hbb).trans (HCS.out _ _ (Sec.all_snd l j2 s2 hsj2))
          have n3 : w2.cell? ⟨w1.heap.size, 3, none⟩ = some (.int .i64 floor) := HN.out.cell 3
          have nf : w2.frozen? ⟨w1.heap.size, 3, none⟩ = false := HN.out.frozen 3
          have hN3 := HN.out.set_ 3 (.int .i64 c2)
          have hR3 := HR.out.far (p := ⟨w1.heap.size, 3, none⟩) (show w.heap.size ≠ w1.heap.size by omega) (.int .i64 c2)
          have m0 := hN3.cell 0
          have m1 := hN3.cell 1
          have m2 := hN3.cell 2
          have m3 := hN3.cell 3
          have r0 := hR3.cell 0
          have r1 := hR3.cell 1
          have r2 := hR3.cell 2
          have r3 := hR3.cell 3
          have rf := hR3.frozen
          have hq := (((hR3.set_ 0 (.bool true)).set_ 1 (.int .i64 s.b)).set_ 2 (.int .i64 c)).set_ 3 (.int .i64 c2)
          have s0 := hq.cell 0
          have s1 := hq.cell 1
          have s2' := hq.cell 2
          have s3 := hq.cell 3
          simp at m0 m1 m2 m3 r0 r1 r2 r3 s0 s1 s2' s3
          rw [hat2]
          clear hbk2 hnx hq hN3 hR3 hsj2 hsc2 hat2
          go_wp2_with fail
          rw [HVAL.out, HNX.out]
          refine bodyPost_ret (v := .agg #[.bool true, .int .i64 s.b, .int .i64 c, .int .i64 c2]) (by simp [results, Try.results130, go_sem, s0, s1, s2', s3]) rfl ⟨rfl, ?_⟩
          exact ((((HB2.out.setCell (p := ⟨w1.heap.size, 3, none⟩) hle1 _).setCell (p := ⟨w.heap.size, 0, none⟩) (by simp) _).setCell (p := ⟨w.heap.size, 1, none⟩) (by simp) _).setCell (p := ⟨w.heap.size, 2, none⟩) (by simp) _).setCell (p := ⟨w.heap.size, 3, none⟩) (by simp) _
      exact AllReadyF.nil
    exact AllReadyF.nil
end Go.Proofs.Ytcigobiolbojhaa.Vb

/- A map of ints to ints, of the call's own, as a function. -/
namespace Go.Proofs.Ytcigobiolbojhaa.Vb
open Go.RowKit
open Go.Maps (Keyed)

def MapI (P : Program) (kt et : TypeId) (w : World) (b n : Nat) (F : Int → Option Int) : Prop :=
  ∃ D : DataW Unit, Maps.IsMap D ∧ w.ownsMap P kt (plainElem P et) b n D ∧ ∀ x z, D.atKey (.int .i64 x) z = match F x with | some v => .lit (.int .i64 v) | none => z

section
variable {P : Program} {kt et t : TypeId} {w w' : World} {b n : Nat} {F : Int → Option Int}
theorem MapI.lt (h : MapI P kt et w b n F) : b < w.heap.size := let ⟨_, _, h2, _⟩ := h; h2.lt
theorem MapI.made (w : World) : MapI P kt et (w.alloc (.map #[] 0)) w.heap.size 0 (fun _ => none) :=
  ⟨.map [], Maps.isMap_empty, World.ownsMap_made w P kt _, fun x z => by simp [DataW.atKey]⟩
theorem MapI.grown {row : Option Nat} (h : MapI P kt et w b n F) (hg : w.grownBy w' row) (hne : some b ≠ row) : MapI P kt et w' b n F :=
  let ⟨D, h1, h2, h3⟩ := h; ⟨D, h1, h2.kept hg hne, h3⟩
theorem MapI.grow (h : MapI P kt et w b n F) (hb : Below w.heap.size w w') : MapI P kt et w' b n F := h.grown (grownBy_of_below hb none) (by simp)
theorem MapI.alloc (h : MapI P kt et w b n F) (o : Obj) : MapI P kt et (w.alloc o) b n F := let ⟨D, h1, h2, h3⟩ := h; ⟨D, h1, h2.alloc o, h3⟩
theorem MapI.setCell (h : MapI P kt et w b n F) {p : Addr} (hne : b ≠ p.block) (u : Value) : MapI P kt et (w.setCell p u) b n F := h.grown (grownBy_setCell w p u) (by simpa using hne)
theorem MapI.not_cells (h : MapI P kt et w b n F) {p : Addr} {v : Value} (hc : w.cell? p = some v) : p.block ≠ b := by
  rintro rfl
  obtain ⟨D, _, ⟨es, clock, h1, _⟩, _⟩ := h
  simp [World.cell?, h1] at hc
theorem MapI.look (h : MapI P kt et w b n F) (K : Keyed P kt) (ht : P.underlying t = some (.map kt et)) (hk : P.underlying kt = some (.int .i64)) (he : P.underlying et = some (.int .i64)) (hz : (zeroValue et).run P w = .ok (.int .i64 0) w) {x : Int} (hx : (Lit.int .i64 x).wf = true) :
    (Instr.lookup t (.map (some b)) (.int .i64 x) false).run P w = .ok (.int .i64 ((F x).getD 0)) w := by
  obtain ⟨D, h1, h2, h3⟩ := h
  obtain ⟨c, hrun, hat, _⟩ := h2.lookup_int K ht he hz (Maps.keyOf_int_mk hk hx)
  rw [hrun]
  rw [h3 x] at hat
  cases hF : F x with
  | none => rw [hF] at hat; simp at hat; rw [← hat]; rfl
  | some v => rw [hF] at hat; simp at hat; rw [← hat]; rfl
theorem MapI.store (h : MapI P kt et w b n F) (K : Keyed P kt) (ht : P.underlying t = some (.map kt et)) (hk : P.underlying kt = some (.int .i64)) (he : P.underlying et = some (.int .i64)) (hn : n < maxLen) {x v : Int} (hx : (Lit.int .i64 x).wf = true) (hv : (Lit.int .i64 v).wf = true) :
    ∃ w', (Instr.mapUpdate t (.map (some b)) (.int .i64 x) (.int .i64 v)).run P w = .ok () w' ∧ MapI P kt et w' b (n + 1) (fun y => if y = x then some v else F y) ∧ w.grownBy w' (some b) := by
  obtain ⟨D, h1, h2, h3⟩ := h
  obtain ⟨w', hrun, h4, h5⟩ := h2.update K ht hn (Maps.keyOf_int_mk hk hx) (plainElem_int he hv)
  refine ⟨w', hrun, ⟨_, h1.put _ _, h4, fun y z => ?_⟩, h5⟩
  by_cases hy : y = x
  · subst hy
    rw [Maps.atKey_put_same h1 (show WideAt.IsKeyLit (.int .i64 y) from trivial)]
    simp
  · rw [Maps.atKey_put_other (fun e => hy (by injection e)), h3]
    simp [hy]
end
theorem int_keyed' : Keyed Try.prog 3 := Maps.int_keyed Try.underlying3
end Go.Proofs.Ytcigobiolbojhaa.Vb

/- sealed.Sell. -/
namespace Go.Proofs.Ytcigobiolbojhaa.Vb
open Go.RowKit

def sellBad (floor : Int) (l : List Sec) : Bool := !coinB floor || l.any secBad
instance (l : List Int) : Decidable l.Nodup := inferInstance
def sellE (floor : Int) (l : List Sec) : Int := if sellBad floor l = true then 2 else if (l.map (·.b)).Nodup then 0 else 5
def sellV (floor : Int) (l : List Sec) : Value := if sellE floor l = 0 then soldVal floor l else .agg #[.bool false, .int .i64 0, .int .i64 0, .int .i64 0]

theorem soldVal_form (floor : Int) (l : List Sec) : ∃ (b : Bool) (x y z : Int), soldVal floor l = .agg #[.bool b, .int .i64 x, .int .i64 y, .int .i64 z] := by
  unfold soldVal
  split
  · exact ⟨_, _, _, _, rfl⟩
  · exact ⟨_, _, _, _, rfl⟩

/-- how often each bidder was seen among the first k, where none came twice -/
def seenF (l : List Sec) (k : Nat) : Int → Option Int := fun x => if x ∈ (l.take k).map (·.b) then some 1 else none
theorem take_snocS {l : List Sec} {k : Nat} {s : Sec} (h : l[k]? = some s) : (l.take (k + 1)).map (·.b) = (l.take k).map (·.b) ++ [s.b] := by
  rw [List.take_add_one, h]; simp

set_option maxRecDepth 100000 in
set_option maxHeartbeats 3200000 in
theorem sell_any (floor : Int) (l : List Sec) (v : Value) (R : Nat → Prop) (w : World) (hl : Secs w R v l) :
    Calls Try.prog 91 #[.int .i64 floor, v] w fun e w' => e = .returned (.tuple #[sellV floor l, .int .i64 (sellE floor l)]) ∧ Below w.heap.size w w' := by
  have HL := Lib.hid hl
  obtain ⟨⟨_, A, cap, rfl, hncap, hcap, hcells⟩, hwf⟩ := hl
  unfold maxLen at hcap
  have HC := Lib.hid hcells
  have HWF := Lib.hid hwf
  have hk0 := Blk.new w 150 #[.bool false, .int .i64 0, .int .i64 0, .int .i64 0]
  have HK0 := Lib.hid hk0
  clear hcells hwf hk0
  cases hbad : sellBad floor l with
  | true =>
    have hE : sellE floor l = 2 := by unfold sellE; rw [if_pos hbad]
    have hV : sellV floor l = .agg #[.bool false, .int .i64 0, .int .i64 0, .int .i64 0] := by unfold sellV; rw [hE, if_neg (by decide)]
    have HE := Lib.hid hE
    have HV := Lib.hid hV
    cases hcf : coinB floor with
    | false =>
      have HCF := Lib.hid hcf
      have hq := (((HK0.out.set_ 0 (.bool false)).set_ 1 (.int .i64 0)).set_ 2 (.int .i64 0)).set_ 3 (.int .i64 0)
      have r0 := hq.cell 0
      have r1 := hq.cell 1
      have r2 := hq.cell 2
      have r3 := hq.cell 3
      simp at r0 r1 r2 r3
      clear hE hV hbad hcf hq
      go_enter Try.func91, Try.ntmps91
      go_wp2_with (go_at_call 128; refine (coins_any floor _).mono ?_; rintro e w1 ⟨rfl, rfl⟩; rw [HCF.out])
      rw [HE.out, HV.out]
      refine bodyPost_ret (v := .tuple #[.agg #[.bool false, .int .i64 0, .int .i64 0, .int .i64 0], .int .i64 2]) (by simp [results, Try.results91, go_sem]) rfl ⟨rfl, ?_⟩
      exact (Below.refl w.heap.size w).alloc (Nat.le_refl _) _
    | true =>
      have hany : l.any secBad = true := by simpa [sellBad, hcf] using hbad
      have HCF := Lib.hid hcf
      have HANY := Lib.hid hany
      clear hE hV hbad hcf hany
      go_enter Try.func91, Try.ntmps91
      go_wp2_with (first
        | (go_at_call 128; refine (coins_any floor _).mono ?_; rintro e w1 ⟨rfl, rfl⟩; rw [HCF.out])
        | (go_at_call 129; refine (containsSec_any l _ R _ (HL.out.alloc _)).mono ?_; rintro e w1 ⟨rfl, hb1⟩; rw [HANY.out]; have hk := HK0.out.grow hb1; have q0 := hk.cell 0; have q1 := hk.cell 1; have q2 := hk.cell 2; have q3 := hk.cell 3; have qf := hk.frozen; simp at q0 q1 q2 q3; have HK := Lib.hid hk; have HB1 := Lib.hid (((Below.refl _ _).alloc (Nat.le_refl _) _).trans (hb1.mono (B' := w.heap.size) (by simp))); clear hb1 hk))
      have hq := (((HK.out.set_ 0 (.bool false)).set_ 1 (.int .i64 0)).set_ 2 (.int .i64 0)).set_ 3 (.int .i64 0)
      have r0 := hq.cell 0
      have r1 := hq.cell 1
      have r2 := hq.cell 2
      have r3 := hq.cell 3
      simp at r0 r1 r2 r3
      rw [HE.out, HV.out]
      refine bodyPost_ret (v := .tuple #[.agg #[.bool false, .int .i64 0, .int .i64 0, .int .i64 0], .int .i64 2]) (by simp [results, Try.results91, go_sem, r0, r1, r2, r3]) rfl ⟨rfl, ?_⟩
      exact (((HB1.out.setCell (p := ⟨w.heap.size, 0, none⟩) (by simp) _).setCell (p := ⟨w.heap.size, 1, none⟩) (by simp) _).setCell (p := ⟨w.heap.size, 2, none⟩) (by simp) _).setCell (p := ⟨w.heap.size, 3, none⟩) (by simp) _
  | false =>
    have hcf : coinB floor = true := by
      cases h : coinB floor with
      | true => rfl
      | false => simp [sellBad, h] at hbad
    have hany : l.any secBad = false := by simpa [sellBad, hcf] using hbad
    have hE : sellE floor l = if (l.map (·.b)).Nodup then 0 else 5 := by unfold sellE; rw [if_neg (by rw [hbad]; decide)]
    have HCF := Lib.hid hcf
    have HANY := Lib.hid hany
    have HE := Lib.hid hE
    have hmm := @run_makeMap Try.prog
    clear hbad hcf hany hE
    go_enter Try.func91, Try.ntmps91
    go_wp2_with (first
      | (go_at_call 128; refine (coins_any floor _).mono ?_; rintro e w1 ⟨rfl, rfl⟩; rw [HCF.out])
      | (go_at_call 129; refine (containsSec_any l _ R _ (HL.out.alloc _)).mono ?_; rintro e w1 ⟨rfl, hb1⟩; rw [HANY.out]; have HK1 := Lib.hid (HK0.out.grow hb1); have HB1 := Lib.hid (((Below.refl _ _).alloc (Nat.le_refl _) _).trans (hb1.mono (B' := w.heap.size) (by simp))); clear hb1))
    clear hmm
    have hb2 := HB1.out.alloc HB1.out.size (.map #[] 0)
    have hk2 := HK1.out.alloc (.map #[] 0)
    have hklt := HK1.out.lt
    have hm2 := MapI.made (P := Try.prog) (kt := 3) (et := 3) w1
    obtain ⟨u2, hu2⟩ : ∃ u, u = w1.alloc (.map #[] 0) := ⟨_, rfl⟩
    rw [← hu2] at hb2 hk2 hm2 ⊢
    clear hu2
    have HB2 := Lib.hid hb2
    have HK2 := Lib.hid hk2
    have HM2 := Lib.hid hm2
    clear hb2 hk2 hm2
    go_loopw [22] (fun i wr => ∃ k : Nat, k ≤ l.length ∧ i = .int .i64 k ∧ ((l.take k).map (·.b)).Nodup ∧ MapI Try.prog 3 3 wr w1.heap.size k (seenF l k) ∧ Blk wr w.heap.size 150 #[.bool false, .int .i64 0, .int .i64 0, .int .i64 0] ∧ Below w.heap.size w wr) (fun i _ => l.length - (intOf i).toNat)
    case atStart => exact ⟨0, Nat.zero_le _, rfl, by simp, by
      have h := HM2.out
      have e : seenF l 0 = fun _ => none := by funext x; simp [seenF]
      rw [e]; exact h, HK2.out, HB2.out⟩
    case round =>
      obtain ⟨k, hk, rfl, hnd, hm, hkb, hb⟩ := hrel
      have HND := Lib.hid hnd
      have HM := Lib.hid hm
      have HKB := Lib.hid hkb
      have HB := Lib.hid hb
      by_cases hlt : k < l.length
      · obtain ⟨bb, off, rfl, _, hbb, hcs⟩ := HC.out (by omega)
        obtain ⟨o, ho⟩ : ∃ o, l[k]? = some o := ⟨_, List.getElem?_eq_getElem hlt⟩
        have c0 : wr.cell? ⟨bb, off + k * 2, none⟩ = some (.int .i64 o.b) := (hb.cell hbb).trans (hcs _ _ (Sec.all_fst l k o ho))
        have c1 : wr.cell? ⟨bb, off + k * 2 + 1, none⟩ = some (.int .i64 o.c) := (hb.cell hbb).trans (hcs _ _ (Sec.all_snd l k o ho))
        have hw := HWF.out o (List.mem_of_getElem? ho)
        have hwf : (Lit.int .i64 o.b).wf = true := WalkArith.wf_i64 ⟨hw.1.1, hw.1.2⟩
        have e1 : (0 : Int) ≤ (k : Int) := by omega
        have e2 : (k : Int) < (l.length : Int) := by omega
        have hsn := take_snocS ho
        have hmx := hm.alloc (.cells #[.int .i64 o.b, .int .i64 o.c] 148)
        have hl1 := hmx.look int_keyed' Try.underlying196 Try.underlying3 Try.underlying3 (Try.zeroValue3 _) hwf
        have HO := Lib.hid ho
        have HSN := Lib.hid hsn
        have hmlt := hm.lt
        by_cases hin : o.b ∈ (l.take k).map (·.b)
        · have hv : (seenF l k o.b).getD 0 = 1 := by unfold seenF; rw [if_pos hin]; rfl
          rw [hv] at hl1
          obtain ⟨w', hs1, hm1, hg1⟩ := hmx.store int_keyed' Try.underlying196 Try.underlying3 Try.underlying3 (by unfold maxLen; omega) hwf (show (Lit.int .i64 2).wf = true by decide)
          have hl2 := hm1.look int_keyed' Try.underlying196 Try.underlying3 Try.underlying3 (Try.zeroValue3 _) hwf
          simp only [if_true, Option.getD_some] at hl2
          have hne : w1.heap.size ≠ w.heap.size := by have := HK1.out.lt; omega
          have hkb' := (hkb.alloc (.cells #[.int .i64 o.b, .int .i64 o.c] 148)).grown hg1 (fun e => hne (by injection e with e; exact e.symm))
          have n0 := (Blk.new wr 148 #[.int .i64 o.b, .int .i64 o.c]).grown hg1 (fun e => by injection e with e; omega)
          have n00 : w'.cell? ⟨wr.heap.size, 0, none⟩ = some (.int .i64 o.b) := n0.cell 0
          have q0 := hkb'.cell 0
          have q1 := hkb'.cell 1
          have q2 := hkb'.cell 2
          have q3 := hkb'.cell 3
          have qf := hkb'.frozen
          have hq := (((hkb'.set_ 0 (.bool false)).set_ 1 (.int .i64 0)).set_ 2 (.int .i64 0)).set_ 3 (.int .i64 0)
          have r0 := hq.cell 0
          have r1 := hq.cell 1
          have r2 := hq.cell 2
          have r3 := hq.cell 3
          simp at q0 q1 q2 q3 r0 r1 r2 r3
          have hbw := (HB.out.alloc HB.out.size (.cells #[.int .i64 o.b, .int .i64 o.c] 148)).grown hg1 (by have := HB.out.size; simp; omega) (fun g e => by injection e with e; have := HB1.out.size; omega)
          have HBW := Lib.hid hbw
          have hnot : ¬ (l.map (·.b)).Nodup := fun hn => by
            have h1 : ((l.take (k + 1)).map (·.b)).Nodup := hn.sublist ((List.take_sublist (k + 1) l).map _)
            rw [HSN.out] at h1
            exact (List.nodup_append.1 h1).2.2 _ hin _ (by simp) rfl
          have hE5 : sellE floor l = 5 := by rw [HE.out, if_neg hnot]
          have hV5 : sellV floor l = .agg #[.bool false, .int .i64 0, .int .i64 0, .int .i64 0] := by unfold sellV; rw [hE5, if_neg (by decide)]
          have HE5 := Lib.hid hE5
          have HV5 := Lib.hid hV5
          clear hnd hm hkb hb hcs ho hsn hmx hm1 hg1 hkb' n0 hq hbw hnot hE5 hV5 hin hv
          go_wp2_with fail
          rw [HE5.out, HV5.out]
          refine bodyPost_ret (v := .tuple #[.agg #[.bool false, .int .i64 0, .int .i64 0, .int .i64 0], .int .i64 5]) (by simp [results, Try.results91, go_sem, r0, r1, r2, r3]) rfl ⟨rfl, ?_⟩
          exact (((HBW.out.setCell (p := ⟨w.heap.size, 0, none⟩) (by simp) _).setCell (p := ⟨w.heap.size, 1, none⟩) (by simp) _).setCell (p := ⟨w.heap.size, 2, none⟩) (by simp) _).setCell (p := ⟨w.heap.size, 3, none⟩) (by simp) _
        · have hv : (seenF l k o.b).getD 0 = 0 := by unfold seenF; rw [if_neg hin]; rfl
          rw [hv] at hl1
          obtain ⟨w', hs1, hm1, hg1⟩ := hmx.store int_keyed' Try.underlying196 Try.underlying3 Try.underlying3 (by unfold maxLen; omega) hwf (show (Lit.int .i64 1).wf = true by decide)
          have hl2 := hm1.look int_keyed' Try.underlying196 Try.underlying3 Try.underlying3 (Try.zeroValue3 _) hwf
          simp only [if_true, Option.getD_some] at hl2
          have hne : w1.heap.size ≠ w.heap.size := by have := HK1.out.lt; omega
          have hkb' := (hkb.alloc (.cells #[.int .i64 o.b, .int .i64 o.c] 148)).grown hg1 (fun e => hne (by injection e with e; exact e.symm))
          have n0 := (Blk.new wr 148 #[.int .i64 o.b, .int .i64 o.c]).grown hg1 (fun e => by injection e with e; omega)
          have n00 : w'.cell? ⟨wr.heap.size, 0, none⟩ = some (.int .i64 o.b) := n0.cell 0
          have hbw := (HB.out.alloc HB.out.size (.cells #[.int .i64 o.b, .int .i64 o.c] 148)).grown hg1 (by have := HB.out.size; simp; omega) (fun g e => by injection e with e; have := HB1.out.size; omega)
          have hF : (fun y => if y = o.b then some (1 : Int) else seenF l k y) = seenF l (k + 1) := by
            funext y
            unfold seenF
            rw [HSN.out]
            by_cases hy : y = o.b <;> simp [hy]
          rw [hF] at hm1
          have HBW := Lib.hid hbw
          have HM1 := Lib.hid hm1
          have HKB1 := Lib.hid hkb'
          have HIN := Lib.hid hin
          clear hnd hm hkb hb hcs ho hsn hmx hm1 hg1 hkb' n0 hbw hF hin hv
          go_wp2_with fail
          go_roundw
          case rel =>
            refine ⟨k + 1, by omega, by go_num, ?_, HM1.out, HKB1.out, HBW.out⟩
            rw [HSN.out]
            refine List.nodup_append.2 ⟨HND.out, by simp, fun a ha b hb => ?_⟩
            simp at hb
            subst hb
            exact fun e => HIN.out (by rw [← e]; exact ha)
          case measure => simp [intOf]; omega
      · obtain rfl : k = l.length := by omega
        have hn : (l.map (·.b)).Nodup := by rw [List.take_length] at hnd; exact hnd
        have hE0 : sellE floor l = 0 := by rw [HE.out, if_pos hn]
        have hV0 : sellV floor l = soldVal floor l := by unfold sellV; rw [hE0, if_pos rfl]
        have HE0 := Lib.hid hE0
        have HV0 := Lib.hid hV0
        have hbw : Below w.heap.size w wr := hb
        obtain ⟨vb, vx, vy, vz, hform⟩ := soldVal_form floor l
        have HF := Lib.hid hform
        clear hnd hm hkb hb hn hE0 hV0 hbw hform
        go_wp2_with (go_at_call 130; refine (come_any floor l _ R _ (HL.out.grow HB.out)).mono ?_; rintro e w2 ⟨rfl, hb2⟩; rw [HF.out]; have hk := HKB.out.grow hb2; have q0 := hk.cell 0; have q1 := hk.cell 1; have q2 := hk.cell 2; have q3 := hk.cell 3; have qf := hk.frozen; simp at q0 q1 q2 q3; have HKX := Lib.hid hk; have HBX := Lib.hid (HB.out.trans (hb2.mono HB.out.size)); clear hb2 hk)
        have hq := (((HKX.out.set_ 0 (.bool vb)).set_ 1 (.int .i64 vx)).set_ 2 (.int .i64 vy)).set_ 3 (.int .i64 vz)
        have r0 := hq.cell 0
        have r1 := hq.cell 1
        have r2 := hq.cell 2
        have r3 := hq.cell 3
        simp at r0 r1 r2 r3
        rw [HE0.out, HV0.out, HF.out]
        refine bodyPost_ret (v := .tuple #[.agg #[.bool vb, .int .i64 vx, .int .i64 vy, .int .i64 vz], .int .i64 0]) (by simp [results, Try.results91, go_sem, r0, r1, r2, r3]) rfl ⟨rfl, ?_⟩
        exact (((HBX.out.setCell (p := ⟨w.heap.size, 0, none⟩) (by simp) _).setCell (p := ⟨w.heap.size, 1, none⟩) (by simp) _).setCell (p := ⟨w.heap.size, 2, none⟩) (by simp) _).setCell (p := ⟨w.heap.size, 3, none⟩) (by simp) _
end Go.Proofs.Ytcigobiolbojhaa.Vb

/- (*board).first from the first buyer on: the best choice. -/
namespace Go.Proofs.Ytcigobiolbojhaa.Vb
open Go.RowKit

def ints (l : List Int) : List Value := l.map (Value.int .i64)

set_option maxRecDepth 100000 in
set_option maxHeartbeats 3200000 in
theorem first_any (B bb m : Nat) (n : Int) (v : Value) (bs : List (List Off)) (f : Nat) (hf : f < 1024) (w : World) (hb : BoardAt w B bb m n v bs) :
    Calls Try.prog 122 #[.pointer (some ⟨bb, 0, none⟩), .int .i64 0, .int .u32 f] w fun e w' => ∃ A' cap', e = .returned (.agg #[.slice A' bs.length cap', .int .i64 (W bs f)]) ∧
      w'.ownsRow w.heap.size 3 1 (.slice A' bs.length cap') bs.length (ints (choose bs f)) ∧ BoardAt w' B bb m n v bs ∧ w.grownBy w' (some m) := by
  obtain ⟨vs, ⟨_, A, cap, rfl, hnc, hcm, hcs⟩, hvs⟩ := id hb.buys
  have hl32 : bs.length ≤ 32 := hb.ok.1
  have HB := Lib.hid hb
  have HCS := Lib.hid hcs
  have HVS := Lib.hid hvs
  have hml := hb.map.lt
  obtain ⟨c0, c1, c2, _, _, _, _⟩ := hb
  clear hcs hvs hcm
  go_enter Try.func122, Try.ntmps122
  go_wp2_with (go_at_call 126; refine (w_any B bb m n _ bs _ 0 f _ _ _ rfl rfl rfl (by omega) hf (HB.out.alloc _)).mono ?_; rintro e w1 ⟨rfl, hb1, hg1⟩; have d1 := cellAlloc hb1.c1; have hg1' := hg1.size; simp at hg1'; have HB1 := Lib.hid hb1; have HG1 := Lib.hid hg1; clear hb1 hg1)
  have hblk0 : Blk (w1.alloc (.cells #[.slice none 0 0, .int .i64 (W bs f)] 66)) w1.heap.size 66 #[.slice none 0 0, .int .i64 (W bs f)] := Blk.new _ _ _
  have hres0 : Blk (w1.alloc (.cells #[.slice none 0 0, .int .i64 (W bs f)] 66)) w.heap.size 66 #[.slice none 0 0, .int .i64 0] := ((Blk.new w _ _).grown HG1.out (fun e => by injection e with e; omega)).alloc _
  have hgr0 : w.grownBy (w1.alloc (.cells #[.slice none 0 0, .int .i64 (W bs f)] 66)) (some m) := ((World.grownBy_alloc w _ _).trans HG1.out).trans (World.grownBy_alloc w1 _ _)
  have hbd0 : BoardAt (w1.alloc (.cells #[.slice none 0 0, .int .i64 (W bs f)] 66)) B bb m n (.slice A bs.length cap) bs := HB1.out.alloc _
  clear d1
  go_loopw [2, 24] (fun fr i wr => ∃ (k fi : Nat) (cs : List Int) (A' : Option Addr) (cap' : Nat), k ≤ bs.length ∧ i = .int .i64 k ∧ fr = .int .u32 fi ∧ fi < 1024 ∧ choose bs f = cs ++ choose (bs.drop k) fi ∧
      BoardAt wr B bb m n (.slice A bs.length cap) bs ∧ w.grownBy wr (some m) ∧ Blk wr w.heap.size 66 #[.slice none 0 0, .int .i64 0] ∧ Blk wr w1.heap.size 66 #[.slice A' k cap', .int .i64 (W bs f)] ∧
      wr.ownsRow (w1.heap.size + 1) 3 1 (.slice A' k cap') k (ints cs))
    (fun _ i _ => bs.length - (intOf i).toNat)
  case atStart => exact ⟨0, f, [], none, 0, Nat.zero_le _, rfl, rfl, hf, rfl, hbd0, hgr0, hres0, hblk0, World.ownsRow_nil _ _ _ _⟩
  case round =>
    obtain ⟨wo, rfl⟩ : ∃ wo : World, wo = wr := ⟨_, rfl⟩
    obtain ⟨k, fi, cs, A', cap', hk, rfl, rfl, hfi, hch, hbr, hgr, hres, hblk, hown⟩ := hrel
    clear hblk0 hres0 hgr0 hbd0
    have HBR := Lib.hid hbr
    have HGR := Lib.hid hgr
    have HRES := Lib.hid hres
    have HBLK := Lib.hid hblk
    have HOWN := Lib.hid hown
    have HCH := Lib.hid hch
    have hwlt := hblk.lt
    by_cases hlt : k < bs.length
    · obtain ⟨bq, off, rfl, _, hbq, hcs⟩ := HCS.out (by omega)
      obtain ⟨l, hl⟩ : ∃ l, bs[k]? = some l := ⟨_, List.getElem?_eq_getElem hlt⟩
      obtain ⟨u, hu, hol⟩ := HVS.out k l hl
      have cl := hcs k u hu
      have HL := Lib.hid hl
      have hl8 : l.length ≤ 8 := hbr.ok.len hl
      obtain ⟨⟨_, A1, cap1, rfl, hnc1, _, hcs1⟩, _⟩ := hol
      have HC1 := Lib.hid hcs1
      have HCL := Lib.hid cl
      have hk0 : (0 : Int) ≤ (k : Int) := by omega
      clear hcs hu hl hcs1 cl hbr hgr hres hblk hown hch
      go_wp2_with (go_at_call 126; refine (w_any B bb m n _ bs _ k fi _ _ _ rfl rfl rfl (by omega) hfi HBR.out).mono ?_; rintro e w2 ⟨rfl, hb2, hg2⟩; have e1 := hb2.c1; have el := HB.out.keep (HGR.out.trans hg2) HCL.out; have hg2' := hg2.size; have HB2 := Lib.hid hb2; have HG2 := Lib.hid hg2; clear hb2 hg2)
      go_loopw [2, 9, 43] (fun fr nn i wr2 => ∃ j : Nat, j ≤ l.length ∧ i = .int .i64 j ∧ nn = .int .i64 (-1) ∧ fr = .int .u32 fi ∧ (∀ (i : Nat) (x : Off), i < j → l[i]? = some x → pickB (W (bs.drop (k + 1))) fi (W (bs.drop k) fi) x = false) ∧
          BoardAt wr2 B bb m n (.slice (some ⟨bq, off, none⟩) bs.length cap) bs ∧ wo.grownBy wr2 (some m))
        (fun _ _ i _ => l.length - (intOf i).toNat)
      case atStart => exact ⟨0, Nat.zero_le _, rfl, rfl, rfl, fun i x h => by omega, HB2.out, HG2.out⟩
      case round =>
        obtain ⟨j, hj, rfl, rfl, rfl, hno, hbt, hgt⟩ := hrel
        have HNO := Lib.hid hno
        have HBT := Lib.hid hbt
        have HGT := Lib.hid hgt
        by_cases hlj : j < l.length
        · obtain ⟨b1, off1, rfl, _, hb1, hcs1⟩ := HC1.out (by omega)
          obtain ⟨o, ho⟩ : ∃ o, l[j]? = some o := ⟨_, List.getElem?_eq_getElem hlj⟩
          have o0 : wr.cell? ⟨b1, off1 + j * 2, none⟩ = some (.int .u32 o.g) := HB.out.keep (HGR.out.trans hgt) (hcs1 _ _ (Off.all_fst l j o ho))
          have o1 : wr.cell? ⟨b1, off1 + j * 2 + 1, none⟩ = some (.int .i64 o.c) := HB.out.keep (HGR.out.trans hgt) (hcs1 _ _ (Off.all_snd l j o ho))
          obtain ⟨ho1, ho2, ho3, ho4⟩ := HB.out.ok.offer HL.out ho
          have hB0 := W_nonneg (bs.drop (k + 1)) (andNot fi o.g)
          have hB1 := HB.out.ok.W_le (k + 1) (andNot fi o.g)
          have hbits : bits .andNot .u32 (o.g : Int) (fi : Int) = ((andNot o.g fi : Nat) : Int) := u32_andNot_nat o.g fi (by omega) (by omega)
          have hbits2 : bits .andNot .u32 (fi : Int) (o.g : Int) = ((andNot fi o.g : Nat) : Int) := u32_andNot_nat fi o.g (by omega) (by omega)
          have hfo : andNot fi o.g < 1024 := Nat.lt_of_le_of_lt (andNot_le _ _) hfi
          have HO := Lib.hid ho
          clear hcs1 ho hno hbt hgt
          by_cases hfit : andNot o.g fi = 0
          · have hfb : (((andNot o.g fi : Nat) : Int) == 0) = true := by simp [hfit]
            have HFI := Lib.hid hfit
            have hsum : IntKind.i64.wrap (o.c + W (bs.drop (k + 1)) (andNot fi o.g)) = o.c + W (bs.drop (k + 1)) (andNot fi o.g) := IntWalk.i64_in _ (by omega)
            have hk1 : IntKind.i64.wrap ((k : Int) + 1) = (k : Int) + 1 := IntWalk.i64_in _ (by omega)
            clear hfit
            by_cases heq : o.c + W (bs.drop (k + 1)) (andNot fi o.g) = W (bs.drop k) fi
            · have hpb : pickB (W (bs.drop (k + 1))) fi (W (bs.drop k) fi) o = true := by simp [pickB, HFI.out, heq]
              have hpn := pickN_some HO.out hpb HNO.out
              have HPN := Lib.hid hpn
              have heb : (o.c + W (bs.drop (k + 1)) (andNot fi o.g) == W (bs.drop k) fi) = true := by simp [heq]
              clear heq hpn hpb
              go_wp2_with fail
              go_region_held3 (fun w' => w'.cell? ⟨wr.heap.size, 0, none⟩ = some (.int .u32 o.g) ∧ w'.cell? ⟨wr.heap.size, 1, none⟩ = some (.int .i64 o.c)) (go_keep)
                ((go_at_call 126; refine (w_any B bb m n _ bs _ (k + 1) (andNot fi o.g) _ _ _ (by omega) rfl rfl (by omega) hfo ((HBT.out.alloc _).drew)).mono ?_; rintro e w2 ⟨rfl, hb2, hg2⟩; have z0 : w2.cell? ⟨wr.heap.size, 0, none⟩ = some (.int .u32 o.g) := (HBT.out.alloc _).drew.keep hg2 (by simp); have z1 : w2.cell? ⟨wr.heap.size, 1, none⟩ = some (.int .i64 o.c) := (HBT.out.alloc _).drew.keep hg2 (by simp)))
              have HBT2 := Lib.hid hb2
              have HGT2 := Lib.hid (HGT.out.trans ((grownBy_of_below (((Below.refl _ _).alloc (Nat.le_refl _) _).drew) _ : wr.grownBy (wr.alloc (.cells #[.int .u32 o.g, .int .i64 o.c] 45)).drew (some m)).trans hg2))
              clear hb2 hg2 hsum hk1
              have hgt : wo.grownBy w2 (some m) := HGT2.out
              have hbk : Blk w2 w1.heap.size 66 #[.slice A' k cap', .int .i64 (W bs f)] := HBLK.out.grown hgt (fun e => by injection e with e; omega)
              have g0 : w2.cell? ⟨w1.heap.size, 0, none⟩ = some (.slice A' k cap') := hbk.cell 0
              have hot : w2.ownsRow (w1.heap.size + 1) 3 1 (.slice A' k cap') k (ints cs) := HOWN.out.kept hgt (by
                cases hv : (Value.slice A' k cap').ownBlock with
                | none => exact .inl rfl
                | some g => exact .inr fun e => by injection e with e; have := (HOWN.out.lt g hv).1; omega)
              have hlt' := hgt.size
              have HBK := Lib.hid hbk
              have HOT := Lib.hid hot
              clear hgt hbk hot
              have g0a := cellAlloc g0 (.cells #[.int .i64 (j : Nat)] 3)
              go_wp2_with (at_builtin; refine wpList_app _ rfl (.tmp 75) (.tmp 77) et_int rfl (w1.heap.size + 1) (.slice A' k cap') k (ints cs) rfl (HOT.out.alloc _) _ _ 1 _ rfl (Sl.new w2 #[.int .i64 (j : Nat)] _ 1 1 (by unfold maxLen; omega) rfl) (by simp [Value.oneCell']) (by omega) (by unfold maxLen; omega) (by simp; omega) ?_; intro A3 cap3 w3 hown3 hg3 hloc3; have hb3 : Blk w3 w1.heap.size 66 #[.slice A' k cap', .int .i64 (W bs f)] := (HBK.out.alloc _).grown hg3 (fun e => by have := (HOT.out.lt _ e.symm).1; omega); have k0 : w3.cell? ⟨w1.heap.size, 0, none⟩ = some (.slice A' k cap') := hb3.cell 0; have k1 := hb3.frozen 0; have HB3 := Lib.hid hb3; have HG3 := Lib.hid hg3; have HO3 := Lib.hid hown3; clear hb3 hg3 hown3 hloc3)
              go_roundw
              case rel =>
                have hro : ∀ g, (Value.slice A' k cap').ownBlock = some g → w1.heap.size + 1 ≤ g := fun g e => (HOT.out.lt g e).1
                have hbl := World.block_lt_of_cell? w _ HB.out.c0
                simp only at hbl
                refine ⟨k + 1, andNot fi o.g, cs ++ [((j : Nat) : Int)], A3, cap3, by omega, by go_num, rfl, hfo, ?_, ?_, ?_, ?_, ?_, ?_⟩
                · rw [HCH.out, choose_drop HL.out fi, HPN.out]
                  simp
                · exact ((HBT2.out.alloc _).far HG3.out (fun g e => by have := hro g e; omega)).far (grownBy_setCell _ ⟨w1.heap.size, 0, none⟩ _) (fun g e => by simp at e; omega)
                · exact grownBy_far (grownBy_far ((HGR.out.trans HGT2.out).trans (World.grownBy_alloc _ _ _)) HG3.out (fun g e => by have := hro g e; omega)) (grownBy_setCell _ ⟨w1.heap.size, 0, none⟩ _) (fun g e => by simp at e; omega)
                · exact ((((HRES.out.grown HGT2.out (fun e => by injection e with e; omega)).alloc _).grown HG3.out (fun e => by have := hro _ e.symm; omega)).far (p := ⟨w1.heap.size, 0, none⟩) (by simp; omega) _)
                · exact HB3.out.set_ 0 _
                · have := ownsRow_setCell_below HO3.out (a := ⟨w1.heap.size, 0, none⟩) (by simp) (.slice A3 (k + 1) cap3)
                  simpa [ints] using this
              case measure => simp [intOf]; omega
            · have hpb : pickB (W (bs.drop (k + 1))) fi (W (bs.drop k) fi) o = false := by simp [pickB, heq]
              have HPB := Lib.hid hpb
              have heb : (o.c + W (bs.drop (k + 1)) (andNot fi o.g) == W (bs.drop k) fi) = false := by simp [heq]
              clear heq hpb
              go_wp2_with fail
              go_region_held3 (fun w' => w'.cell? ⟨wr.heap.size, 0, none⟩ = some (.int .u32 o.g) ∧ w'.cell? ⟨wr.heap.size, 1, none⟩ = some (.int .i64 o.c)) (go_keep)
                ((go_at_call 126; refine (w_any B bb m n _ bs _ (k + 1) (andNot fi o.g) _ _ _ (by omega) rfl rfl (by omega) hfo ((HBT.out.alloc _).drew)).mono ?_; rintro e w2 ⟨rfl, hb2, hg2⟩; have z0 : w2.cell? ⟨wr.heap.size, 0, none⟩ = some (.int .u32 o.g) := (HBT.out.alloc _).drew.keep hg2 (by simp); have z1 : w2.cell? ⟨wr.heap.size, 1, none⟩ = some (.int .i64 o.c) := (HBT.out.alloc _).drew.keep hg2 (by simp)))
              have HBT2 := Lib.hid hb2
              have HGT2 := Lib.hid (HGT.out.trans ((grownBy_of_below (((Below.refl _ _).alloc (Nat.le_refl _) _).drew) _ : wr.grownBy (wr.alloc (.cells #[.int .u32 o.g, .int .i64 o.c] 45)).drew (some m)).trans hg2))
              clear hb2 hg2 hsum hk1
              go_wp2_with fail
              go_roundw
              case rel =>
                refine ⟨j + 1, by omega, by go_num, rfl, rfl, fun i x hi hx => ?_, HBT2.out, HGT2.out⟩
                by_cases hij : i < j
                · exact HNO.out i x hij hx
                · obtain rfl : i = j := by omega
                  rw [HO.out] at hx
                  cases hx
                  exact HPB.out
              case measure => simp [intOf]; omega
          · have hfb : (((andNot o.g fi : Nat) : Int) == 0) = false := by simp [hfit]
            have hpb : pickB (W (bs.drop (k + 1))) fi (W (bs.drop k) fi) o = false := by simp [pickB, hfit]
            have HPB := Lib.hid hpb
            clear hfit hpb
            go_wp2_with fail
            go_quiet (fail)
            go_wp2_with fail
            go_roundw
            case rel =>
              refine ⟨j + 1, by omega, by go_num, rfl, rfl, fun i x hi hx => ?_, (HBT.out.alloc _).drewN nq, HGT.out.trans (grownBy_of_below (below_drewN ((Below.refl _ _).alloc (Nat.le_refl _) _) nq) _)⟩
              by_cases hij : i < j
              · exact HNO.out i x hij hx
              · obtain rfl : i = j := by omega
                rw [HO.out] at hx
                cases hx
                exact HPB.out
            case measure => simp [intOf]; omega
        · obtain rfl : j = l.length := by omega
          have hpn : pickN (W (bs.drop (k + 1))) fi (W (bs.drop k) fi) l = (-1, fi) := pickN_none hno
          have HPN := Lib.hid hpn
          clear hno hbt hgt hpn
          have hgt : wo.grownBy wr (some m) := HGT.out
          have hbk : Blk wr w1.heap.size 66 #[.slice A' k cap', .int .i64 (W bs f)] := HBLK.out.grown hgt (fun e => by injection e with e; omega)
          have g0 : wr.cell? ⟨w1.heap.size, 0, none⟩ = some (.slice A' k cap') := hbk.cell 0
          have hot : wr.ownsRow (w1.heap.size + 1) 3 1 (.slice A' k cap') k (ints cs) := HOWN.out.kept hgt (by
            cases hv : (Value.slice A' k cap').ownBlock with
            | none => exact .inl rfl
            | some g => exact .inr fun e => by injection e with e; have := (HOWN.out.lt g hv).1; omega)
          have hlt' := hgt.size
          have HBK := Lib.hid hbk
          have HOT := Lib.hid hot
          clear hgt hbk hot
          have g0a := cellAlloc g0 (.cells #[.int .i64 (-1)] 3)
          go_wp2_with (at_builtin; refine wpList_app _ rfl (.tmp 75) (.tmp 77) et_int rfl (w1.heap.size + 1) (.slice A' k cap') k (ints cs) rfl (HOT.out.alloc _) _ _ 1 _ rfl (Sl.new wr #[.int .i64 (-1)] _ 1 1 (by unfold maxLen; omega) rfl) (by simp [Value.oneCell']) (by omega) (by unfold maxLen; omega) (by simp; omega) ?_; intro A3 cap3 w3 hown3 hg3 hloc3; have hb3 : Blk w3 w1.heap.size 66 #[.slice A' k cap', .int .i64 (W bs f)] := (HBK.out.alloc _).grown hg3 (fun e => by have := (HOT.out.lt _ e.symm).1; omega); have k0 : w3.cell? ⟨w1.heap.size, 0, none⟩ = some (.slice A' k cap') := hb3.cell 0; have k1 := hb3.frozen 0; have HB3 := Lib.hid hb3; have HG3 := Lib.hid hg3; have HO3 := Lib.hid hown3; clear hb3 hg3 hown3 hloc3)
          go_roundw
          case rel =>
            have hro : ∀ g, (Value.slice A' k cap').ownBlock = some g → w1.heap.size + 1 ≤ g := fun g e => (HOT.out.lt g e).1
            have hbl := World.block_lt_of_cell? w _ HB.out.c0
            simp only at hbl
            refine ⟨k + 1, fi, cs ++ [(-1)], A3, cap3, by omega, by go_num, rfl, hfi, ?_, ?_, ?_, ?_, ?_, ?_⟩
            · rw [HCH.out, choose_drop HL.out fi, HPN.out]
              simp
            · exact ((HBT.out.alloc _).far HG3.out (fun g e => by have := hro g e; omega)).far (grownBy_setCell _ ⟨w1.heap.size, 0, none⟩ _) (fun g e => by simp at e; omega)
            · exact grownBy_far (grownBy_far ((HGR.out.trans HGT.out).trans (World.grownBy_alloc _ _ _)) HG3.out (fun g e => by have := hro g e; omega)) (grownBy_setCell _ ⟨w1.heap.size, 0, none⟩ _) (fun g e => by simp at e; omega)
            · exact ((((HRES.out.grown HGT.out (fun e => by injection e with e; omega)).alloc _).grown HG3.out (fun e => by have := hro _ e.symm; omega)).far (p := ⟨w1.heap.size, 0, none⟩) (by simp; omega) _)
            · exact HB3.out.set_ 0 _
            · have := ownsRow_setCell_below HO3.out (a := ⟨w1.heap.size, 0, none⟩) (by simp) (.slice A3 (k + 1) cap3)
              simpa [ints] using this
          case measure => simp [intOf]; omega
    · obtain rfl : k = bs.length := by omega
      have hcs : choose bs f = cs := by rw [hch]; simp [choose]
      have y0 := hres.cell 0
      have y1 := hres.cell 1
      have y2 := hres.frozen
      have x0 : wo.cell? ⟨w1.heap.size, 0, none⟩ = some (.slice A' bs.length cap') := hblk.cell 0
      have x1 : wo.cell? ⟨w1.heap.size, 1, none⟩ = some (.int .i64 (W bs f)) := hblk.cell 1
      simp at y0 y1
      clear hbr hgr hres hblk hown hch
      have hbl := World.block_lt_of_cell? w _ HB.out.c0
      simp only at hbl
      have HCS := Lib.hid hcs
      clear hcs
      go_wp2_with fail
      refine bodyPost_ret (v := .agg #[.slice A' bs.length cap', .int .i64 (W bs f)]) (by simp [results, Try.results122, go_sem, y0, y1]) rfl ⟨A', cap', rfl, ?_, ?_, ?_⟩
      · rw [HCS.out]
        exact own_mono (ownsRow_setCell_below (ownsRow_setCell_below HOWN.out (a := ⟨w.heap.size, 0, none⟩) (by simp; omega) _) (a := ⟨w.heap.size, 1, none⟩) (by simp; omega) _) (by omega)
      · exact (HBR.out.far (grownBy_setCell _ ⟨w.heap.size, 0, none⟩ _) (fun g e => by simp at e; omega)).far (grownBy_setCell _ ⟨w.heap.size, 1, none⟩ _) (fun g e => by simp at e; omega)
      · exact grownBy_far (grownBy_far HGR.out (grownBy_setCell _ ⟨w.heap.size, 0, none⟩ _) (fun g e => by simp at e; omega)) (grownBy_setCell _ ⟨w.heap.size, 1, none⟩ _) (fun g e => by simp at e; omega)
end Go.Proofs.Ytcigobiolbojhaa.Vb

/- clear.Part, clear.Best, clear.Without. -/
namespace Go.Proofs.Ytcigobiolbojhaa.Vb
open Go.RowKit

/-- the best choice of an instance -/
def bestC (n : Int) (bs : List (List Off)) : List Int := choose bs (allOf n)

set_option maxHeartbeats 800000 in
theorem part_ok (n : Int) (bs : List (List Off)) (v : Value) (R : Nat → Prop) (w : World) (hl : Buys w R v bs) (hi : instE n bs = 0) :
    Calls Try.prog 87 #[.agg #[.int .i64 n, v], .int .i64 0, .int .u32 (allOf n : Nat)] w fun e w' => ∃ A' cap', e = .returned (.tuple #[.agg #[.slice A' bs.length cap', .int .i64 (W bs (allOf n))], .int .i64 0]) ∧
      w'.ownsRow w.heap.size 3 1 (.slice A' bs.length cap') bs.length (ints (bestC n bs)) ∧ Below w.heap.size w w' := by
  obtain ⟨vs, ⟨_, A, cap, rfl, _⟩, _⟩ := id hl
  have HB := Lib.hid hl
  have hwf := Lib.hid (buys_wf hl)
  clear hl
  have h10 := allOf_1024 (instE_zero hi).2.1
  have hok := Lib.hid (okb_of hwf.out hi).1
  have HI := Lib.hid hi
  clear hi
  go_enter Try.func87, Try.ntmps87
  go_wp2_with (first
    | (go_at_call 120; refine (may_any n bs _ R _ ((HB.out.alloc _).alloc _)).mono ?_; rintro e w1 ⟨rfl, hb1⟩; rw [HI.out]; have hb1a := hb1.mono (B' := w.heap.size + 2) (by simp); obtain ⟨c0, c1, y0, y1, fx, fy, hs1, hbw⟩ := two_new hb1a; have HB1 := Lib.hid hb1a; have HBW := Lib.hid hbw; clear hbw hb1 hb1a)
    | (go_at_call 121; refine (of_any n bs _ R _ (HB.out.grow HBW.out) hok.out).mono ?_; rintro e w2 ⟨bb, m, rfl, hbd, hm, hb2⟩; have HBD := Lib.hid hbd; have HM := Lib.hid hm; have HB2 := Lib.hid hb2; clear hbd hm hb2)
    | (go_at_call 122; refine (first_any _ bb m n _ bs (allOf n) h10 _ HBD.out).mono ?_; rintro e w3 ⟨A3, cap3, rfl, hown3, hb3, hg3⟩; have hb4 := (HB1.out.trans (HB2.out.mono hs1)).grown hg3 (by have := HB2.out.size; omega) (fun k e => by injection e with e; have := HM.out; omega); obtain ⟨d0, d1, z0, z1, gx, gy, hs3, hbw3⟩ := two_new hb4; have HO3 := Lib.hid hown3; have HBW3 := Lib.hid hbw3; have hs23 := HB2.out.size; clear hown3 hb3 hg3 hb4 hbw3))
  refine bodyPost_ret (v := .tuple #[.agg #[.slice A3 bs.length cap3, .int .i64 (W bs (allOf n))], .int .i64 0]) (by simp [results, Try.results87, go_sem, z0, z1]) rfl ⟨A3, cap3, rfl, ?_, ?_⟩
  · exact own_mono (ownsRow_setCell_below (ownsRow_setCell_below HO3.out (a := ⟨w.heap.size + 1, 0, none⟩) (by simp; omega) _) (a := ⟨w.heap.size + 1, 1, none⟩) (by simp; omega) _) (by omega)
  · exact (HBW3.out.setCell (p := ⟨w.heap.size + 1, 0, none⟩) (by simp) _).setCell (p := ⟨w.heap.size + 1, 1, none⟩) (by simp) _

set_option maxHeartbeats 800000 in
theorem best_ok (n : Int) (bs : List (List Off)) (v : Value) (R : Nat → Prop) (w : World) (hl : Buys w R v bs) (hi : instE n bs = 0) :
    Calls Try.prog 31 #[.agg #[.int .i64 n, v]] w fun e w' => ∃ A' cap', e = .returned (.tuple #[.agg #[.slice A' bs.length cap', .int .i64 (W bs (allOf n))], .int .i64 0]) ∧
      w'.ownsRow w.heap.size 3 1 (.slice A' bs.length cap') bs.length (ints (bestC n bs)) ∧ Below w.heap.size w w' := by
  obtain ⟨vs, ⟨_, A, cap, rfl, _⟩, _⟩ := id hl
  have HB := Lib.hid hl
  have HI := Lib.hid hi
  clear hl hi
  go_enter Try.func31, Try.ntmps31
  go_wp2_with fail
  have hw0 : ∃ W0, W0 = (w.alloc (.cells #[.int .i64 n, .slice A bs.length cap] 24)).alloc (.cells #[.slice none 0 0, .int .i64 0] 66) := ⟨_, rfl⟩
  obtain ⟨W0, hW0⟩ := hw0
  obtain ⟨c0, c1, y0, y1, fx, fy, hs0, hbw⟩ := two_new (w1 := W0) (by rw [hW0]; exact Below.refl _ _)
  have HB0 := Lib.hid (show Buys W0 R _ _ from by rw [hW0]; exact (HB.out.alloc _).alloc _)
  have HBW := Lib.hid hbw
  rw [← hW0]
  clear hbw hW0
  go_region_held3 (fun w' => w'.cell? ⟨w.heap.size, 0, none⟩ = some (.int .i64 n) ∧ w'.cell? ⟨w.heap.size, 1, none⟩ = some (.slice A bs.length cap)) (go_keep)
    (first
      | (go_at_call 88; refine (whole_any n _ _ _ _).mono ?_; rintro e w1 ⟨rfl, hb1⟩; have e0 := (hb1.cell (p := ⟨w.heap.size, 0, none⟩) (by simp; omega)).trans c0; have e1 := (hb1.cell (p := ⟨w.heap.size, 1, none⟩) (by simp; omega)).trans c1; have e2 := (hb1.cell (p := ⟨w.heap.size + 1, 0, none⟩) (by simp; omega)).trans y0; have e3 := (hb1.cell (p := ⟨w.heap.size + 1, 1, none⟩) (by simp; omega)).trans y1; have e4 : ∀ i, w1.frozen? ⟨w.heap.size + 1, i, none⟩ = false := fun i => (hb1.frozen (p := ⟨w.heap.size + 1, i, none⟩) (by simp; omega)).trans (fy i); have hs1 := hb1.size; simp at hs1; have HB1 := Lib.hid hb1; clear hb1)
      | (go_at_call 87; refine (part_ok n bs _ R _ (HB0.out.drew.grow HB1.out) HI.out).mono ?_; rintro e w2 ⟨A2, cap2, rfl, hown2, hb2⟩; have z0 := (hb2.cell (p := ⟨w.heap.size, 0, none⟩) (by simp; omega)).trans e0; have z1 := (hb2.cell (p := ⟨w.heap.size, 1, none⟩) (by simp; omega)).trans e1; have z2 := (hb2.cell (p := ⟨w.heap.size + 1, 0, none⟩) (by simp; omega)).trans e2; have z3 := (hb2.cell (p := ⟨w.heap.size + 1, 1, none⟩) (by simp; omega)).trans e3; have z4 : ∀ i, w2.frozen? ⟨w.heap.size + 1, i, none⟩ = false := fun i => (hb2.frozen (p := ⟨w.heap.size + 1, i, none⟩) (by simp; omega)).trans (e4 i); have HB2 := Lib.hid hb2; have HO2 := Lib.hid hown2; clear hb2 hown2))
  go_wp2_with fail
  refine bodyPost_ret (v := .tuple #[.agg #[.slice A2 bs.length cap2, .int .i64 (W bs (allOf n))], .int .i64 0]) (by simp [results, Try.results31, go_sem, z2, z3]) rfl ⟨A2, cap2, rfl, ?_, ?_⟩
  · exact own_mono (ownsRow_setCell_below (ownsRow_setCell_below HO2.out (a := ⟨w.heap.size + 1, 0, none⟩) (by simp; omega) _) (a := ⟨w.heap.size + 1, 1, none⟩) (by simp; omega) _) (by omega)
  · exact (((HBW.out.drew.trans (HB1.out.mono (by simp; omega))).trans (HB2.out.mono (by omega))).setCell (p := ⟨w.heap.size + 1, 0, none⟩) (by simp) _).setCell (p := ⟨w.heap.size + 1, 1, none⟩) (by simp) _

end Go.Proofs.Ytcigobiolbojhaa.Vb

/- vcg.Without; what is lost without a buyer. -/
namespace Go.Proofs.Ytcigobiolbojhaa.Vb
open Go.RowKit

theorem checkE_nil {n : Int} (h : 1 ≤ n ∧ n ≤ 10) : checkE n [] = 0 := by
  unfold checkE
  rw [if_neg (by omega), if_neg (by simp)]
  rfl
theorem instE_of {n : Int} {bs : List (List Off)} (h1 : 1 ≤ n) (h2 : n ≤ 10) (h3 : bs.length ≤ 32) (h4 : ∀ l ∈ bs, l.length ≤ 8) (h5 : ∀ l ∈ bs, checkE n l = 0) : instE n bs = 0 := by
  unfold instE
  rw [if_neg (by omega), if_neg, instLoop_none n bs h5]
  rintro (h | h)
  · omega
  · obtain ⟨l, hl, hb⟩ := List.any_eq_true.1 h
    have := h4 l hl
    simp [longB] at hb
    omega
theorem instE_set {n : Int} {bs : List (List Off)} {l : List Off} {i : Nat} (h : instE n bs = 0) (hl : l.length ≤ 8) (hc : checkE n l = 0) : instE n (bs.set i l) = 0 := by
  obtain ⟨h1, h2, h3, h4, h5⟩ := instE_zero h
  refine instE_of h1 h2 (by simpa using h3) (fun x hx => ?_) (fun x hx => ?_)
  · rcases List.mem_or_eq_of_mem_set hx with h | rfl
    · exact h4 x h
    · exact hl
  · rcases List.mem_or_eq_of_mem_set hx with h | rfl
    · exact h5 x h
    · exact hc
theorem instE_nil {n : Int} {bs : List (List Off)} {i : Nat} (h : instE n bs = 0) : instE n (bs.set i []) = 0 :=
  instE_set h (by simp) (checkE_nil ⟨(instE_zero h).1, (instE_zero h).2.1⟩)
theorem withE_nil {n : Int} {bs : List (List Off)} {i : Int} (h : instE n bs = 0) (h0 : 0 ≤ i) (h1 : i < bs.length) : withE n bs i [] = 0 := by
  unfold withE
  rw [if_neg (by simpa using h), if_neg (by omega)]
  exact checkE_nil ⟨(instE_zero h).1, (instE_zero h).2.1⟩
theorem withE_inst {n : Int} {bs : List (List Off)} {i : Int} {l : List Off} (h : withE n bs i l = 0) : instE n bs = 0 := by
  by_cases hi : instE n bs = 0
  · exact hi
  · unfold withE at h; rw [if_pos hi] at h; exact absurd h hi

/-- W without a buyer; 0 beside an error -/
def woW (n : Int) (bs : List (List Off)) (i : Int) : Int := if withE n bs i [] = 0 then W (bs.set i.toNat []) (allOf n) else 0

set_option maxHeartbeats 800000 in
theorem vcgWithout_any (n : Int) (bs : List (List Off)) (buyer : Int) (v : Value) (R : Nat → Prop) (w : World) (hl : Buys w R v bs) :
    Calls Try.prog 24 #[.agg #[.int .i64 n, v], .int .i64 buyer] w fun e w' => e = .returned (.tuple #[.int .i64 (woW n bs buyer), .int .i64 (withE n bs buyer [])]) ∧ Below w.heap.size w w' := by
  obtain ⟨vs, ⟨_, A, cap, rfl, _⟩, _⟩ := id hl
  have HB := Lib.hid hl
  clear hl
  by_cases he : withE n bs buyer [] = 0
  · have hW : woW n bs buyer = W (bs.set buyer.toNat []) (allOf n) := by unfold woW; rw [if_pos he]
    have hI := instE_nil (i := buyer.toNat) (withE_inst he)
    have hbw : bestW n (bs.set buyer.toNat []) = W (bs.set buyer.toNat []) (allOf n) := by unfold bestW; rw [if_pos hI]
    have HW := Lib.hid hW
    have HE := Lib.hid he
    have HI := Lib.hid hI
    have HBW := Lib.hid hbw
    clear hW he hI hbw
    go_enter Try.func24, Try.ntmps24
    go_wp2_with (first
      | (go_at_call 32; refine (without_ok n bs buyer _ R _ (HB.out.alloc _) HE.out).mono ?_; rintro e w1 ⟨A1, cap1, rfl, hob, hb1⟩; have HOB := Lib.hid hob; have HB1 := Lib.hid (hb1.mono (B' := w.heap.size + 1) (by simp)); clear hob hb1)
      | (go_at_call 33; refine (W_any n (bs.set buyer.toNat []) (.slice A1 bs.length cap1) _ _ ((HOB.out.alloc _).buys)).mono ?_; rintro e w2 ⟨rfl, hb2⟩; rw [HBW.out, HI.out]; have HB2 := Lib.hid hb2; clear hb2))
    go_ret2
    refine ⟨by rw [HW.out, HE.out]; rfl, ?_⟩
    have h1 := (one_new HB1.out).2.2.2.2
    exact (h1.alloc h1.size _).trans (HB2.out.mono (by have := h1.size; simp; omega))
  · have hW : woW n bs buyer = 0 := by unfold woW; rw [if_neg he]
    have hcb : (withE n bs buyer [] != 0) = true := by simpa using he
    have HW := Lib.hid hW
    have HE := Lib.hid he
    clear hW he
    go_enter Try.func24, Try.ntmps24
    go_wp2_with (go_at_call 32; refine (without_err n bs buyer _ R _ (HB.out.alloc _) HE.out).mono ?_; rintro e w1 ⟨rfl, hb1⟩; have HB1 := Lib.hid (hb1.mono (B' := w.heap.size + 1) (by simp)); clear hb1)
    go_ret2
    refine ⟨by rw [HW.out]; rfl, ?_⟩
    have h1 := (one_new HB1.out).2.2.2.2
    exact h1.alloc h1.size _

/-- what is known of W without a buyer -/
def KnownL (n : Int) (bs : List (List Off)) (key val : Value) : Prop := ∃ i : Nat, i < bs.length ∧ bs.length ≤ 32 ∧ key = .int .i64 i ∧ val = .int .i64 (woW n bs i)
def buyerKeys : List Value := (List.range 32).map fun i => .int .i64 (i : Nat)
theorem buyerKeys_length : buyerKeys.length < maxLen := by
  have : buyerKeys.length = 32 := by simp [buyerKeys]
  rw [this]
  decide
theorem knownL_in (n : Int) (bs : List (List Off)) : ∀ k v, KnownL n bs k v → k ∈ buyerKeys := by
  rintro key val ⟨i, hi, hl, rfl, _⟩
  exact List.mem_map.2 ⟨i, List.mem_range.2 (by omega), rfl⟩
theorem intKeyed : Maps.Keyed Try.prog 3 := Maps.int_keyed Try.underlying3

structure LostAt (w : World) (B b5 b1 b2 mm : Nat) (n : Int) (v : Value) (bs : List (List Off)) : Prop where
  c5 : w.cell? ⟨b5, 0, none⟩ = some (.map (some mm))
  x0 : w.cell? ⟨b1, 0, none⟩ = some (.int .i64 n)
  x1 : w.cell? ⟨b1, 1, none⟩ = some v
  w1 : w.cell? ⟨b2, 1, none⟩ = some (.int .i64 (W bs (allOf n)))
  buys : Buys w (· < B) v bs
  hB : B ≤ mm
  map : MapG Try.prog 3 2 w mm (KnownL n bs)
  ok : instE n bs = 0
section
variable {w w' : World} {B b5 b1 b2 mm : Nat} {n : Int} {v : Value} {bs : List (List Off)}
theorem LostAt.keep (h : LostAt w B b5 b1 b2 mm n v bs) (hg : w.grownBy w' (some mm)) {p : Addr} {u : Value} (hc : w.cell? p = some u) : w'.cell? p = some u := hg.cell hc (fun e => h.map.not_cells hc (by injection e))
theorem LostAt.grown (h : LostAt w B b5 b1 b2 mm n v bs) (hg : w.grownBy w' (some mm)) (hm : MapG Try.prog 3 2 w' mm (KnownL n bs)) : LostAt w' B b5 b1 b2 mm n v bs :=
  ⟨h.keep hg h.c5, h.keep hg h.x0, h.keep hg h.x1, h.keep hg h.w1, h.buys.grown hg (fun b _ hb e => by injection e with e; have := h.hB; omega), h.hB, hm, h.ok⟩
theorem LostAt.grow (h : LostAt w B b5 b1 b2 mm n v bs) (hb : Below w.heap.size w w') : LostAt w' B b5 b1 b2 mm n v bs := h.grown (grownBy_of_below hb _) (h.map.grow hb)
theorem LostAt.alloc (h : LostAt w B b5 b1 b2 mm n v bs) (o : Obj) : LostAt (w.alloc o) B b5 b1 b2 mm n v bs := h.grow ((Below.refl _ _).alloc (Nat.le_refl _) o)
theorem LostAt.drew (h : LostAt w B b5 b1 b2 mm n v bs) : LostAt w.drew B b5 b1 b2 mm n v bs := ⟨h.c5, h.x0, h.x1, h.w1, h.buys, h.hB, h.map, h.ok⟩
/-- a row beyond all of it is written -/
theorem LostAt.far {row : Option Nat} (h : LostAt w B b5 b1 b2 mm n v bs) (hg : w.grownBy w' row) (hr : ∀ g, row = some g → b5 < g ∧ b1 < g ∧ b2 < g ∧ mm < g) : LostAt w' B b5 b1 b2 mm n v bs :=
  ⟨hg.cell h.c5 (fun e => by have := hr _ e.symm; simp at this), hg.cell h.x0 (fun e => by have := hr _ e.symm; simp at this), hg.cell h.x1 (fun e => by have := hr _ e.symm; simp at this),
    hg.cell h.w1 (fun e => by have := hr _ e.symm; simp at this), h.buys.grown hg (fun b _ hb e => by have := hr b e.symm; have := h.hB; omega), h.hB, h.map.grown hg (fun e => by have := hr mm e.symm; omega), h.ok⟩
end

theorem woW_bd {n : Int} {bs : List (List Off)} (hw : ∀ l ∈ bs, ∀ o ∈ l, o.wf) (h : instE n bs = 0) (i : Int) : 0 ≤ woW n bs i ∧ woW n bs i ≤ 35184372088832 := by
  unfold woW
  split
  · have hok := (okb_of (bs := bs.set i.toNat []) (fun l hl o ho => by
      rcases List.mem_or_eq_of_mem_set hl with h | rfl
      · exact hw l h o ho
      · cases ho) (instE_nil h)).1
    exact ⟨W_nonneg _ _, by simpa using hok.W_le 0 (allOf n)⟩
  · omega

set_option maxHeartbeats 1600000 in
theorem each_any (B b5 b1 b2 mm : Nat) (n : Int) (v : Value) (bs : List (List Off)) (i : Nat) (hi : i < bs.length) (w : World) (h : LostAt w B b5 b1 b2 mm n v bs) :
    Calls Try.prog 118 #[.int .i64 i, .pointer (some ⟨b5, 0, none⟩), .pointer (some ⟨b1, 0, none⟩), .pointer (some ⟨b2, 0, none⟩)] w fun e w' => e = .returned (.int .i64 (W bs (allOf n) - woW n bs i)) ∧ LostAt w' B b5 b1 b2 mm n v bs ∧ w.grownBy w' (some mm) := by
  have hwf := buys_wf h.buys
  have hlen := (instE_zero h.ok).2.2.1
  obtain ⟨hw0, hw1⟩ := woW_bd hwf h.ok i
  have hW0 := W_nonneg bs (allOf n)
  have hW1 : W bs (allOf n) ≤ 35184372088832 := by simpa using (okb_of hwf h.ok).1.W_le 0 (allOf n)
  have hkey := Maps.keyOf_int_mk (P := Try.prog) Try.underlying3 (a := (i : Int)) (WalkArith.wf_i64 (by omega))
  obtain ⟨vs, ⟨_, A, cap, rfl, _⟩, _⟩ := id h.buys
  have H := Lib.hid h
  have HK := Lib.hid hkey
  have hwe := withE_nil (i := (i : Int)) h.ok (by omega) (by omega)
  have HWE := Lib.hid hwe
  have hlook := h.map.look intKeyed Try.underlying181 zero64 hkey true
  obtain ⟨c5, x0, x1, w1, _, _, _, _⟩ := h
  clear hwf hkey hwe
  rcases hlook with hrun | ⟨vv, hrun, hgood⟩
  · have hq := hrun w rfl
    clear hrun
    go_enter Try.func118, Try.ntmps118
    go_wp2_with (go_at_call 24; refine (vcgWithout_any n bs _ _ _ _ H.out.buys).mono ?_; rintro e w2 ⟨rfl, hb2⟩; rw [HWE.out]; have d5 := (H.out.grow hb2).c5; have d1 := (H.out.grow hb2).w1; obtain ⟨w5, hrun5, hm5, hg5⟩ := (H.out.grow hb2).map.store intKeyed Try.underlying181 Try.underlying2 (knownL_in n bs) buyerKeys_length HK.out (c := woW n bs i) (WalkArith.wf_i64 (by omega)) ⟨i, hi, hlen, rfl, rfl⟩; have e1 := (H.out.grow hb2).keep hg5 d1; have HB2 := Lib.hid hb2; have HM5 := Lib.hid hm5; have HG5 := Lib.hid hg5; clear hb2 hm5 hg5)
    go_ret
    exact ⟨by simp, (H.out.grow HB2.out).grown HG5.out HM5.out, (grownBy_of_below HB2.out _).trans HG5.out⟩
  · obtain ⟨i', _, _, hkk, rfl⟩ := hgood
    have hii : i' = i := by simp at hkk; omega
    subst hii
    have hq := hrun w rfl
    clear hrun hkk
    go_enter Try.func118, Try.ntmps118
    go_wp2
    go_ret
    exact ⟨by simp, H.out, grownBy_of_below (Below.refl _ _) _⟩
end Go.Proofs.Ytcigobiolbojhaa.Vb

/- vcg.lost; slices.Clone of payments; vcg.Costs. -/
namespace Go.Proofs.Ytcigobiolbojhaa.Vb
open Go.RowKit

theorem Sl.keep' {w w' : World} {B n sz : Nat} {v : Value} {xs : List Value} (h : Sl w (· < B) v n sz xs) (hb : Below B w w') : Sl w' (· < B) v n sz xs := h.below hb (fun _ _ hb => hb)
theorem Buys.keep' {w w' : World} {B : Nat} {v : Value} {bs : List (List Off)} (h : Buys w (· < B) v bs) (hb : Below B w w') : Buys w' (· < B) v bs := by
  obtain ⟨vs, hs, ho⟩ := h
  exact ⟨vs, hs.keep' hb, fun k l hk => let ⟨u, hu, hl⟩ := ho k l hk; ⟨u, hu, hl.1.keep' hb, hl.2⟩⟩
theorem two_blk {w w1 : World} {cs ds : Array Value} {t u : TypeId} (hb : Below (w.heap.size + 2) ((w.alloc (.cells cs t)).alloc (.cells ds u)) w1) : Blk w1 w.heap.size t cs ∧ Blk w1 (w.heap.size + 1) u ds :=
  ⟨((Blk.new w t cs).alloc _).below hb (by omega), by
    have := Blk.new (w.alloc (.cells cs t)) u ds
    rw [World.size_alloc] at this
    exact this.below hb (by omega)⟩
theorem one_blk {w w1 : World} {cs : Array Value} {t : TypeId} (hb : Below (w.heap.size + 1) (w.alloc (.cells cs t)) w1) : Blk w1 w.heap.size t cs := (Blk.new w t cs).below hb (by omega)

set_option maxHeartbeats 1600000 in
theorem lost_ok (n : Int) (bs : List (List Off)) (v : Value) (R : Nat → Prop) (w : World) (hl : Buys w R v bs) (hi : instE n bs = 0) :
    Calls Try.prog 84 #[.agg #[.int .i64 n, v]] w fun e w' => ∃ A' cap' b5 b1 b2 mm, e = .returned (.tuple #[.agg #[.slice A' bs.length cap', .int .i64 (W bs (allOf n))], .func (.func 118) #[] #[.pointer (some ⟨b5, 0, none⟩), .pointer (some ⟨b1, 0, none⟩), .pointer (some ⟨b2, 0, none⟩)], .int .i64 0]) ∧
      w'.ownsRow w.heap.size 3 1 (.slice A' bs.length cap') bs.length (ints (bestC n bs)) ∧ LostAt w' w.heap.size b5 b1 b2 mm n v bs ∧ w.heap.size ≤ mm ∧ Below w.heap.size w w' := by
  obtain ⟨vs, ⟨_, A, cap, rfl, _⟩, _⟩ := id hl
  have HB := Lib.hid hl
  have HI := Lib.hid hi
  have hmm := @run_makeMap Try.prog
  clear hl hi
  go_enter Try.func84, Try.ntmps84
  go_wp2_with (go_at_call 31; refine (best_ok n bs _ R _ ((HB.out.alloc _).alloc _) HI.out).mono ?_; rintro e w1 ⟨A1, cap1, rfl, hown1, hb1⟩; have hb1a := hb1.mono (B' := w.heap.size + 2) (by simp); obtain ⟨c0, c1, y0, y1, fx, fy, hs1, hbw⟩ := two_new hb1a; have hk := (((two_blk hb1a).2.set_ 0 (.slice A1 bs.length cap1)).set_ 1 (.int .i64 (W bs (allOf n)))); simp at hk; have q0 := fun o o' => (((hk.alloc o).alloc o').cell 0); have q1 := fun o o' => (((hk.alloc o).alloc o').cell 1); have q2 := fun o o' i => (((hk.alloc o).alloc o').frozen i); simp at q0 q1; have HK := Lib.hid hk; have HX := Lib.hid (two_blk hb1a).1; have HO1 := Lib.hid hown1; clear hk; have HB1 := Lib.hid hbw; clear hown1 hb1 hb1a hbw)
  refine bodyPost_ret (v := .tuple #[.agg #[.slice A1 bs.length cap1, .int .i64 (W bs (allOf n))], .func (.func 118) #[] #[.pointer (some ⟨w1.heap.size + 1, 0, none⟩), .pointer (some ⟨w.heap.size, 0, none⟩), .pointer (some ⟨w.heap.size + 1, 0, none⟩)], .int .i64 0]) (by simp [results, Try.results84, go_sem, q0, q1]) rfl ⟨A1, cap1, w1.heap.size + 1, w.heap.size, w.heap.size + 1, w1.heap.size, rfl, ?_, ?_, by omega, ?_⟩
  · have h2 := ((ownsRow_setCell_below (ownsRow_setCell_below HO1.out (a := ⟨w.heap.size + 1, 0, none⟩) (by simp) (.slice A1 bs.length cap1)) (a := ⟨w.heap.size + 1, 1, none⟩) (by simp) (.int .i64 (W bs (allOf n)))).alloc (.map #[] 0)).alloc (.cells #[.map (some w1.heap.size)] 181)
    exact own_mono (ownsRow_setCell_below (ownsRow_setCell_below h2 (a := ⟨w.heap.size + 1, 0, none⟩) (by simp) _) (a := ⟨w.heap.size + 1, 1, none⟩) (by simp) _) (by simp; omega)
  · have hs2 : ((w1.setCell ⟨w.heap.size + 1, 0, none⟩ (.slice A1 bs.length cap1)).setCell ⟨w.heap.size + 1, 1, none⟩ (.int .i64 (W bs (allOf n)))).heap.size = w1.heap.size := by simp [World.setCell]
    have hx := ((HX.out.far (p := ⟨w.heap.size + 1, 0, none⟩) (by simp) (.slice A1 bs.length cap1)).far (p := ⟨w.heap.size + 1, 1, none⟩) (by simp) (.int .i64 (W bs (allOf n))))
    have hm : MapG Try.prog 3 2 (((w1.setCell ⟨w.heap.size + 1, 0, none⟩ (.slice A1 bs.length cap1)).setCell ⟨w.heap.size + 1, 1, none⟩ (.int .i64 (W bs (allOf n)))).alloc (.map #[] 0)) w1.heap.size (KnownL n bs) := by
      have := MapG.made (P := Try.prog) (kt := 3) (et := 2) (Good := KnownL n bs) ((w1.setCell ⟨w.heap.size + 1, 0, none⟩ (.slice A1 bs.length cap1)).setCell ⟨w.heap.size + 1, 1, none⟩ (.int .i64 (W bs (allOf n))))
      rwa [hs2] at this
    have h5 := Blk.new (((w1.setCell ⟨w.heap.size + 1, 0, none⟩ (.slice A1 bs.length cap1)).setCell ⟨w.heap.size + 1, 1, none⟩ (.int .i64 (W bs (allOf n)))).alloc (.map #[] 0)) 181 #[.map (some w1.heap.size)]
    rw [World.size_alloc, hs2] at h5
    have hbuy := (buys_lt HB.out (Nat.le_refl _)).grow HB1.out
    have hbl : Below w.heap.size w1 ((((w1.setCell ⟨w.heap.size + 1, 0, none⟩ (.slice A1 bs.length cap1)).setCell ⟨w.heap.size + 1, 1, none⟩ (.int .i64 (W bs (allOf n)))).alloc (.map #[] 0)).alloc (.cells #[.map (some w1.heap.size)] 181)) :=
      ((((Below.refl _ _).setCell (p := ⟨w.heap.size + 1, 0, none⟩) (by simp) _).setCell (p := ⟨w.heap.size + 1, 1, none⟩) (by simp) _).alloc (by rw [hs2]; omega) _).alloc (by rw [World.size_alloc, hs2]; omega) _
    have hbf : Below w.heap.size w1 (((((((w1.setCell ⟨w.heap.size + 1, 0, none⟩ (.slice A1 bs.length cap1)).setCell ⟨w.heap.size + 1, 1, none⟩ (.int .i64 (W bs (allOf n)))).alloc (.map #[] 0)).alloc (.cells #[.map (some w1.heap.size)] 181)).setCell ⟨w.heap.size + 1, 0, none⟩ (.slice A1 bs.length cap1)).setCell ⟨w.heap.size + 1, 1, none⟩ (.int .i64 (W bs (allOf n))))) :=
      (hbl.setCell (p := ⟨w.heap.size + 1, 0, none⟩) (by simp) _).setCell (p := ⟨w.heap.size + 1, 1, none⟩) (by simp) _
    have hK := ((((HK.out.alloc (.map #[] 0)).alloc (.cells #[.map (some w1.heap.size)] 181)).set_ 0 (.slice A1 bs.length cap1)).set_ 1 (.int .i64 (W bs (allOf n))))
    have hX := (((hx.alloc (.map #[] 0)).alloc (.cells #[.map (some w1.heap.size)] 181)).far (p := ⟨w.heap.size + 1, 0, none⟩) (by simp) (.slice A1 bs.length cap1)).far (p := ⟨w.heap.size + 1, 1, none⟩) (by simp) (.int .i64 (W bs (allOf n)))
    have hM := ((hm.alloc (.cells #[.map (some w1.heap.size)] 181)).setCell (p := ⟨w.heap.size + 1, 0, none⟩) (by simp; omega) (.slice A1 bs.length cap1)).setCell (p := ⟨w.heap.size + 1, 1, none⟩) (by simp; omega) (.int .i64 (W bs (allOf n)))
    have h5' := (h5.far (p := ⟨w.heap.size + 1, 0, none⟩) (by simp; omega) (.slice A1 bs.length cap1)).far (p := ⟨w.heap.size + 1, 1, none⟩) (by simp; omega) (.int .i64 (W bs (allOf n)))
    exact ⟨h5'.cell 0, hX.cell 0, hX.cell 1, (hK.cell 1).trans (by simp), hbuy.keep' hbf, by omega, hM, HI.out⟩
  · have hs2 : ((w1.setCell ⟨w.heap.size + 1, 0, none⟩ (.slice A1 bs.length cap1)).setCell ⟨w.heap.size + 1, 1, none⟩ (.int .i64 (W bs (allOf n)))).heap.size = w1.heap.size := by simp [World.setCell]
    exact HB1.out.trans ((((((((Below.refl _ _).setCell (p := ⟨w.heap.size + 1, 0, none⟩) (by simp) _).setCell (p := ⟨w.heap.size + 1, 1, none⟩) (by simp) _).alloc (by rw [hs2]; omega) _).alloc (by rw [World.size_alloc, hs2]; omega) _).setCell (p := ⟨w.heap.size + 1, 0, none⟩) (by simp) _).setCell (p := ⟨w.heap.size + 1, 1, none⟩) (by simp) _))
end Go.Proofs.Ytcigobiolbojhaa.Vb

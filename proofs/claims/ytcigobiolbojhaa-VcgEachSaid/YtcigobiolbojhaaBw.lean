/- (*board).w: what is known of parts is right, and stays so. -/
import Derived.Test.YtcigobiolbojhaaSpec
import Derived.Test.YtcigobiolbojhaaPlace
namespace Go.Proofs.Ytcigobiolbojhaa.Vb
open Go.RowKit
open Go.Maps (Keyed)

/-- what is known of a part -/
def Known (bs : List (List Off)) (key val : Value) : Prop := ∃ k f : Nat, k ≤ 32 ∧ f < 1024 ∧ key = .agg #[.int .i64 k, .int .u32 f] ∧ val = .int .i64 (W (bs.drop k) f)
def allKeys : List Value := (List.range 33).flatMap fun k => (List.range 1024).map fun f => .agg #[.int .i64 (k : Nat), .int .u32 (f : Nat)]
theorem allKeys_length : allKeys.length < maxLen := by
  have : allKeys.length = 33792 := by
    simp only [allKeys, List.length_flatMap, List.length_map, List.length_range]
    decide
  rw [this]
  decide
theorem known_in (bs : List (List Off)) : ∀ k v, Known bs k v → k ∈ allKeys := by
  rintro key val ⟨k, f, hk, hf, rfl, _⟩
  exact List.mem_flatMap.2 ⟨k, List.mem_range.2 (by omega), List.mem_map.2 ⟨f, List.mem_range.2 hf, rfl⟩⟩
theorem zero64 (w : World) : (zeroValue 2).run Try.prog w = .ok (.int .i64 0) w := by kernel_rfl

structure BoardAt (w : World) (B bb m : Nat) (n : Int) (v : Value) (bs : List (List Off)) : Prop where
  c0 : w.cell? ⟨bb, 0, none⟩ = some (.int .i64 n)
  c1 : w.cell? ⟨bb, 1, none⟩ = some v
  c2 : w.cell? ⟨bb, 2, none⟩ = some (.map (some m))
  buys : Buys w (· < B) v bs
  hB : B ≤ m
  map : MapG Try.prog 218 2 w m (Known bs)
  ok : Okb bs

section
variable {w w' : World} {B bb m : Nat} {n : Int} {v : Value} {bs : List (List Off)}
theorem BoardAt.grown (h : BoardAt w B bb m n v bs) (hg : w.grownBy w' (some m)) (hm : MapG Try.prog 218 2 w' m (Known bs)) : BoardAt w' B bb m n v bs :=
  have hne : some bb ≠ some m := fun e => h.map.not_cells h.c0 (by injection e)
  ⟨hg.cell h.c0 hne, hg.cell h.c1 hne, hg.cell h.c2 hne, h.buys.grown hg (fun b _ hb e => by injection e with e; have := h.hB; omega), h.hB, hm, h.ok⟩
theorem BoardAt.keep (h : BoardAt w B bb m n v bs) (hg : w.grownBy w' (some m)) {p : Addr} {u : Value} (hc : w.cell? p = some u) : w'.cell? p = some u := hg.cell hc (fun e => h.map.not_cells hc (by injection e))
theorem BoardAt.grow (h : BoardAt w B bb m n v bs) (hb : Below w.heap.size w w') : BoardAt w' B bb m n v bs := h.grown (grownBy_of_below hb _) (h.map.grow hb)
theorem BoardAt.alloc (h : BoardAt w B bb m n v bs) (o : Obj) : BoardAt (w.alloc o) B bb m n v bs := h.grow ((Below.refl _ _).alloc (Nat.le_refl _) o)
theorem below_drewN {B : Nat} {a w : World} (h : Below B a w) (n : Nat) : Below B a (w.drewN n) := ⟨h.os, h.tape, h.output, h.size, h.block⟩
theorem BoardAt.drewN (h : BoardAt w B bb m n v bs) (k : Nat) : BoardAt (w.drewN k) B bb m n v bs := ⟨h.c0, h.c1, h.c2, h.buys, h.hB, h.map, h.ok⟩
theorem BoardAt.drew (h : BoardAt w B bb m n v bs) : BoardAt w.drew B bb m n v bs := ⟨h.c0, h.c1, h.c2, h.buys, h.hB, h.map, h.ok⟩
end

set_option maxRecDepth 100000 in
set_option maxHeartbeats 1600000 in
theorem w_any (B bb m : Nat) (n : Int) (v : Value) (bs : List (List Off)) : ∀ (r k f : Nat) (kI fI : Int) (w : World), kI = k → fI = f → bs.length - k = r → k ≤ bs.length → f < 1024 → BoardAt w B bb m n v bs →
    Calls Try.prog 126 #[.pointer (some ⟨bb, 0, none⟩), .int .i64 kI, .int .u32 fI] w fun e w' => e = .returned (.int .i64 (W (bs.drop k) f)) ∧ BoardAt w' B bb m n v bs ∧ w.grownBy w' (some m) := by
  intro r
  induction r with
  | zero =>
    intro k f kI fI w hkI hfI hr hk hf hb
    subst hkI hfI
    obtain rfl : k = bs.length := by omega
    have hW := W_end bs f
    obtain ⟨vs, ⟨_, A, cap, rfl, _⟩, _⟩ := id hb.buys
    have HB := Lib.hid hb
    obtain ⟨c0, c1, c2, _, _, _, _⟩ := hb
    have HW := Lib.hid hW
    clear hW
    go_enter Try.func126, Try.ntmps126
    go_wp2
    go_step3
    go_wp2
    (try rw [Exit.noGoto_ret])
    go_ret
    rw [HW.out]
    exact ⟨rfl, HB.out, grownBy_of_below (Below.refl _ _) _⟩
  | succ r ih =>
    intro k f kI fI w hkI hfI hr hk hf hb
    subst hkI hfI
    have hlt : k < bs.length := by omega
    have hr' : bs.length - (k + 1) = r := by omega
    have HR := Lib.hid hr'
    clear hr'
    have hl32 : bs.length ≤ 32 := hb.ok.1
    have hkb : ((k : Int) == (bs.length : Int)) = false := by simp; omega
    obtain ⟨vs, ⟨_, A, cap, rfl, hnc, _, hcs⟩, hvs⟩ := id hb.buys
    obtain ⟨bq, off, rfl, _, hbq, hcs⟩ := hcs (by omega)
    obtain ⟨l, hl⟩ : ∃ l, bs[k]? = some l := ⟨_, List.getElem?_eq_getElem hlt⟩
    obtain ⟨u, hu, hol⟩ := hvs k l hl
    have cl := hcs k u hu
    have HB := Lib.hid hb
    have HL := Lib.hid hl
    have HO := Lib.hid hol
    have IH := Lib.hid ih
    obtain ⟨⟨_, A1, cap1, rfl, hnc1, _, hcs1⟩, hwf1⟩ := hol
    have HC1 := Lib.hid hcs1
    have HWF := Lib.hid hwf1
    have hl8 : l.length ≤ 8 := hb.ok.len hl
    obtain ⟨c0, c1, c2, _, _, _, _⟩ := hb
    clear hcs hvs hu hl ih hr hcs1 hwf1
    by_cases hf0 : f = 0
    · have hf1 : ((f : Int) == 0) = true := by simp [hf0]
      have hW : W (bs.drop k) f = 0 := by rw [hf0]; exact W_zero _ (fun l hl => (HB.out.ok.2 l (List.mem_of_mem_drop hl)).2)
      have HW := Lib.hid hW
      clear hW hf0
      go_enter Try.func126, Try.ntmps126
      go_wp2
      go_step3
      go_wp2
      (try rw [Exit.noGoto_ret])
      go_ret
      rw [HW.out]
      exact ⟨rfl, HB.out, grownBy_of_below (Below.refl _ _) _⟩
    · have hf1 : ((f : Int) == 0) = false := by simpa using hf0
      obtain ⟨kl, hkl⟩ := placeKey k f (WalkArith.wf_i64 (by omega)) (WalkArith.wf_u32 (by omega))
      have HK := Lib.hid hkl
      have hca0 := cellAlloc c2 (.cells #[.int .i64 (k : Nat), .int .u32 (f : Nat)] 218)
      have hlook := (HB.out.map.alloc (.cells #[.int .i64 (k : Nat), .int .u32 (f : Nat)] 218)).look placeKeyed Try.underlying209 zero64 hkl true
      clear hkl
      rcases hlook with hrun | ⟨vv, hrun, hgood⟩
      · have hq : ∀ j, (Instr.lookup 209 (.map (some m)) (.agg #[.int .i64 (k : Nat), .int .u32 (f : Nat)]) true).run Try.prog ((w.alloc (.cells #[.int .i64 (k : Nat), .int .u32 (f : Nat)] 218)).drewN j) = .ok (.tuple #[.int .i64 0, .bool false]) ((w.alloc (.cells #[.int .i64 (k : Nat), .int .u32 (f : Nat)] 218)).drewN j) := fun j => hrun _ rfl
        clear hrun
        go_enter Try.func126, Try.ntmps126
        go_wp2_with fail
        go_step3
        go_wp2_with fail
        go_quiet (fail)
        have hB0 : BoardAt ((w.alloc (.cells #[.int .i64 (k : Nat), .int .u32 (f : Nat)] 218)).drewN nq) B bb m n _ bs := (HB.out.alloc _).drewN nq
        have hG0 : w.grownBy ((w.alloc (.cells #[.int .i64 (k : Nat), .int .u32 (f : Nat)] 218)).drewN nq) (some m) := grownBy_of_below (below_drewN ((Below.refl _ _).alloc (Nat.le_refl _) _) nq) _
        have hcq0 : ((w.alloc (.cells #[.int .i64 (k : Nat), .int .u32 (f : Nat)] 218)).drewN nq).cell? ⟨w.heap.size, 0, none⟩ = some (.int .i64 k) := by simp
        have hcq1 : ((w.alloc (.cells #[.int .i64 (k : Nat), .int .u32 (f : Nat)] 218)).drewN nq).cell? ⟨w.heap.size, 1, none⟩ = some (.int .u32 f) := by simp
        have hsz0 : ((w.alloc (.cells #[.int .i64 (k : Nat), .int .u32 (f : Nat)] 218)).drewN nq).heap.size = w.heap.size + 1 := by simp
        clear hq
        generalize ((w.alloc (.cells #[.int .i64 (k : Nat), .int .u32 (f : Nat)] 218)).drewN nq) = W0 at hB0 hG0 hcq0 hcq1 hsz0 ⊢
        have HB0 := Lib.hid hB0
        have HG0 := Lib.hid hG0
        have HS0 := Lib.hid hsz0
        clear hB0 hG0 hsz0
        go_wp2_with (go_at_call 126; refine (IH.out (k + 1) f _ _ _ (by omega) rfl HR.out (by omega) hf HB0.out).mono ?_; rintro e w1 ⟨rfl, hb1, hg1⟩)
        have hg01 := HG0.out.trans hg1
        have d0 := hb1.c0
        have d1 := hb1.c1
        have d2 := hb1.c2
        have dl := HB.out.keep hg01 cl
        have q0 := HB0.out.keep hg1 hcq0
        have q1 := HB0.out.keep hg1 hcq1
        have hsz1 : w.heap.size + 1 ≤ w1.heap.size := by have := hg1.size; have := HS0.out; omega
        have HB1 := Lib.hid hb1
        have HG1 := Lib.hid hg01
        clear hb1 hg1 hg01 hcq0 hcq1 c0 c1 c2 hca0
        go_step3
        go_wp2_with fail
        go_loopw [10, 53] (fun s i wr => ∃ j : Nat, j ≤ l.length ∧ i = .int .i64 j ∧ s = .int .i64 ((l.take j).foldl (stepO (W (bs.drop (k + 1))) f) (W (bs.drop (k + 1)) f)) ∧
            BoardAt wr B bb m n (.slice (some ⟨bq, off, none⟩) bs.length cap) bs ∧ w.grownBy wr (some m) ∧ wr.cell? ⟨w.heap.size, 0, none⟩ = some (.int .i64 k) ∧ wr.cell? ⟨w.heap.size, 1, none⟩ = some (.int .u32 f) ∧ w.heap.size < wr.heap.size)
          (fun _ i _ => l.length - (intOf i).toNat)
        case atStart => exact ⟨0, Nat.zero_le _, rfl, rfl, HB1.out, HG1.out, q0, q1, by omega⟩
        case round =>
          obtain ⟨j, hj, rfl, rfl, hbr, hgr, r0, r1, hsr⟩ := hrel
          have HBR := Lib.hid hbr
          have HGR := Lib.hid hgr
          by_cases hlj : j < l.length
          · obtain ⟨b1, off1, rfl, _, hb1, hcs1⟩ := HC1.out (by omega)
            obtain ⟨o, ho⟩ : ∃ o, l[j]? = some o := ⟨_, List.getElem?_eq_getElem hlj⟩
            have e0 := HB.out.keep hgr (hcs1 _ _ (Off.all_fst l j o ho))
            have e1 : wr.cell? ⟨b1, off1 + j * 2 + 1, none⟩ = some (.int .i64 o.c) := HB.out.keep hgr (hcs1 _ _ (Off.all_snd l j o ho))
            obtain ⟨ho1, ho2, ho3, ho4⟩ := HB.out.ok.offer HL.out ho
            have hB0 := W_nonneg (bs.drop (k + 1)) (andNot f o.g)
            have hB1 := HB.out.ok.W_le (k + 1) (andNot f o.g)
            have hsucc : (l.take (j + 1)).foldl (stepO (W (bs.drop (k + 1))) f) (W (bs.drop (k + 1)) f) = stepO (W (bs.drop (k + 1))) f ((l.take j).foldl (stepO (W (bs.drop (k + 1))) f) (W (bs.drop (k + 1)) f)) o := by
              rw [List.take_add_one, ho, List.foldl_append]
              rfl
            have hbits : bits .andNot .u32 (o.g : Int) (f : Int) = ((andNot o.g f : Nat) : Int) := u32_andNot_nat o.g f (by omega) (by omega)
            have hbits2 : bits .andNot .u32 (f : Int) (o.g : Int) = ((andNot f o.g : Nat) : Int) := u32_andNot_nat f o.g (by omega) (by omega)
            have hfo : andNot f o.g < 1024 := Nat.lt_of_le_of_lt (andNot_le _ _) hf
            have HSU := Lib.hid hsucc
            clear hcs1 hsucc hbr hgr ho
            generalize hbest : (l.take j).foldl (stepO (W (bs.drop (k + 1))) f) (W (bs.drop (k + 1)) f) = best at *
            have HBE := Lib.hid hbest
            clear hbest
            by_cases hfit : andNot o.g f = 0
            · have hfb : (((andNot o.g f : Nat) : Int) != 0) = false := by simp [hfit]
              have HFI := Lib.hid hfit
              have hsum : IntKind.i64.wrap (o.c + W (bs.drop (k + 1)) (andNot f o.g)) = o.c + W (bs.drop (k + 1)) (andNot f o.g) := IntWalk.i64_in _ (by omega)
              have hk1 : IntKind.i64.wrap ((k : Int) + 1) = (k : Int) + 1 := IntWalk.i64_in _ (by omega)
              have HS := Lib.hid hsum
              have HK1 := Lib.hid hk1
              clear hfit hsum hk1
              have hsum := HS.out
              have hk1 := HK1.out
              go_wp2_with fail
              go_region_held3 (fun w' => w'.cell? ⟨wr.heap.size, 0, none⟩ = some (.int .u32 o.g) ∧ w'.cell? ⟨wr.heap.size, 1, none⟩ = some (.int .i64 o.c)) (go_keep)
                ((go_at_call 126; refine (IH.out (k + 1) (andNot f o.g) _ _ _ (by omega) rfl HR.out (by omega) hfo ((HBR.out.alloc _).drew)).mono ?_; rintro e w2 ⟨rfl, hb2, hg2⟩; have z0 : w2.cell? ⟨wr.heap.size, 0, none⟩ = some (.int .u32 o.g) := (HBR.out.alloc _).drew.keep hg2 (by simp); have z1 : w2.cell? ⟨wr.heap.size, 1, none⟩ = some (.int .i64 o.c) := (HBR.out.alloc _).drew.keep hg2 (by simp)))
              have HB2 := Lib.hid hb2
              have HG2 := Lib.hid hg2
              clear hb2 hg2
              go_wp2_with fail
              go_roundw
              case rel =>
                have hg3 : wr.grownBy w2 (some m) := (grownBy_of_below (((Below.refl _ _).alloc (Nat.le_refl _) _).drew) _ : wr.grownBy (wr.alloc (.cells #[.int .u32 o.g, .int .i64 o.c] 45)).drew (some m)).trans HG2.out
                refine ⟨j + 1, by omega, by go_num, ?_, HB2.out, HGR.out.trans hg3, HBR.out.keep hg3 r0, HBR.out.keep hg3 r1, by have := hg3.size; omega⟩
                rw [HSU.out]
                unfold stepO
                rw [if_pos HFI.out]
                congr 1
                split <;> omega
              case measure => simp [intOf]; omega
            · have hfb : (((andNot o.g f : Nat) : Int) != 0) = true := by simp [hfit]
              have HFI := Lib.hid hfit
              clear hfit
              go_wp2_with fail
              go_roundw
              case rel =>
                have hg3 : wr.grownBy (wr.alloc (.cells #[.int .u32 o.g, .int .i64 o.c] 45)) (some m) := grownBy_of_below ((Below.refl _ _).alloc (Nat.le_refl _) _) _
                refine ⟨j + 1, by omega, by go_num, ?_, HBR.out.alloc _, HGR.out.trans hg3, cellAlloc r0 _, cellAlloc r1 _, by simp; omega⟩
                rw [HSU.out]
                unfold stepO
                rw [if_neg HFI.out]
              case measure => simp [intOf]; omega
          · obtain rfl : j = l.length := by omega
            rw [List.take_length, ← W_drop HL.out f]
            have s2 := hbr.c2
            have hw0 := W_nonneg (bs.drop k) f
            have hw1 := HB.out.ok.W_le k f
            obtain ⟨w5, hrun5, hm5, hg5⟩ := hbr.map.drew.store placeKeyed Try.underlying209 Try.underlying2 (known_in bs) allKeys_length HK.out (c := W (bs.drop k) f) (WalkArith.wf_i64 (by omega)) ⟨k, f, by omega, hf, rfl, rfl⟩
            have HM5 := Lib.hid hm5
            have HG5 := Lib.hid hg5
            clear hbr hgr hm5 hg5 d0 d1 d2 dl q0 q1
            go_wp2_with fail
            go_region
            all_goals go_wp2_with fail
            all_goals (try rw [Exit.noGoto_ret])
            all_goals go_ret
            exact ⟨by simp, HBR.out.drew.grown HG5.out HM5.out, HGR.out.trans ((grownBy_of_below (Below.refl _ _).drew _).trans HG5.out)⟩
      · obtain ⟨k', f', _, _, hkey, rfl⟩ := hgood
        have hkk : k' = k ∧ f' = f := by simp at hkey; omega
        obtain ⟨rfl, rfl⟩ := hkk
        clear hkey
        have hq : ∀ j, (Instr.lookup 209 (.map (some m)) (.agg #[.int .i64 (k' : Nat), .int .u32 (f' : Nat)]) true).run Try.prog ((w.alloc (.cells #[.int .i64 (k' : Nat), .int .u32 (f' : Nat)] 218)).drewN j) = .ok (.tuple #[.int .i64 (W (bs.drop k') f'), .bool true]) ((w.alloc (.cells #[.int .i64 (k' : Nat), .int .u32 (f' : Nat)] 218)).drewN j) := fun j => hrun _ rfl
        clear hrun
        go_enter Try.func126, Try.ntmps126
        go_wp2_with fail
        go_step3
        go_wp2_with fail
        go_quiet (fail)
        go_wp2_with fail
        (try rw [Exit.noGoto_ret])
        go_ret
        exact ⟨by simp, (HB.out.alloc _).drewN nq, grownBy_of_below (below_drewN ((Below.refl _ _).alloc (Nat.le_refl _) _) nq) _⟩
end Go.Proofs.Ytcigobiolbojhaa.Vb

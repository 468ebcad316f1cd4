import Derived.Test.YthoaidfpgijbfaaGreatZs
import Derived.Test.YthoaidfpgijbfaaGreatZv
namespace Go.Proofs.YthoaidfpgijbfaaGreat.Ho
open Go.RowKit
open Go.Proofs.YthoaidfpgijbfaaGreat.Vb Go.Proofs.YthoaidfpgijbfaaGreat.Ac
theorem putE_ok {H : House} {l : LotR} (h : putE H l = 0) : lotOk l = true ∧ H.now ≤ l.opens := by
  unfold putE at h
  split at h
  · cases h
  · rename_i h1
    split at h
    · cases h
    · rename_i h2
      exact ⟨by simpa using h1, by omega⟩
theorem one_lots {W : World} {T : Nat → Part} {R : Nat → Prop} {h r : Nat} {H : House} {l : LotR} (hH : HouseIn W T h 0 (hP H l)) (hR : RefIn W R r (hP H l)) (hn : H.names = []) (ha : H.accs = []) (hl : H.lots = []) (hnow : coin H.now) :
    Calls Tryz.prog 17 #[.pointer (some ⟨h, 0, none⟩), .pointer (some ⟨r, 0, none⟩), .int .i64 0] W fun e W' => e = .returned (.bool true) ∧ Below W.heap.size W W' := by
  unfold hP at hH hR
  by_cases hc : putE H l = 0
  · rw [if_pos hc] at hH hR
    obtain ⟨hok, hop⟩ := putE_ok hc
    have hlots : (hP1 H l).lots = [newLot l] := by show H.lots ++ [newLot l] = _; rw [hl]; rfl
    have hi : (hP1 H l).lots[0]? = some (newLot l) := by rw [hlots]; rfl
    have hcl : H.now < l.closes := by
      unfold lotOk at hok
      simp only [Bool.and_eq_true, decide_eq_true_eq] at hok
      omega
    obtain ⟨vn, vb, vp, vl, vs, vk, hA⟩ := hR
    obtain ⟨vol, hsl, hvo⟩ := hA.lots
    obtain ⟨A, c, hvl⟩ := Sl.form hsl
    subst hvl
    have hlen : 0 < (hP1 H l).lots.length := by rw [hlots]; exact Nat.one_pos
    obtain ⟨q, off, hAq, _, hq, hrg⟩ := rlot_range hsl hi hlen
    subst hAq
    obtain ⟨⟨sA, sc, hsv⟩, _⟩ := hvo 0 _ hi
    rw [hsv] at hrg
    have h13 := hrg 13 (.slice sA 0 sc) rfl
    rw [show off + 0 * 19 + 13 = off + 13 by omega] at h13
    have hR : RefIn W R r (hP1 H l) := ⟨vn, vb, vp, _, vs, vk, hA⟩
    exact one_0 (W := W) (h := h) (r := r) hlen hA.cells.2.2.2.1 h13
      (fun V hb => hbidder_err (hH.grow hb) (.inr (by show (H.accs.length : Int) ≤ 0; rw [ha]; decide)))
      (fun V hb => rbidder_err (hR.grow hb) (.inr (by show (H.names.length : Int) ≤ 0; rw [hn]; decide)))
      (show Tells W 49 #[.pointer (some ⟨h, 0, none⟩), .int .i64 0] (.tuple #[.agg #[.int .i64 l.kind, .int .i64 l.opens, .int .i64 l.closes, .int .i64 l.start, .int .i64 l.step, .int .i64 l.extend, .int .i64 l.last, .int .i64 l.floor, .int .i64 l.fall, .int .i64 l.count, .int .i64 l.rule, .int .i64 l.closes, .bool false, .int .i64 (priceL (newLot l) H.now), .int .i64 (if l.kind = 1 then (-1) else (-1)), .int .i64 ((0 : Nat) : Int)], .int .i64 0]) from fun V hb => hLot_ok (hH.grow hb) (i := 0) hi hok)
      (show Tells W 50 #[.pointer (some ⟨r, 0, none⟩), .int .i64 0] (.tuple #[.agg #[.int .i64 l.kind, .int .i64 l.opens, .int .i64 l.closes, .int .i64 l.start, .int .i64 l.step, .int .i64 l.extend, .int .i64 l.last, .int .i64 l.floor, .int .i64 l.fall, .int .i64 l.count, .int .i64 l.rule, .int .i64 l.closes, .bool false, .int .i64 (priceL (newLot l) H.now), .int .i64 (if l.kind = 1 then (-1) else (-1)), .int .i64 ((0 : Nat) : Int)], .int .i64 0]) from fun V hb => rat_ok (hR.grow hb) (i := 0) hi hok (fun _ => rfl) hnow (fun _ _ => hcl))
      (fun V hb => (hstands_ok (hH.grow hb) (i := 0) hi (Nat.zero_le _) (fun s hs => by cases hs)).mono fun e W' ⟨A, c, he, _, hb2⟩ => ⟨A, c, he, hb2⟩)
  · rw [if_neg hc] at hH hR
    exact one_4 (W := W) (h := h) (r := r)
      (fun V hb => hbidder_err (hH.grow hb) (.inr (by rw [ha]; decide)))
      (fun V hb => rbidder_err (hR.grow hb) (.inr (by rw [hn]; decide)))
      (fun V hb => hLot_err (hH.grow hb) (.inr (by rw [hl]; decide)))
      (fun V hb => rat_err (hR.grow hb) (.inr (by rw [hl]; decide)))
      (fun V hb => (hstands_err (hH.grow hb) (.inr (by rw [hl]; decide))).mono fun e W' ⟨he, hw⟩ => ⟨none, 0, he, by rw [hw]; exact Below.refl _ _⟩)
theorem blk_range0 {W : World} {g : Nat} {t : TypeId} {xs : List Value} (h : Ac.Blk W g t xs.toArray) : W.rangeAt g 0 xs := Blk.range h 0 xs fun j v hj => by rw [Nat.zero_add, List.getElem?_toArray]; exact hj
def Box3 (a b c : Nat) (x y z : List Value) (w : World) : Prop := Ac.Blk w a 33 x.toArray ∧ Ac.Blk w b 36 y.toArray ∧ Ac.Blk w c 36 z.toArray
theorem Box3.chg {a b c : Nat} {x y z : List Value} {X : Nat → Prop} {W W' : World} (h : Box3 a b c x y z W) (hc : Chg X W W') (h1 : ¬ X a) (h2 : ¬ X b) (h3 : ¬ X c) : Box3 a b c x y z W' := ⟨h.1.chg hc h1, h.2.1.chg hc h2, h.2.2.chg hc h3⟩
theorem Box3.grow {a b c : Nat} {x y z : List Value} {W W' : World} (h : Box3 a b c x y z W) (hb : Below W.heap.size W W') : Box3 a b c x y z W' := h.chg (Chg.of (fun _ => False) hb) id id id
theorem ref_new {W : World} {r : Nat} (h : Ac.Blk W r 52 #[.slice none 0 0, .slice none 0 0, .slice none 0 0, .slice none 0 0, .slice none 0 0, .slice none 0 0, .int .i64 0]) : RefIn W (fun _ => False) r emptyH :=
  ⟨_, _, _, _, _, _, h, id, Sl.none0 _ _ _, Sl.none0 _ _ _, Sl.none0 _ _ _, ⟨fun _ => .nilFunc, Sl.none0 _ _ _, fun k l hk => by cases hk⟩, Sl.none0 _ _ _, ⟨fun _ => .nilFunc, Sl.none0 _ _ _, fun k l hk => by cases hk⟩⟩
theorem hT_facts (t : Int) : (hT t).names = [] ∧ (hT t).accs = [] ∧ (hT t).lots = [] ∧ coin (hT t).now ∧ (hT t).book.length ≤ 1 := by
  unfold hT
  by_cases hc : coinB t = true
  · rw [if_pos hc]; exact ⟨rfl, rfl, rfl, coinB_coin.1 hc, Nat.le_refl _⟩
  · rw [if_neg hc]; exact ⟨rfl, rfl, rfl, by decide, Nat.zero_le _⟩
set_option maxRecDepth 100000 in
set_option maxHeartbeats 16000000 in
theorem houseLots_walk (l : LotR) (tick : Int) (W : World) : Calls Tryz.prog 4 #[l.agg, .int .i64 tick] W fun e W' => e = .returned (.bool true) ∧ Below W.heap.size W W' := by
  have HKN := Lib.hid (hcheck_any l)
  have HKR := Lib.hid (rcheck_any l)
  have HDT := Lib.hid (fun (W : World) T h hH => do_time (W := W) (T := T) (h := h) tick hH)
  have HRT := Lib.hid (fun (W : World) R r hR => rdo_time (W := W) (R := R) (r := r) tick hR)
  obtain ⟨f1, f2, f3, f4, f5⟩ := hT_facts tick
  have HDP := Lib.hid (fun (W : World) T h hH => do_put (W := W) (T := T) (h := h) (H := hT tick) l hH f3 f5)
  have HRP := Lib.hid (fun (W : World) R r hR => rdo_put (W := W) (R := R) (r := r) (H := hT tick) l hR f3 f5)
  have HON := Lib.hid (fun (W : World) T R h r hH hR => one_lots (W := W) (T := T) (R := R) (h := h) (r := r) (H := hT tick) (l := l) hH hR f1 f2 f3 f4)
  clear f1 f2 f3 f4 f5
  generalize hP (hT tick) l = H2 at HDP HRP HON
  generalize hT tick = H1 at HDT HRT HDP HRP
  generalize eT tick = e1 at HDT HRT
  generalize nP H1 l = n2 at HDP HRP
  generalize putE H1 l = e2 at HDP HRP
  generalize (if lotOk l = true then (0 : Int) else 2) = e3 at HKN HKR
  obtain ⟨kind, opens, closes, start, step, extend, last, floor, fall, count, rule⟩ := l
  simp only [LotR.agg, LotR.cells, OrderR.agg, OrderR.cells, timeO, putO, zeroLot, sNil, List.cons_append, List.nil_append] at HKN HKR HDT HRT HDP HRP ⊢
  go_enter Tryz.func4, Tryz.ntmps4
  go_wp2_with fail
  generalize hW1 : World.alloc W _ = W1
  have hb1 : Below W.heap.size W W1 := by rw [← hW1]; exact (Below.refl _ _).alloc (Nat.le_refl _) _
  have hx1 : Ac.Blk W1 W.heap.size 33 #[.int .i64 kind, .int .i64 opens, .int .i64 closes, .int .i64 start, .int .i64 step, .int .i64 extend, .int .i64 last, .int .i64 floor, .int .i64 fall, .int .i64 count, .int .i64 rule] := by rw [← hW1]; exact Ac.Blk.new _ _ _
  clear hW1
  refine (hnew_any W1).mono ?_
  rintro e W2 ⟨h, T, rfl, hH, hb2, hno⟩
  have HH := Lib.hid hH
  have HNO := Lib.hid hno
  have HOUT := Lib.hid (show ∀ b, W2.heap.size ≤ b → T b = .no by obtain ⟨_, _, _, _, _, _, hA⟩ := hH; exact hA.out)
  have HX := Lib.hid (hx1.grow hb2)
  have HB2 := Lib.hid (hb1.trans (hb2.mono hb1.size))
  have HL2 := Lib.hid (show W.heap.size < W1.heap.size ∧ W1.heap.size ≤ W2.heap.size from ⟨hx1.lt, hb2.size⟩)
  clear hH hno hb1 hx1 hb2
  obtain ⟨W3, hW3⟩ : ∃ U, U = W2.alloc (.cells #[.slice none 0 0, .slice none 0 0, .slice none 0 0, .slice none 0 0, .slice none 0 0, .slice none 0 0, .int .i64 0] 52) := ⟨_, rfl⟩
  have hb3 : Below W2.heap.size W2 W3 := by rw [hW3]; exact (Below.refl _ _).alloc (Nat.le_refl _) _
  have hr3 : Ac.Blk W3 W2.heap.size 52 #[.slice none 0 0, .slice none 0 0, .slice none 0 0, .slice none 0 0, .slice none 0 0, .slice none 0 0, .int .i64 0] := by rw [hW3]; exact Ac.Blk.new _ _ _
  have hs3 : W3.heap.size = W2.heap.size + 1 := by rw [hW3]; simp
  obtain ⟨U, hU⟩ : ∃ U, U = (W3.alloc (.cells #[.int .i64 0, .string { data := #[] }, .int .i64 0, .int .i64 0, .int .i64 0, .int .i64 0, .int .i64 0, .int .i64 0, .int .i64 0, .int .i64 0, .int .i64 0, .int .i64 0, .int .i64 0, .int .i64 0, .int .i64 0, .int .i64 0, .slice none 0 0, .int .i64 0] 36)).setRow (W2.heap.size + 1) #[.int .i64 6, .string { data := #[] }, .int .i64 0, .int .i64 0, .int .i64 0, .int .i64 0, .int .i64 0, .int .i64 0, .int .i64 0, .int .i64 0, .int .i64 0, .int .i64 0, .int .i64 0, .int .i64 0, .int .i64 0, .int .i64 0, .slice none 0 0, .int .i64 tick] := ⟨_, rfl⟩
  have hbU : Below W3.heap.size W3 U := by rw [hU]; exact below_setRow ((Below.refl _ _).alloc (Nat.le_refl _) _) (by omega) _
  have ht7 : Ac.Blk U (W2.heap.size + 1) 36 #[.int .i64 6, .string { data := #[] }, .int .i64 0, .int .i64 0, .int .i64 0, .int .i64 0, .int .i64 0, .int .i64 0, .int .i64 0, .int .i64 0, .int .i64 0, .int .i64 0, .int .i64 0, .int .i64 0, .int .i64 0, .int .i64 0, .slice none 0 0, .int .i64 tick] := by rw [hU]; exact Blk.setRow (Ac.Blk.new' _ _ hs3.symm) _
  have hsU : U.heap.size = W3.heap.size + 1 := by rw [hU, setRow_size]; simp
  obtain ⟨V, hV⟩ : ∃ U', U' = (U.alloc (.cells #[.int .i64 0, .string { data := #[] }, .int .i64 0, .int .i64 0, .int .i64 0, .int .i64 0, .int .i64 0, .int .i64 0, .int .i64 0, .int .i64 0, .int .i64 0, .int .i64 0, .int .i64 0, .int .i64 0, .int .i64 0, .int .i64 0, .slice none 0 0, .int .i64 0] 36)).setRow U.heap.size #[.int .i64 3, .string { data := #[] }, .int .i64 0, .int .i64 0, .int .i64 0, .int .i64 kind, .int .i64 opens, .int .i64 closes, .int .i64 start, .int .i64 step, .int .i64 extend, .int .i64 last, .int .i64 floor, .int .i64 fall, .int .i64 count, .int .i64 rule, .slice none 0 0, .int .i64 0] := ⟨_, rfl⟩
  have hbV : Below U.heap.size U V := by rw [hV]; exact below_setRow ((Below.refl _ _).alloc (Nat.le_refl _) _) (Nat.le_refl _) _
  have ht8 : Ac.Blk V U.heap.size 36 #[.int .i64 3, .string { data := #[] }, .int .i64 0, .int .i64 0, .int .i64 0, .int .i64 kind, .int .i64 opens, .int .i64 closes, .int .i64 start, .int .i64 step, .int .i64 extend, .int .i64 last, .int .i64 floor, .int .i64 fall, .int .i64 count, .int .i64 rule, .slice none 0 0, .int .i64 0] := by rw [hV]; exact Blk.setRow (Ac.Blk.new _ _ _) _
  have hb2V : Below W2.heap.size W2 V := hb3.trans ((hbU.mono hb3.size).trans (hbV.mono (Nat.le_trans hb3.size hbU.size)))
  have HXU := Lib.hid ((HX.out.grow hb3).grow hbU)
  have HBV := Lib.hid (HB2.out.trans (hb2V.mono HB2.out.size))
  have HB3 := Lib.hid (show Box3 W.heap.size (W2.heap.size + 1) U.heap.size [.int .i64 kind, .int .i64 opens, .int .i64 closes, .int .i64 start, .int .i64 step, .int .i64 extend, .int .i64 last, .int .i64 floor, .int .i64 fall, .int .i64 count, .int .i64 rule] [.int .i64 6, .string { data := #[] }, .int .i64 0, .int .i64 0, .int .i64 0, .int .i64 0, .int .i64 0, .int .i64 0, .int .i64 0, .int .i64 0, .int .i64 0, .int .i64 0, .int .i64 0, .int .i64 0, .int .i64 0, .int .i64 0, .slice none 0 0, .int .i64 tick] [.int .i64 3, .string { data := #[] }, .int .i64 0, .int .i64 0, .int .i64 0, .int .i64 kind, .int .i64 opens, .int .i64 closes, .int .i64 start, .int .i64 step, .int .i64 extend, .int .i64 last, .int .i64 floor, .int .i64 fall, .int .i64 count, .int .i64 rule, .slice none 0 0, .int .i64 0] V from ⟨HX.out.grow hb2V, ht7.grow hbV, ht8⟩)
  have HRV := Lib.hid (ref_new ((hr3.grow hbU).grow hbV))
  have HHV := Lib.hid (HH.out.grow hb2V)
  have HN := Lib.hid (show T W.heap.size = .no ∧ T (W2.heap.size + 1) = .no ∧ T U.heap.size = .no ∧ T W2.heap.size = .no from ⟨HNO.out _ HL2.out.1, HOUT.out _ (by omega), HOUT.out _ (by omega), HOUT.out _ (Nat.le_refl _)⟩)
  have HNE := Lib.hid (show W.heap.size ≠ W2.heap.size ∧ W2.heap.size + 1 ≠ W2.heap.size ∧ U.heap.size ≠ W2.heap.size ∧ W2.heap.size < V.heap.size ∧ W2.heap.size + 1 < V.heap.size ∧ U.heap.size < V.heap.size ∧ W.heap.size < V.heap.size from ⟨by have := HL2.out; omega, by omega, by omega, by have := hbV.size; omega, by have := hbV.size; omega, ht8.lt, by have := HL2.out; have := hbV.size; omega⟩)
  have HEQ3 := Lib.hid hs3
  clear hb3 hr3 hbU ht7 hbV ht8 hb2V hsU hs3
  go_wp2_with (first
    | (refine wpList_store_row rfl 36 (.tmp 7) (.tmp 15) rfl (W2.heap.size + 1) #[.int .i64 6, .string { data := #[] }, .int .i64 0, .int .i64 0, .int .i64 0, .int .i64 0, .int .i64 0, .int .i64 0, .int .i64 0, .int .i64 0, .int .i64 0, .int .i64 0, .int .i64 0, .int .i64 0, .int .i64 0, .int .i64 0, .slice none 0 0, .int .i64 tick] rfl rfl 36 #[.int .i64 0, .string { data := #[] }, .int .i64 0, .int .i64 0, .int .i64 0, .int .i64 0, .int .i64 0, .int .i64 0, .int .i64 0, .int .i64 0, .int .i64 0, .int .i64 0, .int .i64 0, .int .i64 0, .int .i64 0, .int .i64 0, .slice none 0 0, .int .i64 0] (by rw [← hW3]; exact Ac.Blk.new' _ _ HEQ3.out.symm) (by kernel_rfl) rfl (by kernel_rfl) ?_; rw [← hW3, ← hU]; clear hW3 hU)
    | (refine wpList_load_row rfl 33 (.tmp 2) rfl W.heap.size rfl 33 #[.int .i64 kind, .int .i64 opens, .int .i64 closes, .int .i64 start, .int .i64 step, .int .i64 extend, .int .i64 last, .int .i64 floor, .int .i64 fall, .int .i64 count, .int .i64 rule] (0, 0) _ HXU.out Tryz.underlying33 rfl (by kernel_rfl) ?_)
    | (refine wpList_store_row rfl 36 (.tmp 8) (.tmp 17) rfl U.heap.size #[.int .i64 3, .string { data := #[] }, .int .i64 0, .int .i64 0, .int .i64 0, .int .i64 kind, .int .i64 opens, .int .i64 closes, .int .i64 start, .int .i64 step, .int .i64 extend, .int .i64 last, .int .i64 floor, .int .i64 fall, .int .i64 count, .int .i64 rule, .slice none 0 0, .int .i64 0] rfl rfl 36 #[.int .i64 0, .string { data := #[] }, .int .i64 0, .int .i64 0, .int .i64 0, .int .i64 0, .int .i64 0, .int .i64 0, .int .i64 0, .int .i64 0, .int .i64 0, .int .i64 0, .int .i64 0, .int .i64 0, .int .i64 0, .int .i64 0, .slice none 0 0, .int .i64 0] (Ac.Blk.new _ _ _) (by kernel_rfl) rfl (by kernel_rfl) ?_; rw [← hV]; clear hV))
  try simp only [Act.put]
  have HS0 := Lib.hid (show V.heap.size ≤ V.drew.heap.size from Nat.le_refl _)
  have HH0 := Lib.hid (show HouseIn V.drew T h 0 emptyH from HHV.out.grow (Below.refl _ _).drew)
  have HBX0 := Lib.hid (show Box3 W.heap.size (W2.heap.size + 1) U.heap.size [.int .i64 kind, .int .i64 opens, .int .i64 closes, .int .i64 start, .int .i64 step, .int .i64 extend, .int .i64 last, .int .i64 floor, .int .i64 fall, .int .i64 count, .int .i64 rule] [.int .i64 6, .string { data := #[] }, .int .i64 0, .int .i64 0, .int .i64 0, .int .i64 0, .int .i64 0, .int .i64 0, .int .i64 0, .int .i64 0, .int .i64 0, .int .i64 0, .int .i64 0, .int .i64 0, .int .i64 0, .int .i64 0, .slice none 0 0, .int .i64 tick] [.int .i64 3, .string { data := #[] }, .int .i64 0, .int .i64 0, .int .i64 0, .int .i64 kind, .int .i64 opens, .int .i64 closes, .int .i64 start, .int .i64 step, .int .i64 extend, .int .i64 last, .int .i64 floor, .int .i64 fall, .int .i64 count, .int .i64 rule, .slice none 0 0, .int .i64 0] V.drew from HB3.out)
  have HR0 := Lib.hid (show RefIn V.drew (fun b => T b = .no ∧ b ≠ W2.heap.size) W2.heap.size emptyH from ((HRV.out.grow (Below.refl _ _).drew).mono (fun b _ h => h.elim) fun h => h.2 rfl))
  have HB0 := Lib.hid (show Below W.heap.size W V.drew from HBV.out.drew)
  have HN0 := Lib.hid (show T W.heap.size = .no ∧ T (W2.heap.size + 1) = .no ∧ T U.heap.size = .no ∧ T W2.heap.size = .no from HN.out)
  have HA0 := Lib.hid (show ∀ b, b < W.heap.size → T b = .no from fun b hb => HNO.out b (Nat.lt_trans hb HL2.out.1))
  refine wp_region_F (Box3 W.heap.size (W2.heap.size + 1) U.heap.size [.int .i64 kind, .int .i64 opens, .int .i64 closes, .int .i64 start, .int .i64 step, .int .i64 extend, .int .i64 last, .int .i64 floor, .int .i64 fall, .int .i64 count, .int .i64 rule] [.int .i64 6, .string { data := #[] }, .int .i64 0, .int .i64 0, .int .i64 0, .int .i64 0, .int .i64 0, .int .i64 0, .int .i64 0, .int .i64 0, .int .i64 0, .int .i64 0, .int .i64 0, .int .i64 0, .int .i64 0, .int .i64 0, .slice none 0 0, .int .i64 tick] [.int .i64 3, .string { data := #[] }, .int .i64 0, .int .i64 0, .int .i64 0, .int .i64 kind, .int .i64 opens, .int .i64 closes, .int .i64 start, .int .i64 step, .int .i64 extend, .int .i64 last, .int .i64 floor, .int .i64 fall, .int .i64 count, .int .i64 rule, .slice none 0 0, .int .i64 0]) [] (by kernel_rfl) HBX0.out (fun hS => ?_)
  refine wpAnyF_take (i := 0) (oi := ⟨some 18, .move (.tmp 5), 23, "law.go:186", #[], none⟩) (v := ?_) rfl (by kernel_rfl) (by kernel_rfl) (by kernel_rfl) (by kernel_rfl) (fun _ _ _ h => h) (Or.inl ⟨by rfl, ?_⟩) hS ?_
  rotate_left
  · intro w' hSw; go_simp; try with_reducible rfl
  try simp only [Act.put, pb, pz, ps]
  refine wpAnyF_take (i := 1) (oi := ⟨some 19, .load 36 (.tmp 7), 36, "law.go:186", #[], none⟩) (v := ?_) rfl (by kernel_rfl) (by kernel_rfl) (by kernel_rfl) (by kernel_rfl) (fun _ _ _ h => h) (Or.inl ⟨by rfl, ?_⟩) hS ?_
  rotate_left
  · intro w' hSw; refine Eq.trans (exec_load_mid 36 (.tmp 7) (by rfl) (W2.heap.size + 1) 0 (by rfl) [.int .i64 6, .string { data := #[] }, .int .i64 0, .int .i64 0, .int .i64 0, .int .i64 0, .int .i64 0, .int .i64 0, .int .i64 0, .int .i64 0, .int .i64 0, .int .i64 0, .int .i64 0, .int .i64 0, .int .i64 0, .int .i64 0, .slice none 0 0, .int .i64 tick] _ (blk_range0 hSw.2.1) Tryz.underlying36 rfl (by kernel_rfl)) ?_; with_reducible rfl
  try simp only [Act.put, pb, pz, ps]
  refine wpAnyF_take (i := 3) (oi := ⟨some 21, .move (.tmp 6), 47, "law.go:186", #[], none⟩) (v := ?_) rfl (by kernel_rfl) (by kernel_rfl) (by kernel_rfl) (by kernel_rfl) (fun _ _ _ h => h) (Or.inl ⟨by rfl, ?_⟩) hS ?_
  rotate_left
  · intro w' hSw; go_simp; try with_reducible rfl
  try simp only [Act.put, pb, pz, ps]
  refine wpAnyF_take (i := 4) (oi := ⟨some 22, .load 36 (.tmp 7), 36, "law.go:186", #[], none⟩) (v := ?_) rfl (by kernel_rfl) (by kernel_rfl) (by kernel_rfl) (by kernel_rfl) (fun _ _ _ h => h) (Or.inl ⟨by rfl, ?_⟩) hS ?_
  rotate_left
  · intro w' hSw; refine Eq.trans (exec_load_mid 36 (.tmp 7) (by rfl) (W2.heap.size + 1) 0 (by rfl) [.int .i64 6, .string { data := #[] }, .int .i64 0, .int .i64 0, .int .i64 0, .int .i64 0, .int .i64 0, .int .i64 0, .int .i64 0, .int .i64 0, .int .i64 0, .int .i64 0, .int .i64 0, .int .i64 0, .int .i64 0, .int .i64 0, .slice none 0 0, .int .i64 tick] _ (blk_range0 hSw.2.1) Tryz.underlying36 rfl (by kernel_rfl)) ?_; with_reducible rfl
  try simp only [Act.put, pb, pz, ps]
  refine wpAnyF_ready (rs := [2]) (by kernel_rfl) (by simp) ?_
  refine AllReadyF.cons (o := ⟨some 20, .call { callee := .value (.func 9), args := #[.tmp 18, .tmp 19], argTypes := #[23, 36] }, 27, "law.go:186", #[⟨0, .data⟩, ⟨1, .data⟩], none⟩) rfl (by rfl) (fun K hK => ?_) ?_
  · go_simp
    refine (HDT.out V.drew T h HH0.out).mono ?_
    rintro e V1 ⟨rfl, T1, hH, hM⟩
    have hs : V.heap.size ≤ (V.drew).heap.size := HS0.out
    have HS1 := Lib.hid (Nat.le_trans hs hM.chg.size)
    have HH1 := Lib.hid hH
    have HBX1 := Lib.hid (HBX0.out.chg hM.chg (fun h => h.2 HN0.out.1) (fun h => h.2 HN0.out.2.1) (fun h => h.2 HN0.out.2.2.1))
    have HR1 := Lib.hid (HR0.out.step (R' := fun b => T1 b = .no ∧ b ≠ W2.heap.size) hM.chg (fun b hb hr ho => ho.2 (hr.elim (fun h => h.1) fun h => by rw [h]; exact HN0.out.2.2.2)) (fun b hb hr => ⟨(hM.tag b hb).trans hr.1, hr.2⟩) fun h => h.2 rfl)
    have HB1 := Lib.hid (HB0.out.trans (hM.chg.below HB0.out.size fun b hb ho => ho.2 (HA0.out b hb)))
    have HN1 := Lib.hid (show T1 W.heap.size = .no ∧ T1 (W2.heap.size + 1) = .no ∧ T1 U.heap.size = .no ∧ T1 W2.heap.size = .no from ⟨(hM.tag _ (Nat.lt_of_lt_of_le HNE.out.2.2.2.2.2.2 hs)).trans HN0.out.1, (hM.tag _ (Nat.lt_of_lt_of_le HNE.out.2.2.2.2.1 hs)).trans HN0.out.2.1, (hM.tag _ (Nat.lt_of_lt_of_le HNE.out.2.2.2.2.2.1 hs)).trans HN0.out.2.2.1, (hM.tag _ (Nat.lt_of_lt_of_le HNE.out.2.2.2.1 hs)).trans HN0.out.2.2.2⟩)
    have HA1 := Lib.hid (show ∀ b, b < W.heap.size → T1 b = .no from fun b hb => (hM.tag b (Nat.lt_of_lt_of_le hb HB0.out.size)).trans (HA0.out b hb))
    clear hH hM hs
    refine hK.out _ _ ?_ (fun hS => ?_)
    · exact HBX1.out
    clear hK K
    try simp only [Act.put, pb, pz, ps]
    refine wpAnyF_ready (rs := [5]) (by kernel_rfl) (by simp) ?_
    refine AllReadyF.cons (o := ⟨some 23, .call { callee := .value (.func 14), args := #[.tmp 21, .tmp 22], argTypes := #[47, 36] }, 27, "law.go:186", #[⟨3, .data⟩, ⟨4, .data⟩, ⟨2, .chain⟩], none⟩) rfl (by rfl) (fun K hK => ?_) ?_
    · go_simp
      refine (HRT.out V1 _ W2.heap.size HR1.out).mono ?_
      rintro e V2 ⟨rfl, hR, hC⟩
      have HS2 := Lib.hid (Nat.le_trans HS1.out hC.size)
      have hout : ∀ b, (V1).heap.size ≤ b → T1 b = .no := by obtain ⟨_, _, _, _, _, _, hA⟩ := HH1.out; exact hA.out
      have HH2 := Lib.hid (HH1.out.keep hC fun b hb e => hb (by rw [e]; exact HN1.out.2.2.2))
      have HBX2 := Lib.hid (HBX1.out.chg hC HNE.out.1 HNE.out.2.1 HNE.out.2.2.1)
      have HR2 := Lib.hid (hR.mono (R' := fun b => T1 b = .no ∧ b ≠ W2.heap.size) (fun b hb hr => hr.elim id fun hr => ⟨hout b hr, fun e => by have h1 := HNE.out.2.2.2.1; have h2 := HS1.out; omega⟩) fun h => h.2 rfl)
      have HB2 := Lib.hid (HB1.out.trans (hC.below HB1.out.size fun b hb e => by have h1 := HL2.out; omega))
      have HN2 := Lib.hid HN1.out
      have HA2 := Lib.hid HA1.out
      clear hR hC hout
      refine hK.out _ _ ?_ (fun hS => ?_)
      · exact HBX2.out
      clear hK K
      try simp only [Act.put, pb, pz, ps]
      refine wpAnyF_take (i := 6) (oi := ⟨some 24, .binOp .eql 27 (.tmp 20) (.tmp 23) 27, 4, "law.go:186", #[⟨2, .data⟩, ⟨5, .data⟩], none⟩) (v := ?_) rfl (by kernel_rfl) (by kernel_rfl) (by kernel_rfl) (by kernel_rfl) (fun _ _ _ h => h) (Or.inl ⟨by rfl, ?_⟩) hS ?_
      rotate_left
      · intro w' hSw; go_simp; try with_reducible rfl
      try simp only [Act.put, pb, pz, ps]
      refine wpAnyF_take (i := 7) (oi := ⟨some 25, .move (.tmp 24), 4, "law.go:186", #[⟨6, .data⟩, ⟨5, .chain⟩], none⟩) (v := ?_) rfl (by kernel_rfl) (by kernel_rfl) (by kernel_rfl) (by kernel_rfl) (fun _ _ _ h => h) (Or.inl ⟨by rfl, ?_⟩) hS ?_
      rotate_left
      · intro w' hSw; go_simp; try with_reducible rfl
      try simp only [Act.put, pb, pz, ps]
      refine wpAnyF_take (i := 8) (oi := ⟨some 26, .move (.tmp 5), 23, "law.go:186", #[⟨7, .guard⟩], some (7, true)⟩) (v := ?_) rfl (by kernel_rfl) (by kernel_rfl) (by kernel_rfl) (by kernel_rfl) (fun _ _ _ h => h) (Or.inl ⟨by rfl, ?_⟩) hS ?_
      rotate_left
      · intro w' hSw; go_simp; try with_reducible rfl
      try simp only [Act.put, pb, pz, ps]
      refine wpAnyF_take (i := 9) (oi := ⟨some 27, .load 36 (.tmp 8), 36, "law.go:186", #[⟨7, .guard⟩], some (7, true)⟩) (v := ?_) rfl (by kernel_rfl) (by kernel_rfl) (by kernel_rfl) (by kernel_rfl) (fun _ _ _ h => h) (Or.inl ⟨by rfl, ?_⟩) hS ?_
      rotate_left
      · intro w' hSw; refine Eq.trans (exec_load_mid 36 (.tmp 8) (by rfl) U.heap.size 0 (by rfl) [.int .i64 3, .string { data := #[] }, .int .i64 0, .int .i64 0, .int .i64 0, .int .i64 kind, .int .i64 opens, .int .i64 closes, .int .i64 start, .int .i64 step, .int .i64 extend, .int .i64 last, .int .i64 floor, .int .i64 fall, .int .i64 count, .int .i64 rule, .slice none 0 0, .int .i64 0] _ (blk_range0 hSw.2.2) Tryz.underlying36 rfl (by kernel_rfl)) ?_; with_reducible rfl
      try simp only [Act.put, pb, pz, ps]
      refine wpAnyF_take (i := 11) (oi := ⟨some 29, .move (.tmp 6), 47, "law.go:186", #[⟨7, .guard⟩], some (7, true)⟩) (v := ?_) rfl (by kernel_rfl) (by kernel_rfl) (by kernel_rfl) (by kernel_rfl) (fun _ _ _ h => h) (Or.inl ⟨by rfl, ?_⟩) hS ?_
      rotate_left
      · intro w' hSw; go_simp; try with_reducible rfl
      try simp only [Act.put, pb, pz, ps]
      refine wpAnyF_take (i := 12) (oi := ⟨some 30, .load 36 (.tmp 8), 36, "law.go:186", #[⟨7, .guard⟩], some (7, true)⟩) (v := ?_) rfl (by kernel_rfl) (by kernel_rfl) (by kernel_rfl) (by kernel_rfl) (fun _ _ _ h => h) (Or.inl ⟨by rfl, ?_⟩) hS ?_
      rotate_left
      · intro w' hSw; refine Eq.trans (exec_load_mid 36 (.tmp 8) (by rfl) U.heap.size 0 (by rfl) [.int .i64 3, .string { data := #[] }, .int .i64 0, .int .i64 0, .int .i64 0, .int .i64 kind, .int .i64 opens, .int .i64 closes, .int .i64 start, .int .i64 step, .int .i64 extend, .int .i64 last, .int .i64 floor, .int .i64 fall, .int .i64 count, .int .i64 rule, .slice none 0 0, .int .i64 0] _ (blk_range0 hSw.2.2) Tryz.underlying36 rfl (by kernel_rfl)) ?_; with_reducible rfl
      try simp only [Act.put, pb, pz, ps]
      refine wpAnyF_ready (rs := [10]) (by kernel_rfl) (by simp) ?_
      refine AllReadyF.cons (o := ⟨some 28, .call { callee := .value (.func 9), args := #[.tmp 26, .tmp 27], argTypes := #[23, 36] }, 27, "law.go:186", #[⟨8, .data⟩, ⟨9, .data⟩, ⟨7, .chain⟩, ⟨7, .guard⟩], some (7, true)⟩) rfl (by rfl) (fun K hK => ?_) ?_
      · go_simp
        refine (HDP.out V2 T1 h HH2.out).mono ?_
        rintro e V3 ⟨rfl, T3, hH, hM⟩
        have hs : V.heap.size ≤ (V2).heap.size := HS2.out
        have HS3 := Lib.hid (Nat.le_trans hs hM.chg.size)
        have HH3 := Lib.hid hH
        have HBX3 := Lib.hid (HBX2.out.chg hM.chg (fun h => h.2 HN2.out.1) (fun h => h.2 HN2.out.2.1) (fun h => h.2 HN2.out.2.2.1))
        have HR3 := Lib.hid (HR2.out.step (R' := fun b => T3 b = .no ∧ b ≠ W2.heap.size) hM.chg (fun b hb hr ho => ho.2 (hr.elim (fun h => h.1) fun h => by rw [h]; exact HN2.out.2.2.2)) (fun b hb hr => ⟨(hM.tag b hb).trans hr.1, hr.2⟩) fun h => h.2 rfl)
        have HB3 := Lib.hid (HB2.out.trans (hM.chg.below HB2.out.size fun b hb ho => ho.2 (HA2.out b hb)))
        have HN3 := Lib.hid (show T3 W.heap.size = .no ∧ T3 (W2.heap.size + 1) = .no ∧ T3 U.heap.size = .no ∧ T3 W2.heap.size = .no from ⟨(hM.tag _ (Nat.lt_of_lt_of_le HNE.out.2.2.2.2.2.2 hs)).trans HN2.out.1, (hM.tag _ (Nat.lt_of_lt_of_le HNE.out.2.2.2.2.1 hs)).trans HN2.out.2.1, (hM.tag _ (Nat.lt_of_lt_of_le HNE.out.2.2.2.2.2.1 hs)).trans HN2.out.2.2.1, (hM.tag _ (Nat.lt_of_lt_of_le HNE.out.2.2.2.1 hs)).trans HN2.out.2.2.2⟩)
        have HA3 := Lib.hid (show ∀ b, b < W.heap.size → T3 b = .no from fun b hb => (hM.tag b (Nat.lt_of_lt_of_le hb HB2.out.size)).trans (HA2.out b hb))
        clear hH hM hs
        refine hK.out _ _ ?_ (fun hS => ?_)
        · exact HBX3.out
        clear hK K
        try simp only [Act.put, pb, pz, ps]
        refine wpAnyF_ready (rs := [13]) (by kernel_rfl) (by simp) ?_
        refine AllReadyF.cons (o := ⟨some 31, .call { callee := .value (.func 14), args := #[.tmp 29, .tmp 30], argTypes := #[47, 36] }, 27, "law.go:186", #[⟨11, .data⟩, ⟨12, .data⟩, ⟨10, .chain⟩, ⟨7, .guard⟩], some (7, true)⟩) rfl (by rfl) (fun K hK => ?_) ?_
        · go_simp
          refine (HRP.out V3 _ W2.heap.size HR3.out).mono ?_
          rintro e V4 ⟨rfl, hR, hC⟩
          have HS4 := Lib.hid (Nat.le_trans HS3.out hC.size)
          have hout : ∀ b, (V3).heap.size ≤ b → T3 b = .no := by obtain ⟨_, _, _, _, _, _, hA⟩ := HH3.out; exact hA.out
          have HH4 := Lib.hid (HH3.out.keep hC fun b hb e => hb (by rw [e]; exact HN3.out.2.2.2))
          have HBX4 := Lib.hid (HBX3.out.chg hC HNE.out.1 HNE.out.2.1 HNE.out.2.2.1)
          have HR4 := Lib.hid (hR.mono (R' := fun b => T3 b = .no ∧ b ≠ W2.heap.size) (fun b hb hr => hr.elim id fun hr => ⟨hout b hr, fun e => by have h1 := HNE.out.2.2.2.1; have h2 := HS3.out; omega⟩) fun h => h.2 rfl)
          have HB4 := Lib.hid (HB3.out.trans (hC.below HB3.out.size fun b hb e => by have h1 := HL2.out; omega))
          have HN4 := Lib.hid HN3.out
          have HA4 := Lib.hid HA3.out
          clear hR hC hout
          refine hK.out _ _ ?_ (fun hS => ?_)
          · exact HBX4.out
          clear hK K
          try simp only [Act.put, pb, pz, ps]
          refine wpAnyF_take (i := 14) (oi := ⟨some 32, .binOp .eql 27 (.tmp 28) (.tmp 31) 27, 4, "law.go:186", #[⟨10, .data⟩, ⟨13, .data⟩, ⟨7, .guard⟩], some (7, true)⟩) (v := ?_) rfl (by kernel_rfl) (by kernel_rfl) (by kernel_rfl) (by kernel_rfl) (fun _ _ _ h => h) (Or.inl ⟨by rfl, ?_⟩) hS ?_
          rotate_left
          · intro w' hSw; go_simp; try with_reducible rfl
          try simp only [Act.put, pb, pz, ps]
          refine wpAnyF_take (i := 15) (oi := ⟨some 33, .pick (.tmp 25) (.tmp 32) (.const (.bool false)), 4, "law.go:186", #[⟨7, .data⟩, ⟨14, .data⟩], none⟩) (v := ?_) rfl (by kernel_rfl) (by kernel_rfl) (by kernel_rfl) (by kernel_rfl) (fun _ _ _ h => h) (Or.inl ⟨by rfl, ?_⟩) hS ?_
          rotate_left
          · intro w' hSw; go_simp; try with_reducible rfl
          try simp only [Act.put, pb, pz, ps]
          refine wpAnyF_take (i := 16) (oi := ⟨some 34, .move (.tmp 33), 4, "law.go:186", #[⟨15, .data⟩, ⟨13, .chain⟩], none⟩) (v := ?_) rfl (by kernel_rfl) (by kernel_rfl) (by kernel_rfl) (by kernel_rfl) (fun _ _ _ h => h) (Or.inl ⟨by rfl, ?_⟩) hS ?_
          rotate_left
          · intro w' hSw; go_simp; try with_reducible rfl
          try simp only [Act.put, pb, pz, ps]
          refine wpAnyF_take (i := 17) (oi := ⟨some 35, .load 33 (.tmp 2), 33, "law.go:186", #[⟨16, .guard⟩], some (16, true)⟩) (v := ?_) rfl (by kernel_rfl) (by kernel_rfl) (by kernel_rfl) (by kernel_rfl) (fun _ _ _ h => h) (Or.inl ⟨by rfl, ?_⟩) hS ?_
          rotate_left
          · intro w' hSw; refine Eq.trans (exec_load_mid 33 (.tmp 2) (by rfl) W.heap.size 0 (by rfl) [.int .i64 kind, .int .i64 opens, .int .i64 closes, .int .i64 start, .int .i64 step, .int .i64 extend, .int .i64 last, .int .i64 floor, .int .i64 fall, .int .i64 count, .int .i64 rule] _ (blk_range0 hSw.1) Tryz.underlying33 rfl (by kernel_rfl)) ?_; with_reducible rfl
          try simp only [Act.put, pb, pz, ps]
          refine wpAnyF_take (i := 19) (oi := ⟨some 37, .load 33 (.tmp 2), 33, "law.go:186", #[⟨16, .guard⟩], some (16, true)⟩) (v := ?_) rfl (by kernel_rfl) (by kernel_rfl) (by kernel_rfl) (by kernel_rfl) (fun _ _ _ h => h) (Or.inl ⟨by rfl, ?_⟩) hS ?_
          rotate_left
          · intro w' hSw; refine Eq.trans (exec_load_mid 33 (.tmp 2) (by rfl) W.heap.size 0 (by rfl) [.int .i64 kind, .int .i64 opens, .int .i64 closes, .int .i64 start, .int .i64 step, .int .i64 extend, .int .i64 last, .int .i64 floor, .int .i64 fall, .int .i64 count, .int .i64 rule] _ (blk_range0 hSw.1) Tryz.underlying33 rfl (by kernel_rfl)) ?_; with_reducible rfl
          try simp only [Act.put, pb, pz, ps]
          refine wpAnyF_ready (rs := [18]) (by kernel_rfl) (by simp) ?_
          refine AllReadyF.cons (o := ⟨some 36, .call { callee := .value (.func 15), args := #[.tmp 35], argTypes := #[33] }, 25, "law.go:186", #[⟨17, .data⟩, ⟨16, .chain⟩, ⟨16, .guard⟩], some (16, true)⟩) rfl (by rfl) (fun K hK => ?_) ?_
          · go_simp
            refine (HKN.out V4).mono ?_
            rintro e V5 ⟨rfl, hb⟩
            have HH5 := Lib.hid (HH4.out.grow hb)
            have HR5 := Lib.hid (HR4.out.grow hb)
            have HBX5 := Lib.hid (HBX4.out.grow hb)
            have HB5 := Lib.hid (HB4.out.trans (hb.mono HB4.out.size))
            clear hb
            refine hK.out _ _ ?_ (fun hS => ?_)
            · exact HBX5.out
            clear hK K
            try simp only [Act.put, pb, pz, ps]
            refine wpAnyF_ready (rs := [20]) (by kernel_rfl) (by simp) ?_
            refine AllReadyF.cons (o := ⟨some 38, .call { callee := .value (.func 16), args := #[.tmp 37], argTypes := #[33] }, 3, "law.go:186", #[⟨19, .data⟩, ⟨18, .chain⟩, ⟨16, .guard⟩], some (16, true)⟩) rfl (by rfl) (fun K hK => ?_) ?_
            · go_simp
              refine (HKR.out V5).mono ?_
              rintro e V6 ⟨rfl, hb⟩
              have HH6 := Lib.hid (HH5.out.grow hb)
              have HR6 := Lib.hid (HR5.out.grow hb)
              have HBX6 := Lib.hid (HBX5.out.grow hb)
              have HB6 := Lib.hid (HB5.out.trans (hb.mono HB5.out.size))
              clear hb
              refine hK.out _ _ ?_ (fun hS => ?_)
              · exact HBX6.out
              clear hK K
              try simp only [Act.put, pb, pz, ps]
              refine wpAnyF_take (i := 21) (oi := ⟨some 39, .binOp .eql 3 (.tmp 36) (.tmp 38) 3, 4, "law.go:186", #[⟨18, .data⟩, ⟨20, .data⟩, ⟨16, .guard⟩], some (16, true)⟩) (v := ?_) rfl (by kernel_rfl) (by kernel_rfl) (by kernel_rfl) (by kernel_rfl) (fun _ _ _ h => h) (Or.inl ⟨by rfl, ?_⟩) hS ?_
              rotate_left
              · intro w' hSw; go_simp; try with_reducible rfl
              try simp only [Act.put, pb, pz, ps]
              refine wpAnyF_take (i := 22) (oi := ⟨some 40, .pick (.tmp 34) (.tmp 39) (.const (.bool false)), 4, "law.go:186", #[⟨16, .data⟩, ⟨21, .data⟩], none⟩) (v := ?_) rfl (by kernel_rfl) (by kernel_rfl) (by kernel_rfl) (by kernel_rfl) (fun _ _ _ h => h) (Or.inl ⟨by rfl, ?_⟩) hS ?_
              rotate_left
              · intro w' hSw; go_simp; try with_reducible rfl
              try simp only [Act.put, pb, pz, ps]
              refine wpAnyF_take (i := 23) (oi := ⟨some 41, .move (.tmp 40), 4, "law.go:186", #[⟨22, .data⟩, ⟨20, .chain⟩], none⟩) (v := ?_) rfl (by kernel_rfl) (by kernel_rfl) (by kernel_rfl) (by kernel_rfl) (fun _ _ _ h => h) (Or.inl ⟨by rfl, ?_⟩) hS ?_
              rotate_left
              · intro w' hSw; go_simp; try with_reducible rfl
              try simp only [Act.put, pb, pz, ps]
              refine wpAnyF_take (i := 24) (oi := ⟨some 42, .move (.tmp 5), 23, "law.go:186", #[⟨23, .guard⟩], some (23, true)⟩) (v := ?_) rfl (by kernel_rfl) (by kernel_rfl) (by kernel_rfl) (by kernel_rfl) (fun _ _ _ h => h) (Or.inl ⟨by rfl, ?_⟩) hS ?_
              rotate_left
              · intro w' hSw; go_simp; try with_reducible rfl
              try simp only [Act.put, pb, pz, ps]
              refine wpAnyF_take (i := 25) (oi := ⟨some 43, .move (.tmp 6), 47, "law.go:186", #[⟨23, .guard⟩], some (23, true)⟩) (v := ?_) rfl (by kernel_rfl) (by kernel_rfl) (by kernel_rfl) (by kernel_rfl) (fun _ _ _ h => h) (Or.inl ⟨by rfl, ?_⟩) hS ?_
              rotate_left
              · intro w' hSw; go_simp; try with_reducible rfl
              try simp only [Act.put, pb, pz, ps]
              refine wpAnyF_ready (rs := [26]) (by kernel_rfl) (by simp) ?_
              refine AllReadyF.cons (o := ⟨some 44, .call { callee := .value (.func 17), args := #[.tmp 42, .tmp 43, .const (.int .i64 0)], argTypes := #[23, 47, 3] }, 4, "law.go:186", #[⟨24, .data⟩, ⟨25, .data⟩, ⟨23, .chain⟩, ⟨23, .guard⟩], some (23, true)⟩) rfl (by rfl) (fun K hK => ?_) ?_
              · go_simp
                refine (HON.out V6 T3 _ h W2.heap.size HH6.out HR6.out).mono ?_
                rintro e V7 ⟨rfl, hb⟩
                have HH7 := Lib.hid (HH6.out.grow hb)
                have HR7 := Lib.hid (HR6.out.grow hb)
                have HBX7 := Lib.hid (HBX6.out.grow hb)
                have HB7 := Lib.hid (HB6.out.trans (hb.mono HB6.out.size))
                clear hb
                refine hK.out _ _ ?_ (fun hS => ?_)
                · exact HBX7.out
                clear hK K
                try simp only [Act.put, pb, pz, ps]
                refine wpAnyF_take (i := 27) (oi := ⟨some 45, .pick (.tmp 41) (.tmp 44) (.const (.bool false)), 4, "law.go:186", #[⟨23, .data⟩, ⟨26, .data⟩], none⟩) (v := ?_) rfl (by kernel_rfl) (by kernel_rfl) (by kernel_rfl) (by kernel_rfl) (fun _ _ _ h => h) (Or.inl ⟨by rfl, ?_⟩) hS ?_
                rotate_left
                · intro w' hSw; go_simp; try with_reducible rfl
                try simp only [Act.put, pb, pz, ps]
                refine wpAnyF_take (i := 28) (oi := ⟨some 46, .move (.tmp 45), 4, "law.go:186", #[⟨27, .data⟩, ⟨26, .chain⟩], none⟩) (v := ?_) rfl (by kernel_rfl) (by kernel_rfl) (by kernel_rfl) (by kernel_rfl) (fun _ _ _ h => h) (Or.inl ⟨by rfl, ?_⟩) hS ?_
                rotate_left
                · intro w' hSw; go_simp; try with_reducible rfl
                try simp only [Act.put, pb, pz, ps]
                refine wpAnyF_ready (rs := [29]) (by kernel_rfl) (by simp) ?_
                refine AllReadyF.cons (o := ⟨some 47, .call { callee := .value (.func 13), args := #[], argTypes := #[] }, 4, "law.go:186", #[⟨28, .chain⟩, ⟨28, .guard⟩], some (28, true)⟩) rfl (by rfl) (fun K hK => ?_) ?_
                · go_simp
                  refine (known24 V7).mono ?_
                  rintro e V8 ⟨rfl, hb⟩
                  have HH8 := Lib.hid (HH7.out.grow hb)
                  have HR8 := Lib.hid (HR7.out.grow hb)
                  have HBX8 := Lib.hid (HBX7.out.grow hb)
                  have HB8 := Lib.hid (HB7.out.trans (hb.mono HB7.out.size))
                  clear hb
                  refine hK.out _ _ ?_ (fun hS => ?_)
                  · exact HBX8.out
                  clear hK K
                  try simp only [Act.put, pb, pz, ps]
                  refine wpAnyF_take (i := 30) (oi := ⟨some 48, .pick (.tmp 46) (.tmp 47) (.const (.bool false)), 4, "law.go:186", #[⟨28, .data⟩, ⟨29, .data⟩], none⟩) (v := ?_) rfl (by kernel_rfl) (by kernel_rfl) (by kernel_rfl) (by kernel_rfl) (fun _ _ _ h => h) (Or.inl ⟨by rfl, ?_⟩) hS ?_
                  rotate_left
                  · intro w' hSw; go_simp; try with_reducible rfl
                  try simp only [Act.put, pb, pz, ps]
                  refine wpAnyF_take (i := 31) (oi := ⟨some 4, .assign (.tmp 48), 4, "law.go:186", #[⟨30, .data⟩, ⟨29, .chain⟩, ⟨0, .phase⟩, ⟨1, .phase⟩, ⟨2, .phase⟩, ⟨3, .phase⟩, ⟨4, .phase⟩, ⟨5, .phase⟩, ⟨6, .phase⟩, ⟨7, .phase⟩, ⟨8, .phase⟩, ⟨9, .phase⟩, ⟨10, .phase⟩, ⟨11, .phase⟩, ⟨12, .phase⟩, ⟨13, .phase⟩, ⟨14, .phase⟩, ⟨15, .phase⟩, ⟨16, .phase⟩, ⟨17, .phase⟩, ⟨18, .phase⟩, ⟨19, .phase⟩, ⟨20, .phase⟩, ⟨21, .phase⟩, ⟨22, .phase⟩, ⟨23, .phase⟩, ⟨24, .phase⟩, ⟨25, .phase⟩, ⟨26, .phase⟩, ⟨27, .phase⟩, ⟨28, .phase⟩, ⟨29, .phase⟩, ⟨30, .phase⟩], none⟩) (v := ?_) rfl (by kernel_rfl) (by kernel_rfl) (by kernel_rfl) (by kernel_rfl) (fun _ _ _ h => h) (Or.inl ⟨by rfl, ?_⟩) hS ?_
                  rotate_left
                  · intro w' hSw; go_simp; try with_reducible rfl
                  try simp only [Act.put, pb, pz, ps]
                  refine wpAnyF_done (by kernel_rfl) ?_ _
                  clear hS
                  try rw [Exit.noGoto_ret]
                  go_wp2_with fail
                  go_ret
                  exact ⟨rfl, HB8.out⟩
                exact AllReadyF.nil
              exact AllReadyF.nil
            exact AllReadyF.nil
          exact AllReadyF.nil
        exact AllReadyF.nil
      exact AllReadyF.nil
    exact AllReadyF.nil
  exact AllReadyF.nil
end Go.Proofs.YthoaidfpgijbfaaGreat.Ho
namespace Go.Proofs.YthoaidfpgijbfaaGreat.Ho
open Go.RowKit Go.WideShapes Go.ChangeShapes Go.ChangeAt Go.Joins Go.Deep
open Go.Proofs.YthoaidfpgijbfaaGreat.Vb
theorem array11 {α : Type} {cs : Array α} (h : cs.size = 11) : ∃ c0 c1 c2 c3 c4 c5 c6 c7 c8 c9 c10, cs = #[c0, c1, c2, c3, c4, c5, c6, c7, c8, c9, c10] := by
  obtain ⟨l⟩ := cs
  match l, h with
  | [c0, c1, c2, c3, c4, c5, c6, c7, c8, c9, c10], _ => exact ⟨c0, c1, c2, c3, c4, c5, c6, c7, c8, c9, c10, rfl⟩
theorem list11 {α : Type} {l : List α} (h : l.length = 11) : ∃ c0 c1 c2 c3 c4 c5 c6 c7 c8 c9 c10, l = [c0, c1, c2, c3, c4, c5, c6, c7, c8, c9, c10] := by
  match l, h with
  | [c0, c1, c2, c3, c4, c5, c6, c7, c8, c9, c10], _ => exact ⟨c0, c1, c2, c3, c4, c5, c6, c7, c8, c9, c10, rfl⟩
set_option maxRecDepth 100000 in
set_option maxHeartbeats 1600000 in
theorem open_lot {H : Type} {enc : TypeId × Value → H} {w : World} {base : Nat} {held : Bool} {r : Reach} {b0 : Nat} {v : Value} {d : DataW H} {p : List MemPlace}
    (hv : Value.okWide Tryz.prog w r b0 33 v) (h : DataW.Trod enc Tryz.prog w base (fun _ => true) held 33 v d p) : ∃ l : LotR, v = l.agg := by
  obtain ⟨cs, rfl, hsz⟩ := okWide_struct Tryz.underlying33 hv
  obtain ⟨c0, c1, c2, c3, c4, c5, c6, c7, c8, c9, c10, rfl⟩ := array11 (hsz.trans (show Tryz.prog.cellsOf 33 = 11 by kernel_rfl))
  obtain ⟨fuel, hf⟩ := h
  obtain ⟨xs, m, _, hx, _, hlen, hff⟩ := DataW.trod_struct Tryz.underlying33 hf
  obtain ⟨y0, y1, y2, y3, y4, y5, y6, y7, y8, y9, y10, rfl⟩ := list11 (l := xs) (by simpa using hlen)
  have k_api_LotKind : Tryz.prog.cellsOf 30 = 1 := by kernel_rfl
  have k_api_Rule : Tryz.prog.cellsOf 31 = 1 := by kernel_rfl
  have k_int : Tryz.prog.cellsOf 3 = 1 := by kernel_rfl
  have k_int64 : Tryz.prog.cellsOf 2 = 1 := by kernel_rfl
  have h0 := hff 0 _ rfl
  simp [Value.cells, k_api_LotKind] at h0
  obtain ⟨n0, e0, _, _⟩ := DataW.trod_int Tryz.underlying30 h0
  simp at e0
  subst e0
  have h1 := hff 1 _ rfl
  simp [Value.cells, k_int64] at h1
  obtain ⟨n1, e1, _, _⟩ := DataW.trod_int Tryz.underlying2 h1
  simp at e1
  subst e1
  have h2 := hff 2 _ rfl
  simp [Value.cells, k_int64] at h2
  obtain ⟨n2, e2, _, _⟩ := DataW.trod_int Tryz.underlying2 h2
  simp at e2
  subst e2
  have h3 := hff 3 _ rfl
  simp [Value.cells, k_int64] at h3
  obtain ⟨n3, e3, _, _⟩ := DataW.trod_int Tryz.underlying2 h3
  simp at e3
  subst e3
  have h4 := hff 4 _ rfl
  simp [Value.cells, k_int64] at h4
  obtain ⟨n4, e4, _, _⟩ := DataW.trod_int Tryz.underlying2 h4
  simp at e4
  subst e4
  have h5 := hff 5 _ rfl
  simp [Value.cells, k_int64] at h5
  obtain ⟨n5, e5, _, _⟩ := DataW.trod_int Tryz.underlying2 h5
  simp at e5
  subst e5
  have h6 := hff 6 _ rfl
  simp [Value.cells, k_int64] at h6
  obtain ⟨n6, e6, _, _⟩ := DataW.trod_int Tryz.underlying2 h6
  simp at e6
  subst e6
  have h7 := hff 7 _ rfl
  simp [Value.cells, k_int64] at h7
  obtain ⟨n7, e7, _, _⟩ := DataW.trod_int Tryz.underlying2 h7
  simp at e7
  subst e7
  have h8 := hff 8 _ rfl
  simp [Value.cells, k_int64] at h8
  obtain ⟨n8, e8, _, _⟩ := DataW.trod_int Tryz.underlying2 h8
  simp at e8
  subst e8
  have h9 := hff 9 _ rfl
  simp [Value.cells, k_int] at h9
  obtain ⟨n9, e9, _, _⟩ := DataW.trod_int Tryz.underlying3 h9
  simp at e9
  subst e9
  have h10 := hff 10 _ rfl
  simp [Value.cells, k_api_Rule] at h10
  obtain ⟨n10, e10, _, _⟩ := DataW.trod_int Tryz.underlying31 h10
  simp at e10
  subst e10
  exact ⟨⟨n0, n1, n2, n3, n4, n5, n6, n7, n8, n9, n10⟩, rfl⟩
end Go.Proofs.YthoaidfpgijbfaaGreat.Ho

/- Joined by program: AccS AccT AccU Goods HrA HrB. -/
import Derived.Test.YtckdpejdnejhfaaGreatZe
import Derived.Test.YtckdpejdnejhfaaGreatZj
import Derived.Test.YtckdpejdnejhfaaGreatZa
import Derived.Test.YtckdpejdnejhfaaGreatZd
import Derived.Test.YtckdpejdnejhfaaGreatZh
/- Account: Bring. (Printed by tools/gen_bring.py.) -/
set_option linter.all false
namespace Go.Proofs.YtckdpejdnejhfaaGreat.Ac
open Go.RowKit Go.Shelf Go.Maps
open Go.Proofs.YtckdpejdnejhfaaGreat.Vb
attribute [local go_sem] Oper.semAt_some

def Acc.bringE (a : Acc) (v : Int) : Int := if coin v ∧ coin (a.bud + v) then 0 else 2

set_option maxRecDepth 100000 in
set_option maxHeartbeats 4000000 in
theorem bring_live {b m n : Nat} {a : Acc} {w : World} (h : AccAt w b m n a) (ho : coin a.bud) {v : Int} :
    Calls Tryz.prog 116 #[.pointer (some ⟨b, 0, none⟩), .int .i64 v] w fun e w' =>
      (a.bringE v ≠ 0 ∧ e = .returned (.int .i64 (a.bringE v)) ∧ Below w.heap.size w w') ∨ (a.bringE v = 0 ∧ e = .returned (.int .i64 0) ∧ AccAt w' b m n (a.bring v) ∧ Chg (· = b) w w') := by
  obtain ⟨U, hU⟩ : ∃ U, U = (w.alloc (.cells #[.pointer (some ⟨b, 0, none⟩)] 136)).alloc (.cells #[.int .i64 v] 2) := ⟨_, rfl⟩
  have hB : Below w.heap.size w U := by rw [hU]; exact ((Below.refl _ _).alloc (Nat.le_refl _) _).alloc (by simp) _
  have b0 : Blk U w.heap.size 136 #[.pointer (some ⟨b, 0, none⟩)] := by rw [hU]; exact (Blk.new w _ _).alloc _
  have b1 : Blk U (w.heap.size + 1) 2 #[.int .i64 v] := by rw [hU]; exact Blk.new' _ _ (by simp)
  have hAU := h.grow hB
  have hU1 : Below U.heap.size U U.drew := (Below.refl _ _).drew
  have may := fun right => may_live (w := U.drew) (hAU.grow hU1) right 138 139 #[] #[.pointer (some ⟨w.heap.size + 1, 0, none⟩)] #[.pointer (some ⟨w.heap.size, 0, none⟩), .pointer (some ⟨w.heap.size + 1, 0, none⟩)] v v
    (enters_of Tryz.func138 (by kernel_rfl) rfl) (enters_of Tryz.func139 (by kernel_rfl) rfl) (by rw [Array.empty_append]; exact (bring1_any (b1.grow hU1)).mono fun e w' ⟨h1, h2⟩ => ⟨h1, by rw [h2]; exact Below.refl _ _⟩)
    (fun W => AccAt W b m n (a.bring v) ∧ Chg (· = b) w W ∧ Chg (· = b) U W) (fun _ hc _ W hW => (bring2_any ((hAU.grow hU1).grow hW) ho hc ((b0.grow hU1).grow hW) ((b1.grow hU1).grow hW)).mono fun e w' ⟨h1, h2, h3⟩ => ⟨h1, h2, (((Chg.of _ hB).grow hU1).grow hW).step h3 fun _ _ h => h, ((Chg.of _ hU1).grow hW).step h3 fun _ _ h => h⟩)
  have k0 : U.cell? ⟨w.heap.size, 0, none⟩ = some (.pointer (some ⟨b, 0, none⟩)) := b0.cell 0
  have k1 : U.cell? ⟨w.heap.size + 1, 0, none⟩ = some (.int .i64 v) := b1.cell 0
  have k2 : U.cell? ⟨b, 0, none⟩ = some (.int .i64 a.bud) := hAU.blk.cell 0
  have hlb := h.ltb
  have k2' : U.drew.cell? ⟨b, 0, none⟩ = some (.int .i64 a.bud) := k2
  have l0 := b0.lt
  have l1 := b1.lt
  have l2 := hAU.blk.lt
  have HB := Lib.hid hB
  have HV := Lib.hid (show AtP U (.pointer (some ⟨b, 0, none⟩)) (.live a) from ⟨_, _, _, rfl, hAU⟩)
  have HT := Lib.hid (show (Fm.live a).there = true from rfl)
  have MAY := Lib.hid may
  have HE := Lib.hid (show a.bringE v = if coin v ∧ coin (a.bud + v) then 0 else 2 from rfl)
  obtain ⟨en, hen⟩ : ∃ z, z = a.bringE v := ⟨_, rfl⟩
  rw [← hen] at HE ⊢
  obtain ⟨x, hx⟩ : ∃ z, z = a.bud := ⟨_, rfl⟩
  rw [← hx] at HE k2 k2' ho
  have HO := Lib.hid ho
  have HU := Lib.hid hU
  clear h hU hB b0 b1 hAU hU1 may hen hx ho
  by_cases c1 : coin v
  · have hwr := add_wrap HO.out c1
    have HD1 := Lib.hid (decide_eq_true c1)
    by_cases c2 : coin (x + v)
    · have HD2 := Lib.hid (decide_eq_true c2)
      have HEE := Lib.hid (HE.out.trans (if_pos ⟨c1, c2⟩))
      clear c1 c2
      go_enter Tryz.func116, Tryz.ntmps116
      go_wp2_with fail
      rw [← HU.out]
      refine wp_region_F (Chg (· = b) U) [] (by kernel_rfl) ((Chg.refl _ _).grow (Below.refl _ _).drew) (fun hS => ?_)
      have qq := Lib.hid fun (w' : World) (hSw : (Chg (· = b) U) w') => And.intro ((World.cell?_of_block (a := ⟨w.heap.size, 0, none⟩) (hSw.block w.heap.size l0 (by omega))).trans k0) <| (World.cell?_of_block (a := ⟨w.heap.size + 1, 0, none⟩) (hSw.block (w.heap.size + 1) l1 (by omega))).trans k1
      refine tl 0 hS qq ?_
      refine tl 1 hS qq ?_
      refine tl 16 hS qq ?_
      refine tl 17 hS qq ?_
      refine tl 18 hS qq ?_
      refine stp 2 fun K hK => ?_
      go_simp
      refine (there_any (HV.out.grow (Below.refl _ _).drew)).mono ?_
      rintro e w7 ⟨rfl, hw7⟩
      rw [hw7]
      clear hw7
      rw [HT.out]
      refine hK.out _ _ ?_ (fun hS => ?_)
      · exact hS
      clear hK K
      try simp only [Act.put, pb, pz, ps]
      refine tp 3 hS ?_
      refine tl 4 hS qq ?_
      refine stp 5 fun K hK => ?_
      go_simp
      refine (coins_any v _).mono ?_
      rintro e w7 ⟨rfl, hw7⟩
      rw [hw7]
      clear hw7
      rw [HD1.out]
      refine hK.out _ _ ?_ (fun hS => ?_)
      · exact hS
      clear hK K
      try simp only [Act.put, pb, pz, ps]
      refine tp 6 hS ?_
      refine tp 7 hS ?_
      refine tl 8 hS qq ?_
      refine tp 9 hS ?_
      refine tp 10 hS ?_
      refine tl 12 hS qq ?_
      refine stp 11 fun K hK => ?_
      go_simp
      refine hK.out _ _ ?_ (fun hS => ?_)
      · exact hS
      clear hK K
      try simp only [Act.put, pb, pz, ps]
      refine tp 13 hS ?_
      refine stp 14 fun K hK => ?_
      go_simp
      refine (coins_any (x + v) _).mono ?_
      rintro e w7 ⟨rfl, hw7⟩
      rw [hw7]
      clear hw7
      rw [HD2.out]
      refine hK.out _ _ ?_ (fun hS => ?_)
      · exact hS
      clear hK K
      try simp only [Act.put, pb, pz, ps]
      refine tp 15 hS ?_
      refine stp 19 fun K hK => ?_
      go_simp
      refine (MAY.out true).mono ?_
      rintro e w7 (⟨hr, rfl, hq⟩ | ⟨_, _, hlt, _, _⟩ | ⟨_, hc, hle, rfl, hq1, hq2, hq3⟩)
      · exact absurd HD1.out (by simp [hr.resolve_left (by simp)])
      · omega
      have HQ1 := Lib.hid hq1
      have HQ2 := Lib.hid hq2
      clear hc hle hq1 hq2
      refine hK.out _ _ ?_ (fun hS => ?_)
      · exact hq3
      clear hK K
      try simp only [Act.put, pb, pz, ps]
      refine tp 20 hS ?_
      refine wpAnyF_done (by kernel_rfl) ?_ _
      go_wp2_with fail
      go_ret
      exact .inr ⟨HEE.out, rfl, HQ1.out, HQ2.out⟩

    · have HD2 := Lib.hid (decide_eq_false c2)
      have HEE := Lib.hid (HE.out.trans (if_neg (fun h => c2 h.2)))
      clear c1 c2
      go_enter Tryz.func116, Tryz.ntmps116
      go_wp2_with fail
      rw [← HU.out]
      refine wp_region_F (Below U.heap.size U) [] (by kernel_rfl) ((Below.refl _ _).drew) (fun hS => ?_)
      have qq := Lib.hid fun (w' : World) (hSw : (Below U.heap.size U) w') => And.intro ((hSw.cell (p := ⟨w.heap.size, 0, none⟩) l0).trans k0) <| And.intro ((hSw.cell (p := ⟨w.heap.size + 1, 0, none⟩) l1).trans k1) <| (hSw.cell (p := ⟨b, 0, none⟩) l2).trans k2
      refine tl 0 hS qq ?_
      refine tl 1 hS qq ?_
      refine tl 16 hS qq ?_
      refine tl 17 hS qq ?_
      refine tl 18 hS qq ?_
      refine stp 2 fun K hK => ?_
      go_simp
      refine (there_any (HV.out.grow hS)).mono ?_
      rintro e w7 ⟨rfl, hw7⟩
      rw [hw7]
      clear hw7
      rw [HT.out]
      refine hK.out _ _ ?_ (fun hS => ?_)
      · exact hS
      clear hK K
      try simp only [Act.put, pb, pz, ps]
      refine tp 3 hS ?_
      refine tl 4 hS qq ?_
      refine stp 5 fun K hK => ?_
      go_simp
      refine (coins_any v _).mono ?_
      rintro e w7 ⟨rfl, hw7⟩
      rw [hw7]
      clear hw7
      rw [HD1.out]
      refine hK.out _ _ ?_ (fun hS => ?_)
      · exact hS
      clear hK K
      try simp only [Act.put, pb, pz, ps]
      refine tp 6 hS ?_
      refine tp 7 hS ?_
      refine tl 8 hS qq ?_
      refine tp 9 hS ?_
      refine tp 10 hS ?_
      refine tl 11 hS qq ?_
      refine tl 12 hS qq ?_
      refine tp 13 hS ?_
      refine stp 14 fun K hK => ?_
      go_simp
      refine (coins_any (x + v) _).mono ?_
      rintro e w7 ⟨rfl, hw7⟩
      rw [hw7]
      clear hw7
      rw [HD2.out]
      refine hK.out _ _ ?_ (fun hS => ?_)
      · exact hS
      clear hK K
      try simp only [Act.put, pb, pz, ps]
      refine tp 15 hS ?_
      refine stp 19 fun K hK => ?_
      go_simp
      refine (MAY.out false).mono ?_
      rintro e w7 (⟨hr, rfl, hq⟩ | ⟨hf, _⟩ | ⟨hf, _⟩)
      rotate_left
      · cases hf
      · cases hf
      rw [hq]
      clear hq hr
      refine hK.out _ _ ?_ (fun hS => ?_)
      · exact hS
      clear hK K
      try simp only [Act.put, pb, pz, ps]
      refine tp 20 hS ?_
      refine wpAnyF_done (by kernel_rfl) ?_ _
      go_wp2_with fail
      go_ret
      exact .inl ⟨by rw [HEE.out]; decide, by rw [HEE.out]; rfl, HB.out.trans (hS.mono HB.out.size)⟩

  · have HD1 := Lib.hid (decide_eq_false c1)
    have HEE := Lib.hid (HE.out.trans (if_neg (fun h => c1 h.1)))
    clear c1
    go_enter Tryz.func116, Tryz.ntmps116
    go_wp2_with fail
    rw [← HU.out]
    refine wp_region_F (Below U.heap.size U) [] (by kernel_rfl) ((Below.refl _ _).drew) (fun hS => ?_)
    have qq := Lib.hid fun (w' : World) (hSw : (Below U.heap.size U) w') => And.intro ((hSw.cell (p := ⟨w.heap.size, 0, none⟩) l0).trans k0) <| And.intro ((hSw.cell (p := ⟨w.heap.size + 1, 0, none⟩) l1).trans k1) <| (hSw.cell (p := ⟨b, 0, none⟩) l2).trans k2
    refine tl 0 hS qq ?_
    refine tl 1 hS qq ?_
    refine tl 16 hS qq ?_
    refine tl 17 hS qq ?_
    refine tl 18 hS qq ?_
    refine stp 2 fun K hK => ?_
    go_simp
    refine (there_any (HV.out.grow hS)).mono ?_
    rintro e w7 ⟨rfl, hw7⟩
    rw [hw7]
    clear hw7
    rw [HT.out]
    refine hK.out _ _ ?_ (fun hS => ?_)
    · exact hS
    clear hK K
    try simp only [Act.put, pb, pz, ps]
    refine tp 3 hS ?_
    refine tl 4 hS qq ?_
    refine stp 5 fun K hK => ?_
    go_simp
    refine (coins_any v _).mono ?_
    rintro e w7 ⟨rfl, hw7⟩
    rw [hw7]
    clear hw7
    rw [HD1.out]
    refine hK.out _ _ ?_ (fun hS => ?_)
    · exact hS
    clear hK K
    try simp only [Act.put, pb, pz, ps]
    refine tp 6 hS ?_
    refine tp 7 hS ?_
    refine toff 8 hS ?_
    refine toff 9 hS ?_
    refine toff 10 hS ?_
    refine toff 11 hS ?_
    refine toff 12 hS ?_
    refine toff 13 hS ?_
    refine toff 14 hS ?_
    refine tp 15 hS ?_
    refine stp 19 fun K hK => ?_
    go_simp
    refine (MAY.out false).mono ?_
    rintro e w7 (⟨hr, rfl, hq⟩ | ⟨hf, _⟩ | ⟨hf, _⟩)
    rotate_left
    · cases hf
    · cases hf
    rw [hq]
    clear hq hr
    refine hK.out _ _ ?_ (fun hS => ?_)
    · exact hS
    clear hK K
    try simp only [Act.put, pb, pz, ps]
    refine tp 20 hS ?_
    refine wpAnyF_done (by kernel_rfl) ?_ _
    go_wp2_with fail
    go_ret
    exact .inl ⟨by rw [HEE.out]; decide, by rw [HEE.out]; rfl, HB.out.trans (hS.mono HB.out.size)⟩
end Go.Proofs.YtckdpejdnejhfaaGreat.Ac

/- Account: known. (Printed by tools/gen_known.py.) -/
namespace Go.Proofs.YtckdpejdnejhfaaGreat.Ac
open Go.RowKit Go.Shelf Go.Maps
open Go.Proofs.YtckdpejdnejhfaaGreat.Vb
attribute [local go_sem] Oper.semAt_some

end Go.Proofs.YtckdpejdnejhfaaGreat.Ac

/- Account: steps keep an account in order. -/
namespace Go.Proofs.YtckdpejdnejhfaaGreat.Ac
open Go.RowKit Go.Shelf Go.Maps
open Go.Proofs.YtckdpejdnejhfaaGreat.Vb

theorem each_set {M : HM} (h : ∀ p ∈ M, 0 ≤ p.1 ∧ p.1 ≤ 9223372036854775807 ∧ 1 ≤ p.2) {x v : Int} (h0 : 0 ≤ x) (h1 : x ≤ 9223372036854775807) (hv : 0 ≤ v) : ∀ p ∈ setM M x v, 0 ≤ p.1 ∧ p.1 ≤ 9223372036854775807 ∧ 1 ≤ p.2 := by
  unfold setM
  split
  · exact fun p hp => h p (List.mem_filter.1 hp).1
  · intro p hp
    rcases List.mem_cons.1 ((insM_perm _ _).mem_iff.1 hp) with rfl | hp
    · exact ⟨h0, h1, by simp only; omega⟩
    · exact h p (List.mem_filter.1 hp).1
theorem release_keeps {a : Acc} (ho : a.Ok) (hf : a.Fine) {x : Int} (h0 : 0 ≤ x) (h1 : x ≤ 9223372036854775807) : (a.set x 0).Ok ∧ (a.set x 0).Fine := by
  have hs := sum_set x 0 ho.rise
  have ha := at_bound ho.h x
  have hsum := ho.sum
  unfold Acc.Fine at *
  refine ⟨⟨ho.bud, ho.sp, rising_set x 0 ho.rise, each_set (v := 0) ho.each h0 h1 (Int.le_refl _), ?_⟩, ?_⟩
  · show sumM (setM a.M x 0) ≤ _
    omega
  · show a.sp + sumM (setM a.M x 0) ≤ a.bud
    omega
theorem takeE_zero {a : Acc} {v : Int} (h : a.takeE v = 0) : coin v ∧ v ≤ a.free := by
  unfold Acc.takeE at h
  split at h
  · omega
  · rename_i hn
    split at h
    · omega
    · exact ⟨Decidable.of_not_not hn, by omega⟩
theorem take_keeps {a : Acc} (ho : a.Ok) (_ : a.Fine) {v : Int} (h : a.takeE v = 0) : (a.take v).Ok ∧ (a.take v).Fine := by
  obtain ⟨hc, hle⟩ := takeE_zero h
  unfold Acc.free at hle
  have hb := ho.bud.2
  have hsp := ho.sp.1
  have hnn := ho.h.nn
  unfold Acc.Fine at *
  refine ⟨⟨ho.bud, ⟨?_, ?_⟩, ho.rise, ho.each, ho.sum⟩, ?_⟩
  · show 0 ≤ a.sp + v
    have := hc.1
    omega
  · show a.sp + v ≤ _
    omega
  · show a.sp + v + sumM a.M ≤ a.bud
    omega
end Go.Proofs.YtckdpejdnejhfaaGreat.Ac

/- Sets of goods, offers, as the program has them. -/
namespace Go.Proofs.YtckdpejdnejhfaaGreat.Vb
open Go.RowKit

/-- a without b, as numbers. -/
def andNot (a b : Nat) : Nat := a &&& (4294967295 - b)
/-- goods.All's answer -/
def allOf (n : Int) : Nat := if n < 0 ∨ 32 < n then 0 else 2 ^ n.toNat - 1
/-- an offer -/
structure Off where
  g : Nat
  c : Int
def Off.wf (o : Off) : Prop := o.g < 4294967296 ∧ -9223372036854775808 ≤ o.c ∧ o.c ≤ 9223372036854775807
def Off.cells (o : Off) : List Value := [.int .u32 o.g, .int .i64 o.c]
def Off.val (o : Off) : Value := .agg #[.int .u32 o.g, .int .i64 o.c]
def badB (all : Nat) (o : Off) : Bool := o.g == 0 || !(andNot o.g all == 0) || decide (o.c < 1) || decide (1099511627776 < o.c)

def Off.all (l : List Off) : List Value := l.flatMap Off.cells
/-- The slice v reads as the offers l. -/
def Offs (w : World) (R : Nat → Prop) (v : Value) (l : List Off) : Prop := Sl w R v l.length 2 (Off.all l) ∧ ∀ o ∈ l, o.wf

theorem Offs.grow {w w' : World} {R : Nat → Prop} {v : Value} {l : List Off} (h : Offs w R v l) (hb : Below w.heap.size w w') : Offs w' R v l := ⟨h.1.grow hb, h.2⟩
/-- The first offer that may not be, from k on. -/
def badAt (all : Nat) : List Off → Option Nat
  | [] => none
  | o :: l => if badB all o then some 0 else (badAt all l).map (· + 1)
end Go.Proofs.YtckdpejdnejhfaaGreat.Vb

/- House: the house plainly, and in memory. -/
namespace Go.Proofs.YtckdpejdnejhfaaGreat.Ho
open Go.RowKit
open Go.Proofs.YtckdpejdnejhfaaGreat.Vb Go.Proofs.YtckdpejdnejhfaaGreat.Ac

structure Stand where
  bidder : Int
  offers : List Off
  held : Int
structure LotS where
  put : LotR
  closes : Int
  closed : Bool
  stands : List Stand
  rise : RiseR
  price : Int
structure OrderR where
  kind : Int
  name : ByteArray
  coins : Int
  bidder : Int
  lot : Int
  put : LotR
  offers : List Off
  tick : Int
structure SaleR where
  (number lot bidder coins goods count tick : Int)
  deriving DecidableEq
structure House where
  names : List ByteArray
  accs : List Acc
  lots : List LotS
  now : Int
  book : List OrderR
  sales : List SaleR
  due : Int → Option Int
def SaleR.cells (s : SaleR) : List Value := [.int .i64 s.number, .int .i64 s.lot, .int .i64 s.bidder, .int .i64 s.coins, .int .u32 s.goods, .int .i64 s.count, .int .i64 s.tick]
def OrderR.cells (o : OrderR) (v : Value) : List Value := [.int .i64 o.kind, .string o.name, .int .i64 o.coins, .int .i64 o.bidder, .int .i64 o.lot] ++ o.put.cells ++ [v, .int .i64 o.tick]
def Stand.cells (s : Stand) (v : Value) : List Value := [.int .i64 s.bidder, v, .int .i64 s.held]
def LotS.cells (l : LotS) (v : Value) : List Value := l.put.cells ++ [kindV l.put.kind, .int .i64 l.closes, .bool l.closed, v] ++ l.rise.cells ++ [.int .i64 l.price]
/-- at which tick each lot that has not closed is due -/
def dueOf (ls : List LotS) : Int → Option Int := fun n => if n < 0 then none else match ls[n.toNat]? with | some l => if l.closed then none else some l.closes | none => none

/-- whose a block is: the house's own, shared by all (never written), no one's -/
inductive Part where
  | hs | names | accs | acc (i : Nat) | lots | lot (n : Nat) | cal | book | sales | old | no
  deriving DecidableEq
/-- rows of things with offers: what the kth one's slice reads as -/
def OffsAt (W : World) (T : Nat → Part) (vo : Nat → Value) (os : List (List Off)) : Prop := ∀ k l, os[k]? = some l → Offs W (fun b => T b = .old) (vo k) l
def ptrs (f : Nat → Nat) (n : Nat) : List Value := (List.range n).map fun i => .pointer (some ⟨f i, 0, none⟩)
def AccsAt (W : World) (T : Nat → Part) (v : Value) (K : Nat) (acs : List Acc) : Prop :=
  ∃ ba ma : Nat → Nat, RowAt W (fun b => T b = .accs) 136 1 v acs.length (ptrs ba acs.length) ∧ ∀ i a, acs[i]? = some a → AccAt W (ba i) (ma i) K a ∧ T (ba i) = .acc i ∧ T (ma i) = .acc i
def standCells (ss : List Stand) (vo : Nat → Value) : List Value := (ss.mapIdx fun k s => s.cells (vo k)).flatten
def StandsAt (W : World) (T : Nat → Part) (R : Nat → Prop) (v : Value) (ss : List Stand) : Prop :=
  ∃ vo, RowAt W R 188 3 v ss.length (standCells ss vo) ∧ OffsAt W T vo (ss.map (·.offers))
def LotAt (W : World) (T : Nat → Part) (n b : Nat) (l : LotS) : Prop :=
  ∃ v, T b = .lot n ∧ Blk W b 145 (l.cells v).toArray ∧ StandsAt W T (fun x => T x = .lot n ∧ x ≠ b) v l.stands
def LotsAt (W : World) (T : Nat → Part) (v : Value) (ls : List LotS) : Prop :=
  ∃ bl : Nat → Nat, RowAt W (fun b => T b = .lots) 138 1 v ls.length (ptrs bl ls.length) ∧ ∀ n l, ls[n]? = some l → LotAt W T n (bl n) l
def orderCells (os : List OrderR) (vo : Nat → Value) : List Value := (os.mapIdx fun k o => o.cells (vo k)).flatten
def BookAt (W : World) (T : Nat → Part) (v : Value) (os : List OrderR) : Prop :=
  ∃ vo, RowAt W (fun b => T b = .book) 61 18 v os.length (orderCells os vo) ∧ OffsAt W T vo (os.map (·.offers))
def SalesAt (W : World) (T : Nat → Part) (v : Value) (ss : List SaleR) : Prop := RowAt W (fun b => T b = .sales) 151 7 v ss.length (ss.flatMap SaleR.cells)
/-- a house -/
structure HouseAt (W : World) (T : Nat → Part) (h pn pc : Nat) (va vl vb vs : Value) (K : Nat) (H : House) : Prop where
  top : T h = .hs
  blk : Blk W h 83 #[.pointer (some ⟨pn, 0, none⟩), va, vl, .pointer (some ⟨pc, 0, none⟩), vb, vs]
  names : NamesAt W (fun b => T b = .names) pn 4096 H.names
  accs : AccsAt W T va K H.accs
  lots : LotsAt W T vl H.lots
  cal : CalAt W (fun b => T b = .cal) pc H.now H.due
  book : BookAt W T vb H.book
  sales : SalesAt W T vs H.sales
  out : ∀ b, W.heap.size ≤ b → T b = .no
section
variable {W W' : World} {T T' : Nat → Part} {X : Nat → Prop} {v : Value}
theorem Offs.chg {R : Nat → Prop} {l : List Off} (h : Offs W R v l) (hc : Chg X W W') (hX : ∀ b, b < W.heap.size → R b → ¬ X b) : Offs W' R v l := ⟨h.1.keep hc.size fun b hb hr => hc.block b hb (hX b hb hr), h.2⟩
theorem Offs.mono {R R' : Nat → Prop} {l : List Off} (h : Offs W R v l) (hR : ∀ b, b < W.heap.size → R b → R' b) : Offs W R' v l := ⟨h.1.mono hR, h.2⟩
theorem OffsAt.step {vo : Nat → Value} {os : List (List Off)} (h : OffsAt W T vo os) (hc : Chg X W W') (hX : ∀ b, T b = .old → ¬ X b) (hT : ∀ b, b < W.heap.size → T' b = T b) : OffsAt W' T' vo os := fun k l hk => by
  have h1 := Offs.mono (R' := fun b => T b = .old ∧ b < W.heap.size) (h k l hk) fun b hb hr => ⟨hr, hb⟩
  exact Offs.mono (Offs.chg h1 hc fun b _ hr => hX b hr.1) fun b _ hr => (hT b hr.2).trans hr.1
theorem RowAt.step {P : Part} {e : TypeId} {sz n : Nat} {xs : List Value} (h : RowAt W (fun b => T b = P) e sz v n xs) (hc : Chg X W W') (hX : ∀ b, T b = P → ¬ X b) (hT : ∀ b, b < W.heap.size → T' b = T b) : RowAt W' (fun b => T' b = P) e sz v n xs := by
  have h1 := h.mono (R' := fun b => T b = P ∧ b < W.heap.size) fun b hb hr => ⟨hr, hb⟩
  exact (h1.chg hc fun b _ hr => hX b hr.1).mono fun b _ hr => (hT b hr.2).trans hr.1
theorem AccsAt.step {K : Nat} {acs : List Acc} (h : AccsAt W T v K acs) (hc : Chg X W W') (hX : ∀ b, T b = .accs ∨ (∃ i, T b = .acc i) → ¬ X b) (hT : ∀ b, b < W.heap.size → T' b = T b) : AccsAt W' T' v K acs := by
  obtain ⟨ba, ma, h1, h2⟩ := h
  refine ⟨ba, ma, h1.step hc (fun b hb => hX b (.inl hb)) hT, fun i a hi => ?_⟩
  obtain ⟨h3, h4, h5⟩ := h2 i a hi
  exact ⟨h3.chg hc (hX _ (.inr ⟨i, h4⟩)) (hX _ (.inr ⟨i, h5⟩)), (hT _ h3.ltb).trans h4, (hT _ h3.ltm).trans h5⟩
theorem AccsAt.mono {K K' : Nat} {acs : List Acc} (h : AccsAt W T v K acs) (hK : K ≤ K') : AccsAt W T v K' acs := by
  obtain ⟨ba, ma, h1, h2⟩ := h
  exact ⟨ba, ma, h1, fun i a hi => ⟨(h2 i a hi).1.mono hK, (h2 i a hi).2⟩⟩
theorem StandsAt.step {n b : Nat} {ss : List Stand} (h : StandsAt W T (fun x => T x = .lot n ∧ x ≠ b) v ss) (hc : Chg X W W') (hX : ∀ x, T x = .lot n ∨ T x = .old → ¬ X x) (hT : ∀ x, x < W.heap.size → T' x = T x) : StandsAt W' T' (fun x => T' x = .lot n ∧ x ≠ b) v ss := by
  obtain ⟨vo, h1, h2⟩ := h
  refine ⟨vo, ?_, h2.step hc (fun b hb => hX b (.inr hb)) hT⟩
  have h3 := h1.mono (R' := fun x => (T x = .lot n ∧ x ≠ b) ∧ x < W.heap.size) fun b hb hr => ⟨hr, hb⟩
  exact (h3.chg hc fun b _ hr => hX b (.inl hr.1.1)).mono fun b _ hr => ⟨(hT b hr.2).trans hr.1.1, hr.1.2⟩
theorem LotAt.step {n b : Nat} {l : LotS} (h : LotAt W T n b l) (hc : Chg X W W') (hX : ∀ x, T x = .lot n ∨ T x = .old → ¬ X x) (hT : ∀ x, x < W.heap.size → T' x = T x) : LotAt W' T' n b l := by
  obtain ⟨v, h1, h2, h3⟩ := h
  exact ⟨v, (hT b h2.lt).trans h1, h2.chg hc (hX b (.inl h1)), h3.step hc hX hT⟩
theorem LotsAt.step {ls : List LotS} (h : LotsAt W T v ls) (hc : Chg X W W') (hX : ∀ x, T x = .lots ∨ (∃ n, T x = .lot n) ∨ T x = .old → ¬ X x) (hT : ∀ x, x < W.heap.size → T' x = T x) : LotsAt W' T' v ls := by
  obtain ⟨bl, h1, h2⟩ := h
  exact ⟨bl, h1.step hc (fun b hb => hX b (.inl hb)) hT, fun n l hn => (h2 n l hn).step hc (fun x hx => hX x (hx.elim (fun e => .inr (.inl ⟨n, e⟩)) fun e => .inr (.inr e))) hT⟩
theorem BookAt.step {os : List OrderR} (h : BookAt W T v os) (hc : Chg X W W') (hX : ∀ x, T x = .book ∨ T x = .old → ¬ X x) (hT : ∀ x, x < W.heap.size → T' x = T x) : BookAt W' T' v os := by
  obtain ⟨vo, h1, h2⟩ := h
  exact ⟨vo, h1.step hc (fun b hb => hX b (.inl hb)) hT, h2.step hc (fun b hb => hX b (.inr hb)) hT⟩
theorem SalesAt.step {ss : List SaleR} (h : SalesAt W T v ss) (hc : Chg X W W') (hX : ∀ x, T x = .sales → ¬ X x) (hT : ∀ x, x < W.heap.size → T' x = T x) : SalesAt W' T' v ss := RowAt.step h hc hX hT
theorem NamesAt.step {p : Nat} {most : Int} {ns : List ByteArray} (h : NamesAt W (fun b => T b = .names) p most ns) (hc : Chg X W W') (hX : ∀ x, T x = .names → ¬ X x) (hT : ∀ x, x < W.heap.size → T' x = T x) : NamesAt W' (fun b => T' b = .names) p most ns := by
  have h1 := h.mono (R' := fun b => T b = .names ∧ b < W.heap.size) fun b hb hr => ⟨hr, hb⟩
  exact (h1.chg hc fun b _ hr => hX b hr.1).mono fun b _ hr => (hT b hr.2).trans hr.1
theorem CalAt.step {p : Nat} {now : Int} {D : Int → Option Int} (h : CalAt W (fun b => T b = .cal) p now D) (hc : Chg X W W') (hX : ∀ x, T x = .cal → ¬ X x) (hT : ∀ x, x < W.heap.size → T' x = T x) : CalAt W' (fun b => T' b = .cal) p now D :=
  (h.own.chg hc fun b _ hr => hX b hr.1).mono fun b _ hr => (hT b hr.2).trans hr.1
end
end Go.Proofs.YtckdpejdnejhfaaGreat.Ho

/- House: a house in memory that moves on; put, refused. -/
namespace Go.Proofs.YtckdpejdnejhfaaGreat.Ho
open Go.RowKit
open Go.Proofs.YtckdpejdnejhfaaGreat.Vb Go.Proofs.YtckdpejdnejhfaaGreat.Ac

def HouseIn (W : World) (T : Nat → Part) (h K : Nat) (H : House) : Prop := ∃ pn pc va vl vb vs, HouseAt W T h pn pc va vl vb vs K H
def Own (T : Nat → Part) : Nat → Prop := fun b => T b ≠ .old ∧ T b ≠ .no
structure Moves (W : World) (T : Nat → Part) (W' : World) (T' : Nat → Part) : Prop where
  chg : Chg (Own T) W W'
  tag : ∀ b, b < W.heap.size → T' b = T b
theorem Moves.trans {W W1 W2 : World} {T T1 T2 : Nat → Part} (h : Moves W T W1 T1) (k : Moves W1 T1 W2 T2) : Moves W T W2 T2 :=
  ⟨h.chg.step k.chg fun b hb ho => by unfold Own at *; rwa [h.tag b hb] at ho, fun b hb => (k.tag b (Nat.lt_of_lt_of_le hb h.chg.size)).trans (h.tag b hb)⟩
section
variable {W W' : World} {T T' : Nat → Part} {h pn pc K : Nat} {va vl vb vs : Value} {H : House}
/-- nothing of the house turns -/
theorem HouseAt.keep {X : Nat → Prop} (hH : HouseAt W T h pn pc va vl vb vs K H) (hc : Chg X W W') (hX : ∀ b, T b ≠ .no → ¬ X b) : HouseAt W' T h pn pc va vl vb vs K H := by
  have hn : ∀ b P, T b = P → P ≠ .no → T b ≠ .no := fun b P e hp e2 => hp (e ▸ e2)
  refine ⟨hH.top, hH.blk.chg hc (hX h (hn h _ hH.top (by simp))), hH.names.step hc (fun b e => hX b (hn b _ e (by simp))) (fun _ _ => rfl), hH.accs.step hc (fun b e => hX b ?_) (fun _ _ => rfl), hH.lots.step hc (fun b e => hX b ?_) (fun _ _ => rfl),
    hH.cal.step hc (fun b e => hX b (hn b _ e (by simp))) (fun _ _ => rfl), hH.book.step hc (fun b e => hX b ?_) (fun _ _ => rfl), hH.sales.step hc (fun b e => hX b (hn b _ e (by simp))) (fun _ _ => rfl), fun b hb => hH.out b (Nat.le_trans hc.size hb)⟩
  · rcases e with e | ⟨i, e⟩ <;> exact hn b _ e (by simp)
  · rcases e with e | ⟨i, e⟩ | e <;> exact hn b _ e (by simp)
  · rcases e with e | e <;> exact hn b _ e (by simp)
theorem HouseAt.grow (hH : HouseAt W T h pn pc va vl vb vs K H) (hb : Below W.heap.size W W') : HouseAt W' T h pn pc va vl vb vs K H := hH.keep (Chg.of (fun _ => False) hb) fun _ _ => id
theorem HouseIn.grow (hH : HouseIn W T h K H) (hb : Below W.heap.size W W') : HouseIn W' T h K H := by
  obtain ⟨pn, pc, va, vl, vb, vs, hH⟩ := hH
  exact ⟨pn, pc, va, vl, vb, vs, hH.grow hb⟩
theorem HouseIn.keep {X : Nat → Prop} (hH : HouseIn W T h K H) (hc : Chg X W W') (hX : ∀ b, T b ≠ .no → ¬ X b) : HouseIn W' T h K H := by
  obtain ⟨pn, pc, va, vl, vb, vs, hH⟩ := hH
  exact ⟨pn, pc, va, vl, vb, vs, hH.keep hc hX⟩
theorem HouseAt.cells (hH : HouseAt W T h pn pc va vl vb vs K H) : W.cell? ⟨h, 0, none⟩ = some (.pointer (some ⟨pn, 0, none⟩)) ∧ W.cell? ⟨h, 1, none⟩ = some va ∧ W.cell? ⟨h, 2, none⟩ = some vl ∧ W.cell? ⟨h, 3, none⟩ = some (.pointer (some ⟨pc, 0, none⟩)) ∧ W.cell? ⟨h, 4, none⟩ = some vb ∧ W.cell? ⟨h, 5, none⟩ = some vs ∧ h < W.heap.size :=
  ⟨hH.blk.cell 0, hH.blk.cell 1, hH.blk.cell 2, hH.blk.cell 3, hH.blk.cell 4, hH.blk.cell 5, hH.blk.lt⟩
theorem AccsAt.form {acs : List Acc} (hA : AccsAt W T va K acs) : ∃ A c, va = .slice A acs.length c := by
  obtain ⟨_, _, h, _⟩ := hA
  exact h.form
end
def newLot (p : LotR) : LotS := ⟨p, p.closes, false, [], ⟨-1, 0, 0, p.closes⟩, 0⟩
def putE (H : House) (p : LotR) : Int := if lotOk p = false then 2 else if p.opens < H.now then 6 else if H.lots.length = 4096 then 3 else 0
def putH (H : House) (p : LotR) : House := { H with lots := H.lots ++ [newLot p], due := upd H.due H.lots.length (some p.closes) }
abbrev OrderR.agg (o : OrderR) (v : Value) : Value := .agg (o.cells v).toArray
end Go.Proofs.YtckdpejdnejhfaaGreat.Ho

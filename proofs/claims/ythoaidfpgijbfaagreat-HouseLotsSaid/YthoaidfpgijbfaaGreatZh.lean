import Derived.Test.YthoaidfpgijbfaaGreatZg
import Derived.Test.YthoaidfpgijbfaaGreatZa
import Derived.Test.YthoaidfpgijbfaaGreatZd
import Derived.Test.YthoaidfpgijbfaaGreatZe
namespace Go.Proofs.YthoaidfpgijbfaaGreat.Ac
open Go.RowKit Go.Shelf Go.Maps
open Go.Proofs.YthoaidfpgijbfaaGreat.Vb
attribute [local go_sem] Oper.semAt_some
def Acc.bringE (a : Acc) (v : Int) : Int := if coin v ∧ coin (a.bud + v) then 0 else 2
end Go.Proofs.YthoaidfpgijbfaaGreat.Ac
namespace Go.Proofs.YthoaidfpgijbfaaGreat.Ac
open Go.RowKit Go.Shelf Go.Maps
open Go.Proofs.YthoaidfpgijbfaaGreat.Vb
attribute [local go_sem] Oper.semAt_some
def kA0 : Acc := ⟨10, 0, []⟩
def kA1 : Acc := ⟨10, 0, [(0, 6)]⟩
def kA2 : Acc := ⟨10, 0, [(0, 5)]⟩
def kA3 : Acc := ⟨10, 0, [(0, 5), (1, 5)]⟩
def kA4 : Acc := ⟨10, 3, [(1, 5)]⟩
def kA5 : Acc := ⟨10, 3, []⟩
end Go.Proofs.YthoaidfpgijbfaaGreat.Ac
namespace Go.Proofs.YthoaidfpgijbfaaGreat.Ac
open Go.RowKit Go.Shelf Go.Maps
open Go.Proofs.YthoaidfpgijbfaaGreat.Vb
theorem each_set {M : HM} (h : ∀ p ∈ M, 0 ≤ p.1 ∧ p.1 ≤ 9223372036854775807 ∧ 1 ≤ p.2) {x v : Int} (h0 : 0 ≤ x) (h1 : x ≤ 9223372036854775807) (hv : 0 ≤ v) : ∀ p ∈ setM M x v, 0 ≤ p.1 ∧ p.1 ≤ 9223372036854775807 ∧ 1 ≤ p.2 := by
  unfold setM
  split
  · exact fun p hp => h p (List.mem_filter.1 hp).1
  · intro p hp
    rcases List.mem_cons.1 ((insM_perm _ _).mem_iff.1 hp) with rfl | hp
    · exact ⟨h0, h1, by simp only; omega⟩
    · exact h p (List.mem_filter.1 hp).1
theorem release_keeps {a : Acc} (ho : a.Ok) (hf : a.Fine) {x : Int} (h0 : 0 ≤ x) (h1 : x ≤ 9223372036854775807) : (a.set x 0).Ok ∧ (a.set x 0).Fine := by
  have hs := sum_set x 0 ho.rise
  have ha := at_bound ho.h x
  have hsum := ho.sum
  unfold Acc.Fine at *
  refine ⟨⟨ho.bud, ho.sp, rising_set x 0 ho.rise, each_set (v := 0) ho.each h0 h1 (Int.le_refl _), ?_⟩, ?_⟩
  · show sumM (setM a.M x 0) ≤ _
    omega
  · show a.sp + sumM (setM a.M x 0) ≤ a.bud
    omega
theorem takeE_zero {a : Acc} {v : Int} (h : a.takeE v = 0) : coin v ∧ v ≤ a.free := by
  unfold Acc.takeE at h
  split at h
  · omega
  · rename_i hn
    split at h
    · omega
    · exact ⟨Decidable.of_not_not hn, by omega⟩
theorem take_keeps {a : Acc} (ho : a.Ok) (_ : a.Fine) {v : Int} (h : a.takeE v = 0) : (a.take v).Ok ∧ (a.take v).Fine := by
  obtain ⟨hc, hle⟩ := takeE_zero h
  unfold Acc.free at hle
  have hb := ho.bud.2
  have hsp := ho.sp.1
  have hnn := ho.h.nn
  unfold Acc.Fine at *
  refine ⟨⟨ho.bud, ⟨?_, ?_⟩, ho.rise, ho.each, ho.sum⟩, ?_⟩
  · show 0 ≤ a.sp + v
    have := hc.1
    omega
  · show a.sp + v ≤ _
    omega
  · show a.sp + v + sumM a.M ≤ a.bud
    omega
end Go.Proofs.YthoaidfpgijbfaaGreat.Ac
namespace Go.Proofs.YthoaidfpgijbfaaGreat.Vb
open Go.RowKit
def andNot (a b : Nat) : Nat := a &&& (4294967295 - b)
def allOf (n : Int) : Nat := if n < 0 ∨ 32 < n then 0 else 2 ^ n.toNat - 1
def allErr (n : Int) : Int := if n < 0 ∨ 32 < n then 2 else 0
structure Off where
  g : Nat
  c : Int
def Off.wf (o : Off) : Prop := o.g < 4294967296 ∧ -9223372036854775808 ≤ o.c ∧ o.c ≤ 9223372036854775807
def Off.cells (o : Off) : List Value := [.int .u32 o.g, .int .i64 o.c]
def Off.val (o : Off) : Value := .agg #[.int .u32 o.g, .int .i64 o.c]
def badB (all : Nat) (o : Off) : Bool := o.g == 0 || !(andNot o.g all == 0) || decide (o.c < 1) || decide (1099511627776 < o.c)
def Off.all (l : List Off) : List Value := l.flatMap Off.cells
def Offs (w : World) (R : Nat → Prop) (v : Value) (l : List Off) : Prop := Sl w R v l.length 2 (Off.all l) ∧ ∀ o ∈ l, o.wf
theorem Offs.grow {w w' : World} {R : Nat → Prop} {v : Value} {l : List Off} (h : Offs w R v l) (hb : Below w.heap.size w w') : Offs w' R v l := ⟨h.1.grow hb, h.2⟩
def badAt (all : Nat) : List Off → Option Nat
  | [] => none
  | o :: l => if badB all o then some 0 else (badAt all l).map (· + 1)
def badInt (all : Nat) (l : List Off) : Int := match badAt all l with | some k => k | none => -1
end Go.Proofs.YthoaidfpgijbfaaGreat.Vb
namespace Go.Proofs.YthoaidfpgijbfaaGreat.Ho
open Go.RowKit
open Go.Proofs.YthoaidfpgijbfaaGreat.Vb Go.Proofs.YthoaidfpgijbfaaGreat.Ac
structure Stand where
  bidder : Int
  offers : List Off
  held : Int
structure LotS where
  put : LotR
  closes : Int
  closed : Bool
  stands : List Stand
  rise : RiseR
  price : Int
structure OrderR where
  kind : Int
  name : ByteArray
  coins : Int
  bidder : Int
  lot : Int
  put : LotR
  offers : List Off
  tick : Int
structure SaleR where
  (number lot bidder coins goods count tick : Int)
  deriving DecidableEq
structure House where
  names : List ByteArray
  accs : List Acc
  lots : List LotS
  now : Int
  book : List OrderR
  sales : List SaleR
  due : Int → Option Int
def SaleR.cells (s : SaleR) : List Value := [.int .i64 s.number, .int .i64 s.lot, .int .i64 s.bidder, .int .i64 s.coins, .int .u32 s.goods, .int .i64 s.count, .int .i64 s.tick]
def OrderR.cells (o : OrderR) (v : Value) : List Value := [.int .i64 o.kind, .string o.name, .int .i64 o.coins, .int .i64 o.bidder, .int .i64 o.lot] ++ o.put.cells ++ [v, .int .i64 o.tick]
def Stand.cells (s : Stand) (v : Value) : List Value := [.int .i64 s.bidder, v, .int .i64 s.held]
def LotS.cells (l : LotS) (v : Value) : List Value := l.put.cells ++ [kindV l.put.kind, .int .i64 l.closes, .bool l.closed, v] ++ l.rise.cells ++ [.int .i64 l.price]
def dueOf (ls : List LotS) : Int → Option Int := fun n => if n < 0 then none else match ls[n.toNat]? with | some l => if l.closed then none else some l.closes | none => none
inductive Part where
  | hs | names | accs | acc (i : Nat) | lots | lot (n : Nat) | cal | book | sales | old | no
  deriving DecidableEq
def OffsAt (W : World) (T : Nat → Part) (vo : Nat → Value) (os : List (List Off)) : Prop := ∀ k l, os[k]? = some l → Offs W (fun b => T b = .old) (vo k) l
def ptrs (f : Nat → Nat) (n : Nat) : List Value := (List.range n).map fun i => .pointer (some ⟨f i, 0, none⟩)
def AccsAt (W : World) (T : Nat → Part) (v : Value) (K : Nat) (acs : List Acc) : Prop :=
  ∃ ba ma : Nat → Nat, RowAt W (fun b => T b = .accs) 133 1 v acs.length (ptrs ba acs.length) ∧ ∀ i a, acs[i]? = some a → AccAt W (ba i) (ma i) K a ∧ T (ba i) = .acc i ∧ T (ma i) = .acc i
def standCells (ss : List Stand) (vo : Nat → Value) : List Value := (ss.mapIdx fun k s => s.cells (vo k)).flatten
def StandsAt (W : World) (T : Nat → Part) (R : Nat → Prop) (v : Value) (ss : List Stand) : Prop :=
  ∃ vo, RowAt W R 103 3 v ss.length (standCells ss vo) ∧ OffsAt W T vo (ss.map (·.offers))
def LotAt (W : World) (T : Nat → Part) (n b : Nat) (l : LotS) : Prop :=
  ∃ v, T b = .lot n ∧ Blk W b 137 (l.cells v).toArray ∧ StandsAt W T (fun x => T x = .lot n ∧ x ≠ b) v l.stands
def LotsAt (W : World) (T : Nat → Part) (v : Value) (ls : List LotS) : Prop :=
  ∃ bl : Nat → Nat, RowAt W (fun b => T b = .lots) 135 1 v ls.length (ptrs bl ls.length) ∧ ∀ n l, ls[n]? = some l → LotAt W T n (bl n) l
def orderCells (os : List OrderR) (vo : Nat → Value) : List Value := (os.mapIdx fun k o => o.cells (vo k)).flatten
def BookAt (W : World) (T : Nat → Part) (v : Value) (os : List OrderR) : Prop :=
  ∃ vo, RowAt W (fun b => T b = .book) 36 18 v os.length (orderCells os vo) ∧ OffsAt W T vo (os.map (·.offers))
def SalesAt (W : World) (T : Nat → Part) (v : Value) (ss : List SaleR) : Prop := RowAt W (fun b => T b = .sales) 44 7 v ss.length (ss.flatMap SaleR.cells)
structure HouseAt (W : World) (T : Nat → Part) (h pn pc : Nat) (va vl vb vs : Value) (K : Nat) (H : House) : Prop where
  top : T h = .hs
  blk : Blk W h 92 #[.pointer (some ⟨pn, 0, none⟩), va, vl, .pointer (some ⟨pc, 0, none⟩), vb, vs]
  names : NamesAt W (fun b => T b = .names) pn 4096 H.names
  accs : AccsAt W T va K H.accs
  lots : LotsAt W T vl H.lots
  cal : CalAt W (fun b => T b = .cal) pc H.now H.due
  book : BookAt W T vb H.book
  sales : SalesAt W T vs H.sales
  out : ∀ b, W.heap.size ≤ b → T b = .no
section
variable {W W' : World} {T T' : Nat → Part} {X : Nat → Prop} {v : Value}
theorem Offs.chg {R : Nat → Prop} {l : List Off} (h : Offs W R v l) (hc : Chg X W W') (hX : ∀ b, b < W.heap.size → R b → ¬ X b) : Offs W' R v l := ⟨h.1.keep hc.size fun b hb hr => hc.block b hb (hX b hb hr), h.2⟩
theorem Offs.mono {R R' : Nat → Prop} {l : List Off} (h : Offs W R v l) (hR : ∀ b, b < W.heap.size → R b → R' b) : Offs W R' v l := ⟨h.1.mono hR, h.2⟩
theorem OffsAt.step {vo : Nat → Value} {os : List (List Off)} (h : OffsAt W T vo os) (hc : Chg X W W') (hX : ∀ b, T b = .old → ¬ X b) (hT : ∀ b, b < W.heap.size → T' b = T b) : OffsAt W' T' vo os := fun k l hk => by
  have h1 := Offs.mono (R' := fun b => T b = .old ∧ b < W.heap.size) (h k l hk) fun b hb hr => ⟨hr, hb⟩
  exact Offs.mono (Offs.chg h1 hc fun b _ hr => hX b hr.1) fun b _ hr => (hT b hr.2).trans hr.1
theorem RowAt.step {P : Part} {e : TypeId} {sz n : Nat} {xs : List Value} (h : RowAt W (fun b => T b = P) e sz v n xs) (hc : Chg X W W') (hX : ∀ b, T b = P → ¬ X b) (hT : ∀ b, b < W.heap.size → T' b = T b) : RowAt W' (fun b => T' b = P) e sz v n xs := by
  have h1 := h.mono (R' := fun b => T b = P ∧ b < W.heap.size) fun b hb hr => ⟨hr, hb⟩
  exact (h1.chg hc fun b _ hr => hX b hr.1).mono fun b _ hr => (hT b hr.2).trans hr.1
theorem AccsAt.step {K : Nat} {acs : List Acc} (h : AccsAt W T v K acs) (hc : Chg X W W') (hX : ∀ b, T b = .accs ∨ (∃ i, T b = .acc i) → ¬ X b) (hT : ∀ b, b < W.heap.size → T' b = T b) : AccsAt W' T' v K acs := by
  obtain ⟨ba, ma, h1, h2⟩ := h
  refine ⟨ba, ma, h1.step hc (fun b hb => hX b (.inl hb)) hT, fun i a hi => ?_⟩
  obtain ⟨h3, h4, h5⟩ := h2 i a hi
  exact ⟨h3.chg hc (hX _ (.inr ⟨i, h4⟩)) (hX _ (.inr ⟨i, h5⟩)), (hT _ h3.ltb).trans h4, (hT _ h3.ltm).trans h5⟩
theorem AccsAt.mono {K K' : Nat} {acs : List Acc} (h : AccsAt W T v K acs) (hK : K ≤ K') : AccsAt W T v K' acs := by
  obtain ⟨ba, ma, h1, h2⟩ := h
  exact ⟨ba, ma, h1, fun i a hi => ⟨(h2 i a hi).1.mono hK, (h2 i a hi).2⟩⟩
theorem StandsAt.step {n b : Nat} {ss : List Stand} (h : StandsAt W T (fun x => T x = .lot n ∧ x ≠ b) v ss) (hc : Chg X W W') (hX : ∀ x, T x = .lot n ∨ T x = .old → ¬ X x) (hT : ∀ x, x < W.heap.size → T' x = T x) : StandsAt W' T' (fun x => T' x = .lot n ∧ x ≠ b) v ss := by
  obtain ⟨vo, h1, h2⟩ := h
  refine ⟨vo, ?_, h2.step hc (fun b hb => hX b (.inr hb)) hT⟩
  have h3 := h1.mono (R' := fun x => (T x = .lot n ∧ x ≠ b) ∧ x < W.heap.size) fun b hb hr => ⟨hr, hb⟩
  exact (h3.chg hc fun b _ hr => hX b (.inl hr.1.1)).mono fun b _ hr => ⟨(hT b hr.2).trans hr.1.1, hr.1.2⟩
theorem LotAt.lt {n b : Nat} {l : LotS} (h : LotAt W T n b l) : b < W.heap.size := by
  obtain ⟨v, _, h, _⟩ := h
  exact h.lt
theorem LotAt.step {n b : Nat} {l : LotS} (h : LotAt W T n b l) (hc : Chg X W W') (hX : ∀ x, T x = .lot n ∨ T x = .old → ¬ X x) (hT : ∀ x, x < W.heap.size → T' x = T x) : LotAt W' T' n b l := by
  obtain ⟨v, h1, h2, h3⟩ := h
  exact ⟨v, (hT b h2.lt).trans h1, h2.chg hc (hX b (.inl h1)), h3.step hc hX hT⟩
theorem LotsAt.step {ls : List LotS} (h : LotsAt W T v ls) (hc : Chg X W W') (hX : ∀ x, T x = .lots ∨ (∃ n, T x = .lot n) ∨ T x = .old → ¬ X x) (hT : ∀ x, x < W.heap.size → T' x = T x) : LotsAt W' T' v ls := by
  obtain ⟨bl, h1, h2⟩ := h
  exact ⟨bl, h1.step hc (fun b hb => hX b (.inl hb)) hT, fun n l hn => (h2 n l hn).step hc (fun x hx => hX x (hx.elim (fun e => .inr (.inl ⟨n, e⟩)) fun e => .inr (.inr e))) hT⟩
theorem BookAt.step {os : List OrderR} (h : BookAt W T v os) (hc : Chg X W W') (hX : ∀ x, T x = .book ∨ T x = .old → ¬ X x) (hT : ∀ x, x < W.heap.size → T' x = T x) : BookAt W' T' v os := by
  obtain ⟨vo, h1, h2⟩ := h
  exact ⟨vo, h1.step hc (fun b hb => hX b (.inl hb)) hT, h2.step hc (fun b hb => hX b (.inr hb)) hT⟩
theorem SalesAt.step {ss : List SaleR} (h : SalesAt W T v ss) (hc : Chg X W W') (hX : ∀ x, T x = .sales → ¬ X x) (hT : ∀ x, x < W.heap.size → T' x = T x) : SalesAt W' T' v ss := RowAt.step h hc hX hT
theorem NamesAt.step {p : Nat} {most : Int} {ns : List ByteArray} (h : NamesAt W (fun b => T b = .names) p most ns) (hc : Chg X W W') (hX : ∀ x, T x = .names → ¬ X x) (hT : ∀ x, x < W.heap.size → T' x = T x) : NamesAt W' (fun b => T' b = .names) p most ns := by
  have h1 := h.mono (R' := fun b => T b = .names ∧ b < W.heap.size) fun b hb hr => ⟨hr, hb⟩
  exact (h1.chg hc fun b _ hr => hX b hr.1).mono fun b _ hr => (hT b hr.2).trans hr.1
theorem CalAt.step {p : Nat} {now : Int} {D : Int → Option Int} (h : CalAt W (fun b => T b = .cal) p now D) (hc : Chg X W W') (hX : ∀ x, T x = .cal → ¬ X x) (hT : ∀ x, x < W.heap.size → T' x = T x) : CalAt W' (fun b => T' b = .cal) p now D :=
  (h.own.chg hc fun b _ hr => hX b hr.1).mono fun b _ hr => (hT b hr.2).trans hr.1
end
end Go.Proofs.YthoaidfpgijbfaaGreat.Ho
namespace Go.Proofs.YthoaidfpgijbfaaGreat.Ho
open Go.RowKit
open Go.Proofs.YthoaidfpgijbfaaGreat.Vb Go.Proofs.YthoaidfpgijbfaaGreat.Ac
def HouseIn (W : World) (T : Nat → Part) (h K : Nat) (H : House) : Prop := ∃ pn pc va vl vb vs, HouseAt W T h pn pc va vl vb vs K H
def Own (T : Nat → Part) : Nat → Prop := fun b => T b ≠ .old ∧ T b ≠ .no
structure Moves (W : World) (T : Nat → Part) (W' : World) (T' : Nat → Part) : Prop where
  chg : Chg (Own T) W W'
  tag : ∀ b, b < W.heap.size → T' b = T b
theorem Moves.trans {W W1 W2 : World} {T T1 T2 : Nat → Part} (h : Moves W T W1 T1) (k : Moves W1 T1 W2 T2) : Moves W T W2 T2 :=
  ⟨h.chg.step k.chg fun b hb ho => by unfold Own at *; rwa [h.tag b hb] at ho, fun b hb => (k.tag b (Nat.lt_of_lt_of_le hb h.chg.size)).trans (h.tag b hb)⟩
section
variable {W W' : World} {T T' : Nat → Part} {h pn pc K : Nat} {va vl vb vs : Value} {H : House}
theorem HouseAt.keep {X : Nat → Prop} (hH : HouseAt W T h pn pc va vl vb vs K H) (hc : Chg X W W') (hX : ∀ b, T b ≠ .no → ¬ X b) : HouseAt W' T h pn pc va vl vb vs K H := by
  have hn : ∀ b P, T b = P → P ≠ .no → T b ≠ .no := fun b P e hp e2 => hp (e ▸ e2)
  refine ⟨hH.top, hH.blk.chg hc (hX h (hn h _ hH.top (by simp))), hH.names.step hc (fun b e => hX b (hn b _ e (by simp))) (fun _ _ => rfl), hH.accs.step hc (fun b e => hX b ?_) (fun _ _ => rfl), hH.lots.step hc (fun b e => hX b ?_) (fun _ _ => rfl),
    hH.cal.step hc (fun b e => hX b (hn b _ e (by simp))) (fun _ _ => rfl), hH.book.step hc (fun b e => hX b ?_) (fun _ _ => rfl), hH.sales.step hc (fun b e => hX b (hn b _ e (by simp))) (fun _ _ => rfl), fun b hb => hH.out b (Nat.le_trans hc.size hb)⟩
  · rcases e with e | ⟨i, e⟩ <;> exact hn b _ e (by simp)
  · rcases e with e | ⟨i, e⟩ | e <;> exact hn b _ e (by simp)
  · rcases e with e | e <;> exact hn b _ e (by simp)
theorem HouseAt.grow (hH : HouseAt W T h pn pc va vl vb vs K H) (hb : Below W.heap.size W W') : HouseAt W' T h pn pc va vl vb vs K H := hH.keep (Chg.of (fun _ => False) hb) fun _ _ => id
theorem HouseIn.grow (hH : HouseIn W T h K H) (hb : Below W.heap.size W W') : HouseIn W' T h K H := by
  obtain ⟨pn, pc, va, vl, vb, vs, hH⟩ := hH
  exact ⟨pn, pc, va, vl, vb, vs, hH.grow hb⟩
theorem HouseIn.keep {X : Nat → Prop} (hH : HouseIn W T h K H) (hc : Chg X W W') (hX : ∀ b, T b ≠ .no → ¬ X b) : HouseIn W' T h K H := by
  obtain ⟨pn, pc, va, vl, vb, vs, hH⟩ := hH
  exact ⟨pn, pc, va, vl, vb, vs, hH.keep hc hX⟩
theorem HouseAt.cells (hH : HouseAt W T h pn pc va vl vb vs K H) : W.cell? ⟨h, 0, none⟩ = some (.pointer (some ⟨pn, 0, none⟩)) ∧ W.cell? ⟨h, 1, none⟩ = some va ∧ W.cell? ⟨h, 2, none⟩ = some vl ∧ W.cell? ⟨h, 3, none⟩ = some (.pointer (some ⟨pc, 0, none⟩)) ∧ W.cell? ⟨h, 4, none⟩ = some vb ∧ W.cell? ⟨h, 5, none⟩ = some vs ∧ h < W.heap.size :=
  ⟨hH.blk.cell 0, hH.blk.cell 1, hH.blk.cell 2, hH.blk.cell 3, hH.blk.cell 4, hH.blk.cell 5, hH.blk.lt⟩
theorem AccsAt.form {acs : List Acc} (hA : AccsAt W T va K acs) : ∃ A c, va = .slice A acs.length c := by
  obtain ⟨_, _, h, _⟩ := hA
  exact h.form
theorem LotsAt.form {ls : List LotS} (hA : LotsAt W T vl ls) : ∃ A c, vl = .slice A ls.length c := by
  obtain ⟨_, h, _⟩ := hA
  exact h.form
end
def newLot (p : LotR) : LotS := ⟨p, p.closes, false, [], ⟨-1, 0, 0, p.closes⟩, 0⟩
def putE (H : House) (p : LotR) : Int := if lotOk p = false then 2 else if p.opens < H.now then 6 else if H.lots.length = 4096 then 3 else 0
def putH (H : House) (p : LotR) : House := { H with lots := H.lots ++ [newLot p], due := upd H.due H.lots.length (some p.closes) }
abbrev OrderR.agg (o : OrderR) (v : Value) : Value := .agg (o.cells v).toArray
set_option maxRecDepth 100000 in
set_option maxHeartbeats 4000000 in
theorem hput_err {W : World} {T : Nat → Part} {h pn pc K : Nat} {va vl vb vs : Value} {H : House} (hH : HouseAt W T h pn pc va vl vb vs K H) (o : OrderR) (vo : Value) (he : putE H o.put ≠ 0) :
    Calls Tryz.prog 34 #[.pointer (some ⟨h, 0, none⟩), o.agg vo] W fun e W' => e = .returned (.tuple #[.int .i64 0, .int .i64 (putE H o.put)]) ∧ Below W.heap.size W W' := by
  obtain ⟨W1, hW1⟩ : ∃ W1, W1 = W.alloc (.cells (o.cells vo).toArray 36) := ⟨_, rfl⟩
  have hb1 : Below W.heap.size W W1 := by rw [hW1]; exact (Below.refl _ _).alloc (Nat.le_refl _) _
  have hx : Blk W1 W.heap.size 36 (o.cells vo).toArray := by rw [hW1]; exact Blk.new _ _ _
  obtain ⟨A, c, hvl⟩ := hH.lots.form
  have hck := fun w => hcheck_any o.put w
  obtain ⟨z, hz⟩ : ∃ z, z = putE H o.put := ⟨_, rfl⟩
  rw [← hz] at he ⊢
  unfold putE at hz
  have H1 := Lib.hid (hH.grow hb1)
  have HB1 := Lib.hid hb1
  have HX := Lib.hid hx
  have HVL := Lib.hid hvl
  obtain ⟨okind, oname, ocoins, obidder, olot, ⟨kind, opens, closes, start, step, extend, last, floor, fall, count, rule⟩, ooff, otick⟩ := o
  have hxx := hx
  simp only [OrderR.agg, OrderR.cells, LotR.cells, List.cons_append, List.nil_append] at hW1 hxx ⊢
  obtain ⟨x5, x6, x7, x8, x9, x10, x11, x12, x13, x14, x15⟩ : _ ∧ _ ∧ _ ∧ _ ∧ _ ∧ _ ∧ _ ∧ _ ∧ _ ∧ _ ∧ _ := ⟨hxx.cell 5, hxx.cell 6, hxx.cell 7, hxx.cell 8, hxx.cell 9, hxx.cell 10, hxx.cell 11, hxx.cell 12, hxx.cell 13, hxx.cell 14, hxx.cell 15⟩
  simp at x5 x6 x7 x8 x9 x10 x11 x12 x13 x14 x15
  simp only at hck hz
  cases hok : lotOk ⟨kind, opens, closes, start, step, extend, last, floor, fall, count, rule⟩ with
  | false =>
    rw [hok] at hck hz
    simp only [if_true, Bool.false_eq_true, if_false] at hck hz
    have HCK := Lib.hid hck
    subst hz
    clear hH hb1 hx hxx hck hok he hvl
    go_enter Tryz.func34, Tryz.ntmps34
    go_wp2_with fail
    rw [← hW1]
    refine (HCK.out _).mono ?_
    rintro e W2 ⟨rfl, hb2⟩
    have HB2 := Lib.hid (HB1.out.trans (hb2.mono HB1.out.size))
    clear hb2 hW1
    go_wp2_with fail
    go_ret2
    exact ⟨rfl, HB2.out⟩
  | true =>
    rw [hok] at hck hz
    simp only [if_true] at hck
    rw [if_neg (by decide)] at hz
    have HCK := Lib.hid hck
    clear hb1 hx hxx hck hok x5 x6 x7 x8 x9 x10 x11 x12 x13 x14 x15 hvl
    go_enter Tryz.func34, Tryz.ntmps34
    go_wp2_with fail
    rw [← hW1]
    refine (HCK.out _).mono ?_
    rintro e W2 ⟨rfl, hb2⟩
    have HB2 := Lib.hid (HB1.out.trans (hb2.mono HB1.out.size))
    have H2 := Lib.hid (H1.out.grow hb2)
    have HX2 := Lib.hid (HX.out.grow hb2)
    clear hb2 hW1
    have x6 : W2.cell? ⟨W.heap.size, 6, none⟩ = some (.int .i64 opens) := HX2.out.cell 6
    have xl := HX2.out.lt
    have c3 := H2.out.cells.2.2.2.1
    have c2 : W2.cell? ⟨h, 2, none⟩ = some (.slice A H.lots.length c) := H2.out.cells.2.2.1.trans (by rw [HVL.out])
    have hl := H2.out.blk.lt
    obtain ⟨now, hnow⟩ : ∃ n, n = H.now := ⟨_, rfl⟩
    have HCAL := Lib.hid (show CalAt W2 (fun b => T b = .cal) pc now H.due by rw [hnow]; exact H2.out.cal)
    rw [← hnow] at hz
    obtain ⟨nl, hnl⟩ : ∃ n, n = H.lots.length := ⟨_, rfl⟩
    rw [← hnl] at hz c2
    have HN := Lib.hid hnl
    clear hnow hnl hH
    go_wp2_with fail
    refine wp_region_F (Below W2.heap.size W2) [] (by kernel_rfl) ((Below.refl _ _).drew) (fun hS => ?_)
    refine wpAnyF_take (i := 0) (oi := ⟨some 13, .fieldAddr 36 (.tmp 3) 5, 0, "house.go:144", #[], none⟩) (v := ?_) rfl (by kernel_rfl) (by kernel_rfl) (by kernel_rfl) (by kernel_rfl) (fun _ _ _ h => h) (Or.inl ⟨by rfl, ?_⟩) hS ?_
    rotate_left
    · intro w' _; go_simp; try with_reducible rfl
    try simp only [Act.put, pb, pz, ps]
    refine wpAnyF_take (i := 1) (oi := ⟨some 14, .fieldAddr 33 (.tmp 13) 1, 0, "house.go:144", #[⟨0, .data⟩], none⟩) (v := ?_) rfl (by kernel_rfl) (by kernel_rfl) (by kernel_rfl) (by kernel_rfl) (fun _ _ _ h => h) (Or.inl ⟨by rfl, ?_⟩) hS ?_
    rotate_left
    · intro w' _; go_simp; try with_reducible rfl
    try simp only [Act.put, pb, pz, ps]
    refine wpAnyF_take (i := 2) (oi := ⟨some 15, .load 2 (.tmp 14), 2, "house.go:144", #[⟨1, .data⟩], none⟩) (v := ?_) rfl (by kernel_rfl) (by kernel_rfl) (by kernel_rfl) (by kernel_rfl) (fun _ _ _ h => h) (Or.inl ⟨by rfl, ?_⟩) hS ?_
    rotate_left
    · intro w' hSw; have q0 := (hSw.cell (p := ⟨W.heap.size, 6, none⟩) xl).trans x6; have q1 := (hSw.cell (p := ⟨h, 3, none⟩) hl).trans c3; go_simp; try with_reducible rfl
    try simp only [Act.put, pb, pz, ps]
    refine wpAnyF_take (i := 3) (oi := ⟨some 16, .move (.tmp 0), 23, "house.go:144", #[], none⟩) (v := ?_) rfl (by kernel_rfl) (by kernel_rfl) (by kernel_rfl) (by kernel_rfl) (fun _ _ _ h => h) (Or.inl ⟨by rfl, ?_⟩) hS ?_
    rotate_left
    · intro w' _; go_simp; try with_reducible rfl
    try simp only [Act.put, pb, pz, ps]
    refine wpAnyF_take (i := 4) (oi := ⟨some 17, .nilCheck (.tmp 16), 0, "house.go:144", #[⟨3, .data⟩], none⟩) (v := ?_) rfl (by kernel_rfl) (by kernel_rfl) (by kernel_rfl) (by kernel_rfl) (fun _ _ _ h => h) (Or.inl ⟨by rfl, ?_⟩) hS ?_
    rotate_left
    · intro w' _; go_simp; try with_reducible rfl
    try simp only [Act.put, pb, pz, ps]
    refine wpAnyF_take (i := 5) (oi := ⟨some 18, .fieldAddr 92 (.tmp 17) 0, 0, "house.go:144", #[⟨4, .data⟩], none⟩) (v := ?_) rfl (by kernel_rfl) (by kernel_rfl) (by kernel_rfl) (by kernel_rfl) (fun _ _ _ h => h) (Or.inl ⟨by rfl, ?_⟩) hS ?_
    rotate_left
    · intro w' _; go_simp; try with_reducible rfl
    try simp only [Act.put, pb, pz, ps]
    refine wpAnyF_take (i := 6) (oi := ⟨some 19, .fieldAddr 90 (.tmp 18) 3, 0, "house.go:144", #[⟨5, .data⟩], none⟩) (v := ?_) rfl (by kernel_rfl) (by kernel_rfl) (by kernel_rfl) (by kernel_rfl) (fun _ _ _ h => h) (Or.inl ⟨by rfl, ?_⟩) hS ?_
    rotate_left
    · intro w' _; go_simp; try with_reducible rfl
    try simp only [Act.put, pb, pz, ps]
    refine wpAnyF_take (i := 7) (oi := ⟨some 20, .load 84 (.tmp 19), 84, "house.go:144", #[⟨6, .data⟩], none⟩) (v := ?_) rfl (by kernel_rfl) (by kernel_rfl) (by kernel_rfl) (by kernel_rfl) (fun _ _ _ h => h) (Or.inl ⟨by rfl, ?_⟩) hS ?_
    rotate_left
    · intro w' hSw; have q0 := (hSw.cell (p := ⟨W.heap.size, 6, none⟩) xl).trans x6; have q1 := (hSw.cell (p := ⟨h, 3, none⟩) hl).trans c3; go_simp; try with_reducible rfl
    try simp only [Act.put, pb, pz, ps]
    refine wpAnyF_ready (rs := [8]) (by kernel_rfl) (by simp) ?_
    refine AllReadyF.cons (o := ⟨some 21, .call { callee := .value (.func 58), args := #[.tmp 20], argTypes := #[84] }, 2, "house.go:144", #[⟨7, .data⟩], none⟩) rfl (by rfl) (fun K hK => ?_) ?_
    · go_simp
      refine (tnow_any (W := W2.drew) (HCAL.out.grow (Below.refl _ _).drew)).mono ?_
      rintro e W7 ⟨rfl, rfl⟩
      refine hK.out _ _ ?_ (fun hS => ?_)
      · exact hS
      clear hK K
      try simp only [Act.put, pb, pz, ps]
      refine wpAnyF_take (i := 9) (oi := ⟨some 22, .binOp .lss 2 (.tmp 15) (.tmp 21) 2, 4, "house.go:144", #[⟨2, .data⟩, ⟨8, .data⟩], none⟩) (v := ?_) rfl (by kernel_rfl) (by kernel_rfl) (by kernel_rfl) (by kernel_rfl) (fun _ _ _ h => h) (Or.inl ⟨by rfl, ?_⟩) hS ?_
      rotate_left
      · intro w' _; go_simp; try with_reducible rfl
      try simp only [Act.put, pb, pz, ps]
      refine wpAnyF_take (i := 10) (oi := ⟨some 12, .assign (.tmp 22), 4, "house.go:144", #[⟨9, .data⟩, ⟨8, .chain⟩], none⟩) (v := ?_) rfl (by kernel_rfl) (by kernel_rfl) (by kernel_rfl) (by kernel_rfl) (fun _ _ _ h => h) (Or.inl ⟨by rfl, ?_⟩) hS ?_
      rotate_left
      · intro w' _; go_simp; try with_reducible rfl
      try simp only [Act.put, pb, pz, ps]
      refine wpAnyF_done (by kernel_rfl) ?_ _
      have HS := Lib.hid hS
      clear hS
      have c2' : W2.drew.cell? ⟨h, 2, none⟩ = some (.slice A nl c) := c2
      clear c2
      by_cases h1 : opens < now
      · rw [if_pos h1] at hz
        subst hz
        go_wp2_with fail
        go_ret2
        exact ⟨rfl, HB2.out.trans (HS.out.mono HB2.out.size)⟩
      · rw [if_neg h1] at hz
        by_cases h2 : nl = 4096
        · rw [if_pos h2] at hz
          subst hz
          subst h2
          go_wp2_with fail
          go_ret2
          exact ⟨rfl, HB2.out.trans (HS.out.mono HB2.out.size)⟩
        · rw [if_neg h2] at hz
          exact absurd hz he
    exact AllReadyF.nil
end Go.Proofs.YthoaidfpgijbfaaGreat.Ho

/- Joined by program: Base HoA Own AccG HoC HoD HoW Regn. -/
import Derived.Test.YtckdpejdnejhfaaGreatRows
import Derived.WalkKit
import Derived.ProofKit
import Derived.Deep.RegionHeld3
import Derived.Deep.QuietTactic
import Derived.BigQuiet
import Derived.Deep.DrawnRows
import Derived.Deep.Draws
import Derived.Lib.Hide
import Derived.Deep.LoopGhost
import Derived.WalkSpells
import Derived.WalkLawsBesides
import Derived.Laws.StructEq
import Derived.Maps.AppendAt
import Derived.Deep.AppendLies
import Derived.Maps.OwnOps
import Derived.Maps.Views
import Derived.Maps.OwnSet
import Derived.RangeFuncNested
import Derived.RangeFuncBound
import Derived.RangeFuncCalls
import Derived.RangeFuncLeaves
import Derived.Shelf.Abstract
import Derived.Shelf.RegionOpen
import Derived.OwnWalkIn
import Derived.TacticsInMore
import Derived.LoopNIn
import Derived.LoopIn
import Derived.Laws.EntriesVeiled
import Derived.Handy
import Derived.WalkSmall
/- Words for memory: a slice that reads as a list of cells; frames. -/
set_option linter.all false
namespace Go.Proofs.YtckdpejdnejhfaaGreat.Vb
open Go.RowKit

/-- The slice value v of n elements (sz cells each) reads as the cells xs; where there is one they lie in one block that R names. -/
def Sl (w : World) (R : Nat → Prop) (v : Value) (n sz : Nat) (xs : List Value) : Prop :=
  xs.length = n * sz ∧ ∃ A cap, v = .slice A n cap ∧ n ≤ cap ∧ cap ≤ maxLen ∧
    (0 < n → ∃ b off, A = some ⟨b, off, none⟩ ∧ R b ∧ b < w.heap.size ∧ ∀ j u, xs[j]? = some u → w.cell? ⟨b, off + j, none⟩ = some u)

section
variable {w w' : World} {R R' : Nat → Prop} {v : Value} {n sz : Nat} {xs : List Value}
theorem Sl.keep (h : Sl w R v n sz xs) (hs : w.heap.size ≤ w'.heap.size) (hk : ∀ b, b < w.heap.size → R b → w'.heap[b]? = w.heap[b]?) : Sl w' R v n sz xs := by
  obtain ⟨hl, A, cap, rfl, h1, h2, h3⟩ := h
  refine ⟨hl, A, cap, rfl, h1, h2, fun hn => ?_⟩
  obtain ⟨b, off, rfl, hb, hlt, hc⟩ := h3 hn
  exact ⟨b, off, rfl, hb, Nat.lt_of_lt_of_le hlt hs, fun j u hu => (World.cell?_of_block (hk b hlt hb)).trans (hc j u hu)⟩
theorem Sl.grow (h : Sl w R v n sz xs) (hb : Below w.heap.size w w') : Sl w' R v n sz xs := h.keep hb.size fun b hlt _ => hb.block b hlt
theorem Sl.alloc (h : Sl w R v n sz xs) (o : Obj) : Sl (w.alloc o) R v n sz xs := h.keep (by simp) fun b hlt _ => Below.heap_alloc w o b hlt
theorem Sl.mono (h : Sl w R v n sz xs) (hR : ∀ b, b < w.heap.size → R b → R' b) : Sl w R' v n sz xs := by
  obtain ⟨hl, A, cap, rfl, h1, h2, h3⟩ := h
  refine ⟨hl, A, cap, rfl, h1, h2, fun hn => ?_⟩
  obtain ⟨b, off, rfl, hb, hlt, hc⟩ := h3 hn
  exact ⟨b, off, rfl, hR b hlt hb, hlt, hc⟩
end

end Go.Proofs.YtckdpejdnejhfaaGreat.Vb

/- House: lots, rises as records; ladder's rules, plainly. -/
namespace Go.Proofs.YtckdpejdnejhfaaGreat.Ho
open Go.RowKit

structure LotR where
  (kind opens closes start step extend last floor fall count rule : Int)
  deriving DecidableEq
abbrev LotR.cells (l : LotR) : List Value := [.int .i64 l.kind, .int .i64 l.opens, .int .i64 l.closes, .int .i64 l.start, .int .i64 l.step, .int .i64 l.extend, .int .i64 l.last, .int .i64 l.floor, .int .i64 l.fall, .int .i64 l.count, .int .i64 l.rule]
abbrev LotR.agg (l : LotR) : Value := .agg l.cells.toArray
structure RiseR where
  (leader limit price closes : Int)
  deriving DecidableEq
abbrev RiseR.cells (r : RiseR) : List Value := [.int .i64 r.leader, .int .i64 r.limit, .int .i64 r.price, .int .i64 r.closes]
abbrev RiseR.agg (r : RiseR) : Value := .agg r.cells.toArray
structure RiseB where
  (bidder limit free now : Int)
abbrev RiseB.agg (b : RiseB) : Value := .agg #[.int .i64 b.bidder, .int .i64 b.limit, .int .i64 b.free, .int .i64 b.now]

def coinB (c : Int) : Bool := decide (0 ≤ c) && decide (c ≤ 1099511627776)
/-- what ladder.Check asks -/
def riseLot (l : LotR) : Bool :=
  decide ((⟨l.kind, 0, 0, 0, 0, 0, 0, l.floor, l.fall, l.count, l.rule⟩ : LotR) = ⟨1, 0, 0, 0, 0, 0, 0, 0, 0, 0, 0⟩) &&
  (coinB l.opens && coinB l.closes && decide (l.opens < l.closes) && coinB l.start && coinB l.step && decide (1 ≤ l.step) && coinB l.extend && coinB l.last && decide (l.closes ≤ l.last))
def begunR (l : LotR) : RiseR := ⟨-1, 0, 0, l.closes⟩
def rightR (l : LotR) (r : RiseR) : Bool :=
  riseLot l && if r.leader < 0 then decide (r = begunR l) else coinB r.limit && decide (l.start ≤ r.price) && decide (r.price ≤ r.limit) && decide (l.closes ≤ r.closes) && decide (r.closes ≤ l.last)
def leastR (l : LotR) (r : RiseR) (b : Int) : Int := if r.leader < 0 then l.start else if r.leader = b then r.limit + 1 else r.price + l.step
/-- which rule a bid breaks -/
def brokenR (l : LotR) (r : RiseR) (b : RiseB) : Int :=
  if !rightR l r || decide (b.bidder < 0) || !coinB b.limit || decide (b.free < 0) || !coinB b.now then 2
  else if b.now < l.opens ∨ r.closes ≤ b.now then 6
  else if b.limit < leastR l r b.bidder then 7
  else if b.bidder = r.leader then (if b.free + r.limit > 9223372036854775807 then 0 else if b.free + r.limit < b.limit then 8 else 0)
  else if b.free < b.limit then 8 else 0
def bidR (l : LotR) (r : RiseR) (b : RiseB) : RiseR :=
  let r1 : RiseR :=
    if r.leader < 0 then { r with leader := b.bidder, limit := b.limit, price := l.start }
    else if r.leader = b.bidder then { r with limit := b.limit }
    else if r.limit < b.limit then { r with leader := b.bidder, limit := b.limit, price := min (r.limit + l.step) b.limit }
    else { r with price := min (b.limit + l.step) r.limit }
  if r1.closes - b.now < l.extend then { r1 with closes := min (b.now + l.extend) l.last } else r1

section
variable (W : World)
theorem equal_lot (a b : LotR) : (Op.equalIn (9999 + 1) 58 a.agg b.agg).run Tryz.prog W = .ok (decide (a = b)) W := by
  have hS : Tryz.prog.underlying 58 = some (.struct (Tryz.prog.fieldsOf 58)) := by kernel_rfl
  have hp : Tryz.prog.stoodInHeld 58 = false := by kernel_rfl
  rw [LotR.agg, LotR.agg, run_equalIn_agg W 9999 58 _ _ hS hp]
  have u1 := Tryz.underlying55
  have a1 := Tryz.isAgg55
  have z1 := Tryz.sizeOf55
  have u2 := Tryz.underlying2
  have a2 := Tryz.isAgg2
  have z2 := Tryz.sizeOf2
  have u3 := Tryz.underlying3
  have a3 := Tryz.isAgg3
  have z3 := Tryz.sizeOf3
  have u4 := Tryz.underlying56
  have a4 := Tryz.isAgg56
  have z4 := Tryz.sizeOf56
  simp only [Program.fieldsOf, Tryz.underlying58]
  go_simp
  obtain ⟨a1, a2, a3, a4, a5, a6, a7, a8, a9, a10, a11⟩ := a
  obtain ⟨b1, b2, b3, b4, b5, b6, b7, b8, b9, b10, b11⟩ := b
  simp only [LotR.mk.injEq]
  by_cases h1 : a1 = b1
  case neg => simp [h1]
  subst h1
  by_cases h2 : a2 = b2
  case neg => simp [h2]
  subst h2
  by_cases h3 : a3 = b3
  case neg => simp [h3]
  subst h3
  by_cases h4 : a4 = b4
  case neg => simp [h4]
  subst h4
  by_cases h5 : a5 = b5
  case neg => simp [h5]
  subst h5
  by_cases h6 : a6 = b6
  case neg => simp [h6]
  subst h6
  by_cases h7 : a7 = b7
  case neg => simp [h7]
  subst h7
  by_cases h8 : a8 = b8
  case neg => simp [h8]
  subst h8
  by_cases h9 : a9 = b9
  case neg => simp [h9]
  subst h9
  by_cases h10 : a10 = b10
  case neg => simp [h10]
  subst h10
  by_cases h11 : a11 = b11
  case neg => simp [h11]
  subst h11
  simp
theorem eql_lot (a b : LotR) : (binOp .eql 58 a.agg b.agg).run Tryz.prog W = .ok (.bool (decide (a = b))) W := by
  rw [run_eql_struct, show (10000 : Nat) = 9999 + 1 from rfl, equal_lot]; rfl
end
end Go.Proofs.YtckdpejdnejhfaaGreat.Ho

/- append onto a row of the call's own, from a slice that reads as cells. -/
namespace Go.Proofs.YtckdpejdnejhfaaGreat.Vb
open Go.RowKit

/-- The facts on a slice type t of elements e (sz cells, so many bytes). -/
def ElemT (P : Program) (t e : TypeId) (sz bytes : Nat) : Prop :=
  P.underlying t = some (.slice e) ∧ 0 < sz ∧ ∃ i z, P.info? e = some i ∧ i.zero = some z ∧ i.size = sz ∧ i.bytes = bytes ∧ z.cells.size = sz

theorem elemT_of {P : Program} {t e : TypeId} {sz bytes : Nat} {z : Value} (ht : P.underlying t = some (.slice e)) (hsz : 0 < sz)
    (h : (P.info? e).map (fun i => (i.zero, i.size, i.bytes)) = some (some z, sz, bytes)) (hz : z.cells.size = sz) : ElemT P t e sz bytes := by
  obtain ⟨i0, hi, hz0, hz1, hz2⟩ := info_parts h
  exact ⟨ht, hsz, i0, z, hi, hz0, hz1, hz2, hz⟩

theorem Sl.of_own {w : World} {base : Nat} {e : TypeId} {sz n : Nat} {v : Value} {xs : List Value} (h : w.ownsRow base e sz v n xs) : Sl w (fun b => v.ownBlock = some b) v n sz xs := by
  rcases h.2 with ⟨rfl, rfl⟩ | ⟨g, cap, cur, rfl, hb, hg, hnc, hcm, hcs, htake⟩
  · exact ⟨h.1, none, 0, rfl, Nat.le_refl _, Nat.zero_le _, fun h0 => absurd h0 (by omega)⟩
  · refine ⟨h.1, _, cap, rfl, hnc, hcm, fun hn => ⟨g, 0, rfl, rfl, (Array.getElem?_eq_some_iff.1 hg).1, fun j u hu => ?_⟩⟩
    have := h.cells (g := g) rfl j u hu
    rwa [Addr.add_lit] at this

theorem own_form {w : World} {base : Nat} {e : TypeId} {sz n : Nat} {v : Value} {xs : List Value} (h : w.ownsRow base e sz v n xs) : ∃ A cap, v = .slice A n cap := by
  rcases h.2 with ⟨rfl, rfl⟩ | ⟨g, cap, cur, rfl, _⟩
  · exact ⟨none, 0, rfl⟩
  · exact ⟨_, cap, rfl⟩

theorem run_append_sl {P : Program} (w : World) (base : Nat) (t ty e : TypeId) (sz bytes : Nat) (E : ElemT P t e sz bytes)
    (v : Value) (n : Nat) (xs : List Value) (hown : w.ownsRow base e sz v n xs)
    (R : Nat → Prop) (v2 : Value) (m : Nat) (news : List Value) (hr : Sl w R v2 m sz news) (h1 : ∀ u ∈ news, u.oneCell' = true)
    (hbytes : (n + m) * bytes ≤ 140737488355328) (h63 : n + m ≤ maxLen) (hbase : base ≤ w.heap.size) :
    ∃ A' cap' w', (Builtin.append_ #[t, t] ty #[v, v2]).run P w = .ok (.slice A' (n + m) cap') w' ∧ w'.ownsRow base e sz (.slice A' (n + m) cap') (n + m) (xs ++ news) ∧ w.grownBy w' v.ownBlock ∧
      ((Value.slice A' (n + m) cap').ownBlock = v.ownBlock ∨ (Value.slice A' (n + m) cap').ownBlock = some w.heap.size) := by
  obtain ⟨ht, hsz, i, z, hi, hz, hsize, hby, hzs⟩ := E
  obtain ⟨hl, A, c, rfl, hnc, hcm, hc⟩ := hr
  rcases A with _ | ad
  · have hm : m = 0 := by
      rcases Nat.eq_zero_or_pos m with h0 | h0
      · exact h0
      · obtain ⟨b, off, h, _⟩ := hc h0
        cases h
    subst hm
    have hn : news = [] := List.eq_nil_of_length_eq_zero (by simpa using hl)
    subst hn
    have hrun : (Builtin.append_ #[t, t] ty #[v, .slice none 0 c]).run P w = .ok v w := by
      rcases hown.2 with ⟨rfl, rfl⟩ | ⟨g, cap, cur, rfl, _, _, hnc', _⟩
      · simp [Builtin.append_, run_underlying ht, sizeOf, typeInfo, hi, Builtin.lenOf, Builtin.firstCells]
      · simp [Builtin.append_, run_underlying ht, sizeOf, typeInfo, hi, Builtin.lenOf, Builtin.firstCells, hnc', storeCells]
    obtain ⟨A', cap', hv⟩ := own_form hown
    subst hv
    exact ⟨A', cap', w, hrun, by simpa using hown, ⟨rfl, rfl, rfl, Nat.le_refl _, fun _ _ _ => rfl⟩, .inl rfl⟩
  · have hcells : ∀ j u, news[j]? = some u → w.cell? (ad.add j) = some u := by
      intro j u hu
      rcases Nat.eq_zero_or_pos m with h0 | h0
      · subst h0
        have hn : news = [] := List.eq_nil_of_length_eq_zero (by simpa using hl)
        subst hn
        simp at hu
      · obtain ⟨b, off, h, _, _, hcc⟩ := hc h0
        injection h with h
        subst h
        rw [Addr.add_lit]
        exact hcc j u hu
    obtain ⟨v', w', hrun, h2, h3, _, h5⟩ := run_append_own_at (P := P) w base t ty e i z sz bytes ht hi hz hsize hby hzs hsz v n xs hown ad m c news hl hcells h1 h63 hbytes hbase
    obtain ⟨A', cap', hv⟩ := own_form h2
    subst hv
    exact ⟨A', cap', w', hrun, h2, h3, h5⟩

theorem wp_app {P : Program} (w : World) {o : Oper} {a : Act} {K : Act → World → Prop} {Q : Exit → Act → World → Prop} (s x : Operand) {t e : TypeId} {sz bytes : Nat} (E : ElemT P t e sz bytes)
    (ho : o.op = .call { callee := .builtin .append, args := #[s, x], argTypes := #[t, t] })
    (base : Nat) (v : Value) (n : Nat) (xs : List Value) (hs : a.eval s = v) (hown : w.ownsRow base e sz v n xs)
    (R : Nat → Prop) (v2 : Value) (m : Nat) (news : List Value) (hx : a.eval x = v2) (hr : Sl w R v2 m sz news) (h1 : ∀ u ∈ news, u.oneCell' = true)
    (hbytes : (n + m) * bytes ≤ 140737488355328) (h63 : n + m ≤ maxLen) (hbase : base ≤ w.heap.size)
    (h : ∀ A' cap' w', w'.ownsRow base e sz (.slice A' (n + m) cap') (n + m) (xs ++ news) → w.grownBy w' v.ownBlock → ((Value.slice A' (n + m) cap').ownBlock = v.ownBlock ∨ (Value.slice A' (n + m) cap').ownBlock = some w.heap.size) → K (a.put o.dst (.slice A' (n + m) cap')) w') : o.wp P a w K Q := by
  obtain ⟨A', cap', w', hrun, h2, h3, h4⟩ := run_append_sl (P := P) w base t o.type e sz bytes E v n xs hown R v2 m news hr h1 hbytes h63 hbase
  unfold Oper.wp execOp
  simp only [ho, resolve, invoke, builtin, Sem.run_bind, Sem.run_pure, Result.andThen_ok, List.map_toArray, List.map_cons, List.map_nil, hs, hx, hrun]
  exact h A' cap' w' h2 h3 h4

/-- append at a plain region's list. -/
theorem wpList_app {P : Program} (w : World) {ops : Array Oper} {rest : List Oper} {o : Oper} {a : Act} {Q : Exit → Act → World → Prop} (hgd : o.guard = none) (s x : Operand) {t e : TypeId} {sz bytes : Nat} (E : ElemT P t e sz bytes)
    (ho : o.op = .call { callee := .builtin .append, args := #[s, x], argTypes := #[t, t] })
    (base : Nat) (v : Value) (n : Nat) (xs : List Value) (hs : a.eval s = v) (hown : w.ownsRow base e sz v n xs)
    (R : Nat → Prop) (v2 : Value) (m : Nat) (news : List Value) (hx : a.eval x = v2) (hr : Sl w R v2 m sz news) (h1 : ∀ u ∈ news, u.oneCell' = true)
    (hbytes : (n + m) * bytes ≤ 140737488355328) (h63 : n + m ≤ maxLen) (hbase : base ≤ w.heap.size)
    (h : ∀ A' cap' w', w'.ownsRow base e sz (.slice A' (n + m) cap') (n + m) (xs ++ news) → w.grownBy w' v.ownBlock → ((Value.slice A' (n + m) cap').ownBlock = v.ownBlock ∨ (Value.slice A' (n + m) cap').ownBlock = some w.heap.size) → wpList P ops Q rest (a.put o.dst (.slice A' (n + m) cap')) w') : wpList P ops Q (o :: rest) a w :=
  wpList_plain hgd fun _ hK => wp_app w s x E ho base v n xs hs hown R v2 m news hx hr h1 hbytes h63 hbase fun A' cap' w' h2 h3 h4 => hK _ _ (h A' cap' w' h2 h3 h4)


theorem own_mono {w : World} {base base' : Nat} {e : TypeId} {sz n : Nat} {v : Value} {xs : List Value} (h : w.ownsRow base e sz v n xs) (hb : base' ≤ base) : w.ownsRow base' e sz v n xs := by
  obtain ⟨h1, h2⟩ := h
  refine ⟨h1, ?_⟩
  rcases h2 with h2 | ⟨g, cap, cur, hv, hg, r⟩
  · exact .inl h2
  · exact .inr ⟨g, cap, cur, hv, Nat.le_trans hb hg, r⟩
end Go.Proofs.YtckdpejdnejhfaaGreat.Vb

/- Account: words for memory, of no program: a block known whole, what a call may change, a range over an iterator that lays memory of its own. -/
namespace Go.Proofs.YtckdpejdnejhfaaGreat.Ac
open Go.RowKit Go.Shelf
open Go.Proofs.YtckdpejdnejhfaaGreat.Vb

def Blk (w : World) (g : Nat) (t : TypeId) (cs : Array Value) : Prop := w.heap[g]? = some (.cells cs t (0, 0))
section
variable {w w' : World} {g : Nat} {t : TypeId} {cs : Array Value}
theorem Blk.lt (h : Blk w g t cs) : g < w.heap.size := by
  rcases Nat.lt_or_ge g w.heap.size with hlt | hge
  · exact hlt
  · unfold Blk at h; rw [Array.getElem?_eq_none hge] at h; cases h
theorem Blk.cell (h : Blk w g t cs) (i : Nat) : w.cell? ⟨g, i, none⟩ = cs[i]? := cell_of_row w g i cs t (0, 0) h
theorem Blk.frozen (h : Blk w g t cs) (i : Nat) : w.frozen? ⟨g, i, none⟩ = false := by
  unfold Blk at h
  simp [World.frozen?, h]
theorem Blk.new (w : World) (t : TypeId) (cs : Array Value) : Blk (w.alloc (.cells cs t)) w.heap.size t cs := heap_alloc_new w _
theorem Blk.new' {w : World} {g : Nat} (t : TypeId) (cs : Array Value) (h : g = w.heap.size) : Blk (w.alloc (.cells cs t)) g t cs := by subst h; exact heap_alloc_new w _
theorem Blk.drewN (h : Blk w g t cs) (n : Nat) : Blk (w.drewN n) g t cs := h
theorem Blk.alloc (h : Blk w g t cs) (o : Obj) : Blk (w.alloc o) g t cs := (Below.heap_alloc w o g h.lt).trans h
theorem Blk.set_ (h : Blk w g t cs) (i : Nat) (u : Value) : Blk (w.setCell ⟨g, i, none⟩ u) g t (cs.setIfInBounds i u) := by
  unfold Blk at h ⊢
  simp [World.setCell, Array.getElem?_modify, h]
theorem Blk.grow (h : Blk w g t cs) (hb : Below w.heap.size w w') : Blk w' g t cs := (hb.block g h.lt).trans h
theorem Blk.grown {row : Option Nat} (h : Blk w g t cs) (hb : w.grownBy w' row) (hg : some g ≠ row) : Blk w' g t cs := (hb.block g h.lt hg).trans h
theorem Blk.cells {row : Option Nat} (h : Blk w g t cs) (hg : w.grownBy w' row) (hr : ∀ r, row = some r → ∃ o : Obj, w.heap[r]? = some o ∧ o.isCells = false) : Blk w' g t cs :=
  h.grown hg fun e => by
    obtain ⟨o, ho, hc⟩ := hr g e.symm
    rw [show w.heap[g]? = _ from h] at ho
    cases ho
    cases hc
end
/-- a call that turned no block but those that X names (and made new ones) -/
structure Chg (X : Nat → Prop) (a w : World) : Prop where
  os : w.os = a.os
  tape : w.tape = a.tape
  output : w.output = a.output
  size : a.heap.size ≤ w.heap.size
  block : ∀ k, k < a.heap.size → ¬ X k → w.heap[k]? = a.heap[k]?
section
variable {X Y : Nat → Prop} {a b c : World}
theorem Chg.refl (X : Nat → Prop) (a : World) : Chg X a a := ⟨rfl, rfl, rfl, Nat.le_refl _, fun _ _ _ => rfl⟩
theorem Chg.of (X : Nat → Prop) (h : Below a.heap.size a b) : Chg X a b := ⟨h.os, h.tape, h.output, h.size, fun k hk _ => h.block k hk⟩
theorem Chg.mono (h : Chg X a b) (hX : ∀ k, k < a.heap.size → X k → Y k) : Chg Y a b := ⟨h.os, h.tape, h.output, h.size, fun k hk hn => h.block k hk fun hx => hn (hX k hk hx)⟩
theorem Chg.step (h : Chg X a b) (h2 : Chg Y b c) (hY : ∀ k, k < a.heap.size → Y k → X k) : Chg X a c :=
  ⟨h2.os.trans h.os, h2.tape.trans h.tape, h2.output.trans h.output, Nat.le_trans h.size h2.size, fun k hk hn => (h2.block k (Nat.lt_of_lt_of_le hk h.size) fun hy => hn (hY k hk hy)).trans (h.block k hk hn)⟩
theorem Chg.trans (h : Chg X a b) (h2 : Chg X b c) : Chg X a c := h.step h2 fun _ _ h => h
theorem Chg.grow (h : Chg X a b) (h2 : Below b.heap.size b c) : Chg X a c := h.step (Chg.of (fun _ => False) h2) fun _ _ h => h.elim
theorem Chg.below (h : Chg X a b) {B : Nat} (hB : B ≤ a.heap.size) (hX : ∀ k, k < B → ¬ X k) : Below B a b := ⟨h.os, h.tape, h.output, h.size, fun k hk => h.block k (by omega) (hX k hk)⟩
theorem Chg.grown {row : Option Nat} (h : a.grownBy b row) : Chg (fun k => some k = row) a b := ⟨h.os, h.tape, h.output, h.size, fun k hk hn => h.block k hk hn⟩
theorem Chg.set (a : World) (p : Addr) (u : Value) : Chg (· = p.block) a (a.setCell p u) := ⟨rfl, rfl, rfl, by simp [World.setCell], fun k _ hn => Below.heap_setCell a p u k hn⟩
theorem Chg.drewN (h : Chg X a b) (n : Nat) : Chg X a (b.drewN n) := ⟨h.os, h.tape, h.output, h.size, h.block⟩
theorem Blk.chg {g : Nat} {t : TypeId} {cs : Array Value} (h : Blk a g t cs) (hc : Chg X a b) (hx : ¬ X g) : Blk b g t cs := (hc.block g h.lt hx).trans h
theorem Chg.ownsMap {H : Type} {P : Program} {k : TypeId} {R : Value → Option (DataW H × List MemPlace)} {m n : Nat} {D : DataW H} (h : a.ownsMap P k R m n D) (hc : Chg X a b) (hx : ¬ X m) : b.ownsMap P k R m n D := by
  have hlt := h.lt
  obtain ⟨es, clock, h1, h2⟩ := h
  exact ⟨es, clock, (hc.block m hlt hx).trans h1, h2⟩
end

/-- the blocks from lo to hi are as they were -/
structure KeepR (lo hi : Nat) (W W' : World) : Prop where
  size : W.heap.size ≤ W'.heap.size
  same : ∀ i, lo ≤ i → i < hi → W'.heap[i]? = W.heap[i]?
theorem KeepR.refl (lo hi : Nat) (W : World) : KeepR lo hi W W := ⟨Nat.le_refl _, fun _ _ _ => rfl⟩
theorem KeepR.trans {lo hi : Nat} {A B C : World} (h : KeepR lo hi A B) (k : KeepR lo hi B C) : KeepR lo hi A C := ⟨Nat.le_trans h.size k.size, fun i h1 h2 => (k.same i h1 h2).trans (h.same i h1 h2)⟩
theorem KeepR.set {lo hi : Nat} (W : World) {p : Addr} (hp : p.block < lo ∨ hi ≤ p.block) (u : Value) : KeepR lo hi W (W.setCell p u) :=
  ⟨by simp [World.setCell], fun i h1 h2 => Below.heap_setCell W p u i (by omega)⟩
theorem KeepR.sl {lo hi : Nat} {A B : World} (h : KeepR lo hi A B) {v : Value} {n sz : Nat} {xs : List Value} (hs : Sl A (fun b => lo ≤ b ∧ b < hi) v n sz xs) : Sl B (fun b => lo ≤ b ∧ b < hi) v n sz xs :=
  hs.keep h.size fun b _ hr => h.same b hr.1 hr.2

/-- the loop's record at block b + 1, the rounds' deferred calls at block b -/
def RecAt (W : World) (b : Nat) (L : Loop) : Prop := W.heap[b + 1]? = some (.loop L) ∧ W.heap[b]? = some (.deferred (some []))
theorem RecAt.abides {A B : World} {b : Nat} {L : Loop} {row : Option Nat} (h : RecAt A b L) (hg : A.grownBy B row) (hr : ∀ r, row = some r → ∃ o : Obj, A.heap[r]? = some o ∧ o.isWalk = true) : RecAt B b L :=
  ⟨(grownBy_keeps hg hr h.1 rfl).trans h.1, (grownBy_keeps hg hr h.2 rfl).trans h.2⟩
theorem RecAt.put {W : World} {b : Nat} {L L' : Loop} (h : RecAt W b L) : RecAt (W.putObj (b + 1) (.loop L')) b L' :=
  ⟨World.putObj_heap_same (Array.getElem?_eq_some_iff.1 h.1).1, (World.putObj_heap_other (by omega)).trans h.2⟩
theorem RecAt.others {A B : World} {b : Nat} {L : Loop} (h : RecAt A b L) (hk : KeepsOthers A B) : RecAt B b L := ⟨hk.same _ _ h.1 rfl, hk.same _ _ h.2 rfl⟩

/-- an iterator that lays memory ahead of the first yield (below hi), which the body must keep; the body may turn what lay ahead of the iterator, and what it laid itself -/
def SeqStopsH {α : Type} (F : Fence) (n : Nat) (P : Program) (g : Nat) (lb : Array Value) (encs : α → Array Value) (S Sp : List α → Prop) (N : Nat) (w : World) : Prop :=
  ∀ (l : Nat) (J Jx : Nat → List α → World → Prop) (W : World), Below w.heap.size w W → (∀ hi, AbidesFrom W.heap.size (J hi)) → (∀ hi, AbidesFrom W.heap.size (Jx hi)) →
    (∀ hi pre x W1, hi ≤ W1.heap.size → J hi pre W1 → Sp (pre ++ [x]) → pre.length < N → YieldAt F (n - 1) P l (encs x) W1 fun e W' =>
      (e = .returned (.bool true) ∧ J hi (pre ++ [x]) W' ∧ KeepR W.heap.size hi W1 W') ∨ (e = .returned (.bool false) ∧ Jx hi (pre ++ [x]) W')) →
    (∀ W0, Below W.heap.size W W0 → J W0.heap.size [] W0) →
    CallsIn F n P g (#[.func (.yield l) #[] #[]] ++ lb) W fun e W' => (∃ v, e = .returned v) ∧ ∃ hi, W.heap.size ≤ hi ∧ ((∃ xs, S xs ∧ J hi xs W') ∨ (∃ pre, Sp pre ∧ Jx hi pre W'))

variable {F : Fence} {n : Nat} {P : Program}
theorem wpIn_rangeFunc_H {α : Type} {g : Operand} {ps : Array Tmp} {assign body : Code} {Q : Exit → Act → World → Prop} {a : Act} {w : World}
    (hro : F.round = none) (h1 : 1 ≤ n) {gf : Nat} {lb : Array Value} (hg : a.eval g = .func (.func gf) #[] lb) (hFg : F.fn gf) (eg : ∀ args w, (callFunc gf args).run P w = .ok (.enter gf args) w)
    {encs : α → Array Value} {S Sp : List α → Prop} {N : Nat} {w0 : World} (hseq : SeqStopsH F (n - 1) P gf lb encs S Sp N w0)
    (hb0 : Below w0.heap.size w0 w) (hps : ∀ x, (encs x).size = ps.size)
    (I : Nat → List α → World → Prop) (Ix : Nat → Code → List α → World → Prop) (hI : ∀ hi, OwnFrom w.heap.size (I hi)) (hIx : ∀ hi c, OwnFrom w.heap.size (Ix hi c)) (h0 : ∀ W0, Below w.heap.size w W0 → I W0.heap.size [] W0) (a₁ : α → Act)
    (hassign : ∀ (l : Nat) (x : α) (W : World) (K : Act → World → Prop), K (a₁ x) W →
      assign.wpIn (F.inRound l) (n - 1 - 1) P (Exit.then K (fun _ _ _ => False)) { tmps := (ps.zip (encs x)).foldl (fun t (p, v) => t.setIfInBounds p v) a.tmps, defers := [] } W)
    (hbody : ∀ (hi l : Nat) (pre : List α) (x : α) (W : World), hi ≤ W.heap.size → I hi pre W → Sp (pre ++ [x]) → pre.length < N → body.wpIn (F.inRound l) (n - 1 - 1) P (ownPostK (KeepR (w.heap.size + 2) hi) (I hi) (Ix hi) (pre ++ [x]) W) (a₁ x) W)
    (hdone : ∀ (hi D : Nat) (xs : List α) (W : World), w.heap.size ≤ D → S xs → I hi xs W → W.heap[D]? = some (.deferred (some [])) → Q .normal { a with defers := { target := .collected D, args := #[] } :: a.defers } W)
    (hstop : ∀ (hi D : Nat) (c : Code) (pre : List α) (W : World), w.heap.size ≤ D → Sp pre → Ix hi c pre W → W.heap[D]? = some (.deferred (some [])) → c.wpIn F n P Q { a with defers := { target := .collected D, args := #[] } :: a.defers } W) :
    (Code.rangeFunc g ps assign body).wpIn F n P Q a w := by
  refine wpIn_rangeFunc fun fn hfn => ?_
  rw [hro]
  obtain ⟨L, hL⟩ : ∃ L : LoopState → Option Code → Loop, L = fun st pe => { state := st, pending := pe, fn, tmps := a.tmps, params := ps, assign, body, defers := w.heap.size } := ⟨_, rfl⟩
  obtain ⟨U, hU⟩ : ∃ U, U = (w.alloc (.deferred (some []))).alloc (.loop (L .ready none)) := ⟨_, rfl⟩
  have hRU : RecAt U w.heap.size (L .ready none) := by
    subst hU
    constructor
    · have := World.alloc_heap_new (w.alloc (.deferred (some []))) (.loop (L .ready none))
      rwa [World.size_alloc] at this
    · exact (Below.heap_alloc _ _ _ (by simp)).trans (World.alloc_heap_new w _)
  have hsU : U.heap.size = w.heap.size + 2 := by rw [hU]; simp
  have hwU : Below w.heap.size w U := by subst hU; exact (((Below.refl _ w).alloc (Nat.le_refl _) _).alloc (by simp) _)
  have hBU : Below w0.heap.size w0 U := hb0.trans (hwU.mono hb0.size)
  have recB : ∀ W0, Below U.heap.size U W0 → RecAt W0 w.heap.size (L .ready none) := fun W0 h => ⟨(h.block _ (by omega)).trans hRU.1, (h.block _ (by omega)).trans hRU.2⟩
  refine ⟨w.heap.size + 1, [{ target := .collected w.heap.size, args := #[] }], U, { target := .fn (.func gf) lb, args := #[.func (.yield (w.heap.size + 1)) #[] #[]] }, U, gf, #[.func (.yield (w.heap.size + 1)) #[] #[]] ++ lb, U, ?_, ?_, ?_, ?_, fun _ => h1, ?_⟩
  · rw [hU, hL]
    exact run_enterLoop_outer _ _ _ _ _
  · simp only [resolve, hg]
    simp [go_sem]
  · intro f' hf'
    simp [Target.leads] at hf'
    subst hf'
    exact hFg
  · simp [invoke, go_sem, eg]
  · have toCells : ∀ {A : World} {row : Option Nat}, (∀ r, row = some r → U.heap.size ≤ r ∧ ∃ o : Obj, A.heap[r]? = some o ∧ o.isWalk = true) → ∀ r, row = some r → w.heap.size ≤ r ∧ ∃ o : Obj, A.heap[r]? = some o ∧ o.isCells = false := by
      intro A row hr r e
      obtain ⟨h1, o, h2, h3⟩ := hr r e
      exact ⟨by omega, o, h2, Obj.not_cells_of_walk h3⟩
    refine (hseq (w.heap.size + 1) (fun hi pre W => I hi pre W ∧ RecAt W w.heap.size (L .ready none)) (fun hi pre W => ∃ c, Ix hi c pre W ∧ RecAt W w.heap.size (L .done (some c))) U hBU ?_ ?_ ?_ (fun W0 hW0 => ⟨h0 W0 (hwU.trans (hW0.mono (by omega))), recB W0 hW0⟩)).mono ?_
    · exact fun hi s A B row hs hg' hr => ⟨hI hi s A B row hs.1 hg' (toCells hr), hs.2.abides hg' fun r e => (hr r e).2⟩
    · rintro hi s A B row ⟨c, hc, hrec⟩ hg' hr
      exact ⟨c, hIx hi c s A B row hc hg' (toCells hr), hrec.abides hg' fun r e => (hr r e).2⟩
    · rintro hi pre x W hhi ⟨hi0, hrec⟩ hsp hlen
      have hready : (L .ready none).state = .ready := by rw [hL]
      have hy := run_yield (P := P) (args := encs x) hrec.1 (by rw [hL]; exact hps x)
      rw [hL] at hy
      refine ⟨fn, _, assign, body, hy, roundIn_of_wpIn hfn (hassign _ x W _ ⟨_, run_beginRound hrec.1 hready, ?_⟩)⟩
      have hbusy : RecAt (W.putObj (w.heap.size + 1) (.loop { L .ready none with state := .busy })) w.heap.size { L .ready none with state := .busy } := hrec.put
      have kb : ∀ (V : World) (o : Obj), KeepR U.heap.size hi V (V.putObj (w.heap.size + 1) o) := fun V o => ⟨by simp, fun i h1 _ => World.putObj_heap_other (by omega)⟩
      refine wpIn_mono (hbody hi _ pre x _ (by simpa using hhi) ((hI hi).putObj _ hi0 (by omega) hrec.1 rfl) hsp hlen) ?_
      have shut : ∀ (jump : Option Code) (W3 : World), KeepsOthers (W.putObj (w.heap.size + 1) (.loop { L .ready none with state := .busy })) W3 →
          (Instr.endRound (w.heap.size + 1) jump).run P W3 = .ok (.bool jump.isNone) (W3.putObj (w.heap.size + 1) (.loop (L (if jump.isNone then .ready else .done) jump))) ∧
          RecAt W3 w.heap.size { L .ready none with state := .busy } ∧ RecAt (W3.putObj (w.heap.size + 1) (.loop (L (if jump.isNone then .ready else .done) jump))) w.heap.size (L (if jump.isNone then .ready else .done) jump) := by
        intro jump W3 hk3
        have h3 := hbusy.others hk3
        have hr := run_endRound (P := P) jump h3.1
        rw [hL] at hr h3 ⊢
        exact ⟨hr, h3, h3.put⟩
      rintro e a3 W3 hp
      cases e with
      | normal =>
        obtain ⟨hk3, hkp3, hi3⟩ := hp
        obtain ⟨hr, hb3, hn3⟩ := shut none W3 hk3
        rw [← hsU] at hkp3
        exact ⟨_, _, hr, .inl ⟨rfl, ⟨(hI hi).putObj _ hi3 (by omega) hb3.1 rfl, hn3⟩, ((kb _ _).trans hkp3).trans (kb _ _)⟩⟩
      | ret =>
        obtain ⟨hr, hb3, hn3⟩ := shut (some .ret) W3 hp.1
        exact ⟨_, _, hr, .inr ⟨rfl, .ret, (hIx hi _).putObj _ hp.2 (by omega) hb3.1 rfl, hn3⟩⟩
      | exit id =>
        obtain ⟨hr, hb3, hn3⟩ := shut (some (.exit id)) W3 hp.1
        exact ⟨_, _, hr, .inr ⟨rfl, .exit id, (hIx hi _).putObj _ hp.2 (by omega) hb3.1 rfl, hn3⟩⟩
      | goto t =>
        obtain ⟨hr, hb3, hn3⟩ := shut (some (.goto t)) W3 hp.1
        exact ⟨_, _, hr, .inr ⟨rfl, .goto t, (hIx hi _).putObj _ hp.2 (by omega) hb3.1 rfl, hn3⟩⟩
      | panic ch => exact hp.elim
      | outgrown => exact hp.elim
    · have over : ∀ {st : LoopState} {pe : Option Code} {W2 : World}, st ≠ .busy → RecAt W2 w.heap.size (L st pe) → ∃ o, (Instr.endLoop (w.heap.size + 1)).run P W2 = .ok pe (W2.putObj (w.heap.size + 1) o) := by
        intro st pe W2 hst h2
        have hr := run_endLoop (P := P) h2.1 (by rw [hL]; exact hst)
        rw [hL] at hr
        exact ⟨_, hr⟩
      rintro e W2 ⟨⟨v, rfl⟩, hi, _, (⟨xs, hS, hi0, hrec⟩ | ⟨pre, hSp, c, hi0, hrec⟩)⟩
      · obtain ⟨o, hr⟩ := over (by simp) hrec
        exact ⟨none, _, hr, hdone hi _ xs _ (Nat.le_refl _) hS ((hI hi).putObj _ hi0 (by omega) hrec.1 rfl) ((World.putObj_heap_other (by omega)).trans hrec.2)⟩
      · obtain ⟨o, hr⟩ := over (by simp) hrec
        exact ⟨some c, _, hr, hstop hi _ c pre _ (Nat.le_refl _) hSp ((hIx hi c).putObj _ hi0 (by omega) hrec.1 rfl) ((World.putObj_heap_other (by omega)).trans hrec.2)⟩
end Go.Proofs.YtckdpejdnejhfaaGreat.Ac

/- House: may a lot be: ladder.Check, falling.Check, the kinds' may. -/
namespace Go.Proofs.YtckdpejdnejhfaaGreat.Ho
open Go.RowKit
open Go.Proofs.YtckdpejdnejhfaaGreat.Vb Go.Proofs.YtckdpejdnejhfaaGreat.Ac

theorem hcoins_any (t : Int) (w : World) : Calls Tryz.prog 114 #[.int .i64 t] w fun e w' => e = .returned (.bool (coinB t)) ∧ w' = w := by
  unfold coinB
  by_cases h1 : 0 ≤ t
  · by_cases h2 : t ≤ 1099511627776
    · rw [decide_eq_true h1, decide_eq_true h2]
      go_enter Tryz.func114, Tryz.ntmps114
      go_wp2_with fail
      go_ret
      exact ⟨rfl, rfl⟩
    · rw [decide_eq_true h1, decide_eq_false h2]
      go_enter Tryz.func114, Tryz.ntmps114
      go_wp2_with fail
      go_ret
      exact ⟨rfl, rfl⟩
  · rw [decide_eq_false h1]
    go_enter Tryz.func114, Tryz.ntmps114
    go_wp2_with fail
    go_ret
    exact ⟨rfl, rfl⟩

def withB (x m : Int) : Bool := decide (0 ≤ x) && decide (x ≤ m)
/-- what falling.Check asks -/
def fallLot (l : LotR) : Bool :=
  decide (l = ⟨2, l.opens, l.closes, l.start, 0, 0, 0, l.floor, l.fall, 0, 0⟩) && (coinB l.opens && coinB l.closes && decide (l.opens < l.closes) && coinB l.start && withB l.floor l.start && coinB l.fall)

/-- what the kinds ask besides -/
def sealLot (l : LotR) : Bool := decide (l = ⟨3, l.opens, l.closes, 0, 0, 0, 0, l.floor, 0, 0, 0⟩) && coinB l.floor
def unitLot (l : LotR) : Bool := decide (l = ⟨4, l.opens, l.closes, 0, 0, 0, 0, l.floor, 0, l.count, 0⟩) && (coinB l.floor && decide (1 ≤ l.count) && decide (l.count ≤ 64))
def packLot (l : LotR) : Bool := decide (l = ⟨5, l.opens, l.closes, 0, 0, 0, 0, 0, 0, l.count, l.rule⟩) && (decide (1 ≤ l.count) && decide (l.count ≤ 10) && (decide (l.rule = 1) || decide (l.rule = 2)))

end Go.Proofs.YtckdpejdnejhfaaGreat.Ho

/- House: house.kinds, house.Check. -/
namespace Go.Proofs.YtckdpejdnejhfaaGreat.Ho
open Go.RowKit
open Go.Proofs.YtckdpejdnejhfaaGreat.Vb Go.Proofs.YtckdpejdnejhfaaGreat.Ac

/-- the kind of a number -/
def kindV (k : Int) : Value :=
  if k = 1 then .iface 245 (.agg #[]) else if k = 2 then .iface 246 (.agg #[]) else if k = 3 then .iface 247 (.agg #[]) else if k = 4 then .iface 248 (.agg #[]) else if k = 5 then .iface 249 (.agg #[]) else .nilIface
/-- may a lot be -/
def mayB (l : LotR) : Bool := if l.kind = 1 then riseLot l else if l.kind = 2 then fallLot l else if l.kind = 3 then sealLot l else if l.kind = 4 then unitLot l else if l.kind = 5 then packLot l else false
def lotOk (l : LotR) : Bool := coinB l.opens && coinB l.closes && decide (l.opens < l.closes) && mayB l

end Go.Proofs.YtckdpejdnejhfaaGreat.Ho

/- House: rows of the house's own, in blocks of a set. -/
namespace Go.Proofs.YtckdpejdnejhfaaGreat.Ac
theorem Chg.cell {X : Nat → Prop} {a b : World} (h : Chg X a b) {p : Addr} (hp : p.block < a.heap.size) (hx : ¬ X p.block) : b.cell? p = a.cell? p := by
  unfold World.cell?
  rw [h.block _ hp hx]
end Go.Proofs.YtckdpejdnejhfaaGreat.Ac
namespace Go.Proofs.YtckdpejdnejhfaaGreat.Ho
open Go.RowKit
open Go.Proofs.YtckdpejdnejhfaaGreat.Vb Go.Proofs.YtckdpejdnejhfaaGreat.Ac

/-- a row in memory of its own, in blocks of R -/
structure RowAt (W : World) (R : Nat → Prop) (e : TypeId) (sz : Nat) (v : Value) (n : Nat) (xs : List Value) : Prop where
  own : W.ownsRow 0 e sz v n xs
  blk : ∀ b, v.ownBlock = some b → R b
section
variable {W W' : World} {R R' X : Nat → Prop} {e : TypeId} {sz n : Nat} {v : Value} {xs : List Value}
theorem RowAt.lt (h : RowAt W R e sz v n xs) {b : Nat} (hb : v.ownBlock = some b) : b < W.heap.size := (h.own.lt b hb).2
theorem RowAt.nil : RowAt W R e sz (.slice none 0 0) 0 [] := ⟨World.ownsRow_nil _ _ _ _, fun _ h => by cases h⟩
theorem RowAt.mono (h : RowAt W R e sz v n xs) (hR : ∀ b, b < W.heap.size → R b → R' b) : RowAt W R' e sz v n xs := ⟨h.own, fun b hb => hR b (h.lt hb) (h.blk b hb)⟩
theorem RowAt.chg (h : RowAt W R e sz v n xs) (hc : Chg X W W') (hR : ∀ b, b < W.heap.size → R b → ¬ X b) : RowAt W' R e sz v n xs := by
  refine ⟨⟨h.own.1, ?_⟩, h.blk⟩
  rcases h.own.2 with h2 | ⟨g, cap, cur, hv, hb, hg, r⟩
  · exact .inl h2
  · have hlt := (Array.getElem?_eq_some_iff.1 hg).1
    exact .inr ⟨g, cap, cur, hv, hb, (hc.block g hlt (hR g hlt (h.blk g (by rw [hv]; rfl)))).trans hg, r⟩
theorem RowAt.chgB (h : RowAt W R e sz v n xs) (hc : Chg X W W') (hX : ∀ b, v.ownBlock = some b → ¬ X b) : RowAt W' R e sz v n xs := by
  refine ⟨⟨h.own.1, ?_⟩, h.blk⟩
  rcases h.own.2 with h2 | ⟨g, cap, cur, hv, hb, hg, r⟩
  · exact .inl h2
  · have hlt := (Array.getElem?_eq_some_iff.1 hg).1
    exact .inr ⟨g, cap, cur, hv, hb, (hc.block g hlt (hX g (by rw [hv]; rfl))).trans hg, r⟩
theorem RowAt.grow (h : RowAt W R e sz v n xs) (hb : Below W.heap.size W W') : RowAt W' R e sz v n xs := h.chg (Chg.of (fun _ => False) hb) fun _ _ _ => id
theorem RowAt.form (h : RowAt W R e sz v n xs) : ∃ A cap, v = .slice A n cap := own_form h.own
theorem RowAt.len (h : RowAt W R e sz v n xs) : xs.length = n * sz := h.own.1
theorem RowAt.sl (h : RowAt W R e sz v n xs) : Sl W R v n sz xs := (Sl.of_own h.own).mono fun b _ hb => h.blk b hb
theorem RowAt.max (h : RowAt W R e sz v n xs) : n ≤ maxLen := by
  rcases h.own.2 with ⟨_, h⟩ | ⟨g, cap, cur, _, _, _, h1, h2, _⟩
  · omega
  · omega
/-- a row that is not empty: its block -/
theorem RowAt.ex (h : RowAt W R e sz v n xs) (hn : 0 < n) : ∃ g cap, v = .slice (some ⟨g, 0, none⟩) n cap ∧ R g ∧ g < W.heap.size ∧ n ≤ cap := by
  rcases h.own.2 with ⟨_, h0⟩ | ⟨g, cap, cur, hv, _, _, hc, _⟩
  · omega
  · exact ⟨g, cap, hv, h.blk g (by rw [hv]; rfl), h.lt (b := g) (by rw [hv]; rfl), hc⟩
theorem RowAt.set {g cap : Nat} (h : RowAt W R e sz (.slice (some ⟨g, 0, none⟩) n cap) n xs) (j : Nat) (u : Value) : RowAt (W.setCell ⟨g, j, none⟩ u) R e sz (.slice (some ⟨g, 0, none⟩) n cap) n (xs.set j u) :=
  ⟨(h.own.stored j u).1, h.blk⟩
/-- behind an append -/
theorem RowAt.app {v' : Value} {n' : Nat} {ys : List Value} (h : RowAt W R e sz v n xs) (h2 : W'.ownsRow 0 e sz v' n' ys) (h3 : v'.ownBlock = v.ownBlock ∨ v'.ownBlock = some W.heap.size) :
    RowAt W' (fun b => R b ∨ b = W.heap.size) e sz v' n' ys := by
  refine ⟨h2, fun b hb => ?_⟩
  rcases h3 with e | e
  · exact .inl (h.blk b (e ▸ hb))
  · rw [e] at hb; cases hb; exact .inr rfl
end
end Go.Proofs.YtckdpejdnejhfaaGreat.Ho

/- A region that draws its order: what is taken first is taken under a condition S; behind the last stores S need not hold. -/
namespace Go.Proofs.YtckdpejdnejhfaaGreat.Vb
open Go

section
variable {P : Program} {ops : Array Oper} {Q : Exit → Act → World → Prop} {md : Region.Mode} {S : World → Prop} {fins : List Nat}

/-- each of the last operations waits for number i -/
def waitB (md : Region.Mode) (ops : Array Oper) (fins : List Nat) (i : Nat) : Bool :=
  fins.all fun j => ((ops[j]?).map fun o => o.after.any fun e => Region.binds md e && decide (e.on = i)).getD false

theorem waitB_spec {i j : Nat} {o : Oper} (h : waitB md ops fins i = true) (hj : fins.contains j = true) (ho : ops[j]? = some o) : ∃ e ∈ o.after, Region.binds md e = true ∧ e.on = i := by
  unfold waitB at h
  have := List.all_eq_true.1 h j (by simpa using hj)
  rw [ho] at this
  obtain ⟨k, hk, h1, h2⟩ : ∃ k, ∃ h : k < o.after.size, Region.binds md o.after[k] = true ∧ o.after[k].on = i := by simpa using this
  exact ⟨_, Array.getElem_mem hk, h1, h2⟩

def wpAnyF (P : Program) (md : Region.Mode) (ops : Array Oper) (Q : Exit → Act → World → Prop) (S : World → Prop) (fins : List Nat) : Nat → Array Bool → Act → World → Prop
  | 0, listed, a, w => Region.ready md ops listed = [] ∧ Q .normal a w
  | fuel + 1, listed, a, w =>
    (Region.ready md ops listed = [] → Q .normal a w) ∧
    ∀ i ∈ Region.ready md ops listed, wpOp P ops Q i (fun a' w' => (fins.contains i = false → S w') ∧ wpAnyF P md ops Q S fins fuel (listed.setIfInBounds i true) a' w') a w

theorem wpAny_of_F : ∀ (fuel : Nat) (listed : Array Bool) (a : Act) (w : World), wpAnyF P md ops Q S fins fuel listed a w → wpAny P md ops Q fuel listed a w
  | 0, _, _, _, h => h
  | fuel + 1, _, _, _, h => ⟨h.1, fun i hi => wpOp_mono (fun a' w' h' => wpAny_of_F fuel _ a' w' h'.2) (h.2 i hi)⟩

theorem wpAnyF_first {i : Nat} {oi : Oper} {v : Value} (hi : ops[i]? = some oi) (hsel : ∀ (j : Nat) (o : Oper) cs b, ops[j]? = some o → o.op ≠ .select cs b)
    (hfin : waitB md ops fins i = true) (hQ : ∀ c a w, Q (.panic c) (a.put oi.dst v) w → Q (.panic c) a w) :
    ∀ (fuel : Nat) (listed : Array Bool) (a : Act) (w : World),
      (∀ j oj, ops[j]? = some oj → j ≠ i → listed.getD j true = false → (∀ e ∈ oj.after, Region.binds md e = true → e.on ≠ i) → oi.apart ops oj = true) →
      i ∈ Region.ready md ops listed → YieldsIf P ops S oi v a → S w →
      wpAnyF P md ops Q S fins fuel (listed.setIfInBounds i true) (a.put oi.dst v) w → wpAnyF P md ops Q S fins (fuel + 1) listed a w := by
  intro fuel
  induction fuel with
  | zero =>
    intro listed a w _ hr hy hS H
    refine ⟨fun h => (by rw [h] at hr; cases hr), fun j hj => ?_⟩
    by_cases hji : j = i
    · subst hji; exact hy.wpOp hi hS ⟨fun _ => hS, H⟩
    · have := ready_mono hj hji
      rw [H.1] at this
      cases this
  | succ fuel ih =>
    intro listed a w hfree hr hy hS H
    refine ⟨fun h => (by rw [h] at hr; cases hr), fun j hj => ?_⟩
    by_cases hji : j = i
    · subst hji; exact hy.wpOp hi hS ⟨fun _ => hS, H⟩
    · have h1 := H.2 j (ready_mono hj hji)
      obtain ⟨hjun, oj, hoj, hall⟩ := mem_ready.1 hj
      have hnot : ∀ e ∈ oj.after, Region.binds md e = true → e.on ≠ i := fun e he hb heq => by
        have h1 := hall e he hb
        have h0 := (mem_ready.1 hr).1
        rw [heq] at h1
        rcases Nat.lt_or_ge i listed.size with h' | h'
        · simp [h'] at h0 h1; rw [h0] at h1; cases h1
        · simp [Array.getElem?_eq_none h'] at h1
      have hnf : fins.contains j = false := by
        cases hc : fins.contains j with
        | false => rfl
        | true =>
          obtain ⟨e, he, hb, heq⟩ := waitB_spec hfin hc hoj
          exact absurd heq (hnot e he hb)
      have h2 := wpOp_putIf hoj (hfree j oj hoj hji hjun hnot) (fun cs b => hsel i oi cs b hi) (fun cs b => hsel j oj cs b hoj) hQ hy h1
      have hfree' : ∀ k ok, ops[k]? = some ok → k ≠ i → (listed.setIfInBounds j true).getD k true = false →
          (∀ e ∈ ok.after, Region.binds md e = true → e.on ≠ i) → oi.apart ops ok = true := fun k ok hk hki hun hno => by
        refine hfree k ok hk hki ?_ hno
        by_cases hjk : j = k
        · subst hjk; exact hjun
        · rw [getD_set_ne true hjk] at hun; exact hun
      refine wpOp_mono (fun a' w' h3 => ⟨h3.2.1, ih (listed.setIfInBounds j true) a' w' hfree' (ready_mono hr (Ne.symm hji)) h3.1 (h3.2.1 hnf) ?_⟩) h2
      rw [Array.setIfInBounds_comm _ _ hji]
      exact h3.2.2

theorem wpAnyF_take {i : Nat} {oi : Oper} {v : Value} {fuel : Nat} {listed : Array Bool} {a : Act} {w : World} (hi : ops[i]? = some oi)
    (hs : Region.noSelect ops = true) (hf : Region.free md ops listed i = true) (hr : (Region.ready md ops listed).contains i = true) (hfin : waitB md ops fins i = true)
    (hQ : ∀ c a w, Q (.panic c) (a.put oi.dst v) w → Q (.panic c) a w) (hy : YieldsIf P ops S oi v a) (hS : S w)
    (h : wpAnyF P md ops Q S fins fuel (listed.setIfInBounds i true) (a.put oi.dst v) w) : wpAnyF P md ops Q S fins (fuel + 1) listed a w :=
  wpAnyF_first hi (Region.noSelect_spec hs) hfin hQ fuel listed a w (Region.free_spec hi hf) (by simpa using hr) hy hS h

theorem drop_at {os : List Oper} {i : Nat} {o : Oper} (h : ops.toList.drop i = o :: os) : ops[i]? = some o := by
  have : (ops.toList.drop i)[0]? = some o := by rw [h]; rfl
  rw [List.getElem?_drop] at this
  simpa using this
theorem pb {α : Type} (l : List α) (i : Nat) (a : α) : l.toArray.setIfInBounds i a = (l.set i a).toArray := List.setIfInBounds_toArray _ _ _
theorem pz {α : Type} (a b : α) (l : List α) : (a :: l).set 0 b = b :: l := rfl
theorem ps {α : Type} (a b : α) (l : List α) (n : Nat) : (a :: l).set (n + 1) b = a :: l.set n b := rfl
/-- a pure operation is taken first -/
theorem tp (i : Nat) {oi : Oper} {os : List Oper} {v : Value} {fuel : Nat} {listed : Array Bool} {a b : Act} {w : World} (hS : S w) (h : wpAnyF P md ops Q S fins fuel (listed.setIfInBounds i true) b w) (hi : ops.toList.drop i = oi :: os := by rfl)
    (hs : Region.noSelect ops = true := by kernel_rfl) (hf : Region.free md ops listed i = true := by kernel_rfl) (hr : (Region.ready md ops listed).contains i = true := by kernel_rfl) (hfin : waitB md ops fins i = true := by kernel_rfl)
    (hQ : ∀ c a w, Q (.panic c) (a.put oi.dst v) w → Q (.panic c) a w := by exact fun _ _ _ h => h) (hw : Region.wanted oi (yielded ops a.tmps) = true := by rfl)
    (hy : ∀ w, S w → (execOp a.eval oi).run P w = .ok (.value v) w := by intro _ _; go_simp; try with_reducible rfl)
    (hb : a.put oi.dst v = b := by first | (simp only [Act.put, pb, pz, ps]; done) | (simp only [Act.put, pb, pz, ps]; rfl) | rfl) : wpAnyF P md ops Q S fins (fuel + 1) listed a w :=
  wpAnyF_take (drop_at hi) hs hf hr hfin hQ (.inl ⟨hw, hy⟩) hS (hb ▸ h)
/-- an operation whose yield is shown apart -/
theorem tx (i : Nat) {oi : Oper} {os : List Oper} {v : Value} {fuel : Nat} {listed : Array Bool} {a b : Act} {w : World} (hS : S w) (hy : ∀ w, S w → (execOp a.eval oi).run P w = .ok (.value v) w) (h : wpAnyF P md ops Q S fins fuel (listed.setIfInBounds i true) b w) (hi : ops.toList.drop i = oi :: os := by rfl)
    (hs : Region.noSelect ops = true := by kernel_rfl) (hf : Region.free md ops listed i = true := by kernel_rfl) (hr : (Region.ready md ops listed).contains i = true := by kernel_rfl) (hfin : waitB md ops fins i = true := by kernel_rfl)
    (hQ : ∀ c a w, Q (.panic c) (a.put oi.dst v) w → Q (.panic c) a w := by exact fun _ _ _ h => h) (hw : Region.wanted oi (yielded ops a.tmps) = true := by rfl)
    (hb : a.put oi.dst v = b := by first | (simp only [Act.put, pb, pz, ps]; done) | (simp only [Act.put, pb, pz, ps]; rfl) | rfl) : wpAnyF P md ops Q S fins (fuel + 1) listed a w :=
  wpAnyF_take (drop_at hi) hs hf hr hfin hQ (.inl ⟨hw, hy⟩) hS (hb ▸ h)
/-- an operation that reads: A says what lies where -/
theorem tl {A : World → Prop} (i : Nat) {oi : Oper} {os : List Oper} {v : Value} {fuel : Nat} {listed : Array Bool} {a b : Act} {w : World} (hS : S w) (hA : RowKit.Hid (∀ w, S w → A w)) (h : wpAnyF P md ops Q S fins fuel (listed.setIfInBounds i true) b w) (hi : ops.toList.drop i = oi :: os := by rfl)
    (hs : Region.noSelect ops = true := by kernel_rfl) (hf : Region.free md ops listed i = true := by kernel_rfl) (hr : (Region.ready md ops listed).contains i = true := by kernel_rfl) (hfin : waitB md ops fins i = true := by kernel_rfl)
    (hQ : ∀ c a w, Q (.panic c) (a.put oi.dst v) w → Q (.panic c) a w := by exact fun _ _ _ h => h) (hw : Region.wanted oi (yielded ops a.tmps) = true := by rfl)
    (hy : ∀ w, A w → (execOp a.eval oi).run P w = .ok (.value v) w := by intro _ _; go_simp; try with_reducible rfl)
    (hb : a.put oi.dst v = b := by first | (simp only [Act.put, pb, pz, ps]; done) | (simp only [Act.put, pb, pz, ps]; rfl) | rfl) : wpAnyF P md ops Q S fins (fuel + 1) listed a w :=
  wpAnyF_take (drop_at hi) hs hf hr hfin hQ (.inl ⟨hw, fun w hS => hy w (hA.out w hS)⟩) hS (hb ▸ h)

theorem wpAnyF_done {listed : Array Bool} {a : Act} {w : World} (hr : Region.ready md ops listed = []) (h : Q .normal a w) : ∀ fuel, wpAnyF P md ops Q S fins fuel listed a w
  | 0 => ⟨hr, h⟩
  | _ + 1 => ⟨fun _ => h, by rw [hr]; simp⟩

def AllReadyF (P : Program) (md : Region.Mode) (ops : Array Oper) (Q : Exit → Act → World → Prop) (S : World → Prop) (fins : List Nat) (fuel : Nat) (listed : Array Bool) (a : Act) (w : World) (rs : List Nat) : Prop :=
  ∀ i ∈ rs, wpOp P ops Q i (fun a' w' => (fins.contains i = false → S w') ∧ wpAnyF P md ops Q S fins fuel (listed.setIfInBounds i true) a' w') a w
theorem AllReadyF.nil {fuel : Nat} {listed : Array Bool} {a : Act} {w : World} : AllReadyF P md ops Q S fins fuel listed a w [] := fun _ h => by cases h
theorem AllReadyF.cons {fuel : Nat} {listed : Array Bool} {a : Act} {w : World} {i : Nat} {o : Oper} {rs : List Nat} (ho : ops[i]? = some o) (hc : fins.contains i = false)
    (h : ∀ K' : Act → World → Prop, Shut (∀ a w, S w → (S w → wpAnyF P md ops Q S fins fuel (listed.setIfInBounds i true) a w) → K' a w) → if Region.wanted o (yielded ops a.tmps) = true then Oper.wp P o a w K' Q else K' (a.put o.dst undef) w)
    (hs : AllReadyF P md ops Q S fins fuel listed a w rs) : AllReadyF P md ops Q S fins fuel listed a w (i :: rs) := fun j hj => by
  rcases List.mem_cons.1 hj with rfl | hj
  · exact wpOp_step ho (fun K' hK => h K' (fun a w hS hW => hK a w ⟨fun _ => hS, hW hS⟩))
  · exact hs j hj
theorem AllReadyF.fin {fuel : Nat} {listed : Array Bool} {a : Act} {w : World} {i : Nat} {o : Oper} {rs : List Nat} (ho : ops[i]? = some o) (hc : fins.contains i = true)
    (h : ∀ K' : Act → World → Prop, Shut (∀ a w, wpAnyF P md ops Q S fins fuel (listed.setIfInBounds i true) a w → K' a w) → if Region.wanted o (yielded ops a.tmps) = true then Oper.wp P o a w K' Q else K' (a.put o.dst undef) w)
    (hs : AllReadyF P md ops Q S fins fuel listed a w rs) : AllReadyF P md ops Q S fins fuel listed a w (i :: rs) := fun j hj => by
  rcases List.mem_cons.1 hj with rfl | hj
  · exact wpOp_step ho (fun K' hK => h K' (fun a w hW => hK a w ⟨fun hf => (by rw [hc] at hf; cases hf), hW⟩))
  · exact hs j hj
theorem wpAnyF_ready {rs : List Nat} {fuel : Nat} {listed : Array Bool} {a : Act} {w : World} (hr : Region.ready md ops listed = rs) (hne : rs ≠ [])
    (h : AllReadyF P md ops Q S fins fuel listed a w rs) : wpAnyF P md ops Q S fins (fuel + 1) listed a w := ⟨fun h0 => absurd (hr ▸ h0) hne, hr ▸ h⟩
theorem tc {fuel : Nat} {listed : Array Bool} {a : Act} {w : World} {i : Nat} {o : Oper} {os : List Oper} {rs : List Nat} (h : ∀ K' : Act → World → Prop, Shut (∀ a w, S w → (S w → wpAnyF P md ops Q S fins fuel (listed.setIfInBounds i true) a w) → K' a w) → if Region.wanted o (yielded ops a.tmps) = true then Oper.wp P o a w K' Q else K' (a.put o.dst undef) w)
    (hs : AllReadyF P md ops Q S fins fuel listed a w rs) (ho : ops.toList.drop i = o :: os := by rfl) (hc : fins.contains i = false := by rfl) : AllReadyF P md ops Q S fins fuel listed a w (i :: rs) := .cons (drop_at ho) hc h hs
theorem tr (rs : List Nat) {fuel : Nat} {listed : Array Bool} {a : Act} {w : World} (h : AllReadyF P md ops Q S fins fuel listed a w rs) (hr : Region.ready md ops listed = rs := by kernel_rfl) (hne : rs ≠ [] := by simp) : wpAnyF P md ops Q S fins (fuel + 1) listed a w := wpAnyF_ready hr hne h
/-- one operation alone is ready -/
theorem stp (i : Nat) {fuel : Nat} {listed : Array Bool} {a : Act} {w : World} {o : Oper} {os : List Oper} (h : ∀ K' : Act → World → Prop, Shut (∀ a w, S w → (S w → wpAnyF P md ops Q S fins fuel (listed.setIfInBounds i true) a w) → K' a w) → if Region.wanted o (yielded ops a.tmps) = true then Oper.wp P o a w K' Q else K' (a.put o.dst undef) w)
    (hr : Region.ready md ops listed = [i] := by kernel_rfl) (ho : ops.toList.drop i = o :: os := by rfl) (hc : fins.contains i = false := by rfl) : wpAnyF P md ops Q S fins (fuel + 1) listed a w := wpAnyF_ready hr (by simp) (.cons (drop_at ho) hc h .nil)
theorem stf (i : Nat) {fuel : Nat} {listed : Array Bool} {a : Act} {w : World} {o : Oper} {os : List Oper} (h : ∀ K' : Act → World → Prop, Shut (∀ a w, wpAnyF P md ops Q S fins fuel (listed.setIfInBounds i true) a w → K' a w) → if Region.wanted o (yielded ops a.tmps) = true then Oper.wp P o a w K' Q else K' (a.put o.dst undef) w)
    (hr : Region.ready md ops listed = [i] := by kernel_rfl) (ho : ops.toList.drop i = o :: os := by rfl) (hc : fins.contains i = true := by rfl) : wpAnyF P md ops Q S fins (fuel + 1) listed a w := wpAnyF_ready hr (by simp) (.fin (drop_at ho) hc h .nil)
theorem wp_region_F {id : Nat} {a : Act} {w : World} (S : World → Prop) (fins : List Nat) (hm : P.follows .mixedOrders = true) (hS : S w.drew)
    (h : S w.drew → wpAnyF P .any ops Q S fins ops.size (Array.replicate ops.size false) a w.drew) : (Code.region id ops true).wp P Q a w :=
  wp_region_any hm (wpAny_of_F _ _ _ _ (h hS))
end
end Go.Proofs.YtckdpejdnejhfaaGreat.Vb

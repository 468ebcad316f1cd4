/- Account: what an account is in memory; the library's functions over its map. -/
import Derived.Test.YtibhmgeckghoeaaAccG
import Derived.Test.YtibhmgeckghoeaaAccO
import Derived.Test.YtibhmgeckghoeaaLayAcc
namespace Go.Proofs.Ytibhmgeckghoeaa.Ac
open Go.RowKit Go.Shelf
open Go.Proofs.Ytibhmgeckghoeaa.Vb
open Go.Maps (Keyed)
attribute [local go_sem] Oper.semAt_some

structure Acc where
  bud : Int
  sp : Int
  M : HM
def Acc.held (a : Acc) : Int := sumM a.M
def Acc.free (a : Acc) : Int := a.bud - a.sp - sumM a.M
/-- in order, but for what is spent being in the budget -/
structure Acc.Ok (a : Acc) : Prop where
  bud : coin a.bud
  sp : coin a.sp
  rise : Rising a.M
  each : ∀ p ∈ a.M, 0 ≤ p.1 ∧ p.1 ≤ 9223372036854775807 ∧ 1 ≤ p.2
  sum : sumM a.M ≤ 1099511627776
def Acc.Fine (a : Acc) : Prop := a.sp + sumM a.M ≤ a.bud

structure AccAt (W : World) (b m n : Nat) (a : Acc) : Prop where
  blk : Blk W b 67 #[.int .i64 a.bud, .int .i64 a.sp, .map (some m)]
  own : W.ownsMap Try.prog 3 (plainElem (H := Unit) Try.prog 2) m n (dM a.M)

/-- no account; a zero one; one that stands so -/
inductive Fm where
  | nil
  | zero
  | live (a : Acc)
def Fm.bud : Fm → Int | .live a => a.bud | _ => 0
def Fm.sp : Fm → Int | .live a => a.sp | _ => 0
def Fm.M : Fm → HM | .live a => a.M | _ => []
def Fm.there : Fm → Bool | .live _ => true | _ => false
def Fm.Ok : Fm → Prop | .live a => a.Ok | _ => True
def AtP (W : World) (v : Value) : Fm → Prop
  | .nil => v = .pointer none
  | .zero => ∃ b, v = .pointer (some ⟨b, 0, none⟩) ∧ Blk W b 67 #[.int .i64 0, .int .i64 0, .map none]
  | .live a => ∃ b m n, v = .pointer (some ⟨b, 0, none⟩) ∧ AccAt W b m n a

section
variable {W W' : World} {b m n : Nat} {a : Acc} {v : Value} {f : Fm}
theorem AccAt.ltb (h : AccAt W b m n a) : b < W.heap.size := h.blk.lt
theorem AccAt.ltm (h : AccAt W b m n a) : m < W.heap.size := h.own.lt
theorem AccAt.ne (h : AccAt W b m n a) : b ≠ m := by
  rintro rfl
  obtain ⟨es, clock, h1, _⟩ := h.own
  have := h.blk
  unfold Blk at this
  rw [h1] at this
  cases this
theorem AccAt.chg {X : Nat → Prop} (h : AccAt W b m n a) (hc : Chg X W W') (h1 : ¬ X b) (h2 : ¬ X m) : AccAt W' b m n a := ⟨h.blk.chg hc h1, hc.ownsMap h.own h2⟩
theorem AccAt.grow (h : AccAt W b m n a) (hb : Below W.heap.size W W') : AccAt W' b m n a := h.chg (Chg.of (fun _ => False) hb) id id
theorem AccAt.alloc (h : AccAt W b m n a) (o : Obj) : AccAt (W.alloc o) b m n a := h.grow ((Below.refl _ _).alloc (Nat.le_refl _) o)
theorem AccAt.drewN (h : AccAt W b m n a) (k : Nat) : AccAt (W.drewN k) b m n a := h.grow (below_drewN (Below.refl _ _) k)
theorem AccAt.mono (h : AccAt W b m n a) {n' : Nat} (hn : n ≤ n') : AccAt W b m n' a := ⟨h.blk, h.own.mono hn⟩
theorem AtP.grow (h : AtP W v f) (hb : Below W.heap.size W W') : AtP W' v f := by
  cases f with
  | nil => exact h
  | zero => obtain ⟨b, h1, h2⟩ := h; exact ⟨b, h1, h2.grow hb⟩
  | live a => obtain ⟨b, m, n, h1, h2⟩ := h; exact ⟨b, m, n, h1, h2.grow hb⟩
theorem AtP.alloc (h : AtP W v f) (o : Obj) : AtP (W.alloc o) v f := h.grow ((Below.refl _ _).alloc (Nat.le_refl _) o)
theorem AtP.drewN (h : AtP W v f) (k : Nat) : AtP (W.drewN k) v f := h.grow (below_drewN (Below.refl _ _) k)
theorem AtP.ptr (h : AtP W v f) : ∃ p, v = .pointer p := by
  cases f with
  | nil => exact ⟨_, h⟩
  | zero => obtain ⟨b, h1, h2⟩ := h; exact ⟨_, h1⟩
  | live a => obtain ⟨b, m, n, h1, h2⟩ := h; exact ⟨_, h1⟩
end

theorem int_keyed' : Keyed Try.prog 3 := Maps.int_keyed Try.underlying3
theorem i64wf {x : Int} (h : -9223372036854775808 ≤ x ∧ x ≤ 9223372036854775807) : (Lit.int .i64 x).wf = true := WalkArith.wf_i64 (by omega)
theorem AccAt.look {W : World} {b m n : Nat} {a : Acc} (h : AccAt W b m n a) {x : Int} (hx : -9223372036854775808 ≤ x ∧ x ≤ 9223372036854775807) :
    (Instr.lookup 65 (.map (some m)) (.int .i64 x) false).run Try.prog W = .ok (.int .i64 (atM a.M x)) W := by
  obtain ⟨c, hrun, hat, _⟩ := h.own.lookup_int int_keyed' Try.underlying65 Try.underlying2 (Try.zeroValue2 _) (Maps.keyOf_int_mk Try.underlying3 (i64wf hx))
  rw [dM_at] at hat
  exact hrun.trans (by rw [(Lit.int.inj (DataW.lit.inj hat)).2])
theorem AccAt.put {W : World} {b m n : Nat} {a : Acc} (h : AccAt W b m n a) (hn : n < maxLen) {x v : Int} (hx : -9223372036854775808 ≤ x ∧ x ≤ 9223372036854775807) (hv : -9223372036854775808 ≤ v ∧ v ≤ 9223372036854775807) :
    ∃ W', (Instr.mapUpdate 65 (.map (some m)) (.int .i64 x) (.int .i64 v)).run Try.prog W = .ok () W' ∧ AccAt W' b m (n + 1) { a with M := putM a.M x v } ∧ Chg (· = m) W W' := by
  obtain ⟨W', hrun, h1, h2⟩ := h.own.update int_keyed' Try.underlying65 hn (Maps.keyOf_int_mk Try.underlying3 (i64wf hx)) (plainElem_int Try.underlying2 (i64wf hv))
  rw [dM_put] at h1
  have hc : Chg (· = m) W W' := (Chg.grown h2).mono fun k _ e => by injection e
  exact ⟨W', hrun, ⟨h.blk.chg hc h.ne, h1⟩, hc⟩
theorem AccAt.del {W : World} {b m n : Nat} {a : Acc} (h : AccAt W b m n a) {x : Int} (hx : -9223372036854775808 ≤ x ∧ x ≤ 9223372036854775807) (ty : TypeId) :
    ∃ W', (Builtin.delete_ #[65, 3] ty #[.map (some m), .int .i64 x]).run Try.prog W = .ok (.tuple #[]) W' ∧ AccAt W' b m n { a with M := delM a.M x } ∧ Chg (· = m) W W' := by
  obtain ⟨W', hrun, h1, h2⟩ := h.own.drop int_keyed' Try.underlying65 (Maps.keyOf_int_mk Try.underlying3 (i64wf hx)) ty
  rw [dM_del] at h1
  have hc : Chg (· = m) W W' := (Chg.grown h2.grown).mono fun k _ e => by injection e
  exact ⟨W', hrun, ⟨h.blk.chg hc h.ne, h1⟩, hc⟩
theorem look_nil {W : World} {x : Int} (hx : -9223372036854775808 ≤ x ∧ x ≤ 9223372036854775807) :
    (Instr.lookup 65 (.map none) (.int .i64 x) false).run Try.prog W = .ok (.int .i64 0) W :=
  Maps.look_nil false int_keyed' Try.underlying65 (Try.zeroValue2 _) (Maps.keyOf_int_mk Try.underlying3 (i64wf hx))
end Go.Proofs.Ytibhmgeckghoeaa.Ac

/- Once: a task in memory; what is told of it; jobs. -/
import Derived.Test.YthkgemaajbjgaaaOnA
namespace Go.Proofs.Ythkgemaajbjgaaa.On
open Go.RowKit
open Go.Proofs.Ythkgemaajbjgaaa.Vb Go.Proofs.Ythkgemaajbjgaaa.Ac

/-- a task in memory: done, the lock, over, the value, broken; what lies behind it -/
def TaskAt (W : World) (b : Nat) (d L o v : Int) (br : Bool) (j : Option Value) : Prop :=
  ∃ t cs, Blk W b t cs ∧ cs[0]? = some (.int .u32 d) ∧ cs[1]? = some (.int .i32 L) ∧ cs[3]? = some (.int .u32 o) ∧ cs[4]? = some (.int .i64 v) ∧ cs[5]? = some (.bool br) ∧ cs[6]? = j
section
variable {W W' : World} {b : Nat} {d L o v : Int} {br : Bool} {j : Option Value}
theorem TaskAt.lt (h : TaskAt W b d L o v br j) : b < W.heap.size := by
  obtain ⟨t, cs, h, _⟩ := h
  exact h.lt
theorem TaskAt.same (h : TaskAt W b d L o v br j) (hb : W'.heap[b]? = W.heap[b]?) : TaskAt W' b d L o v br j := by
  obtain ⟨t, cs, h, r⟩ := h
  exact ⟨t, cs, hb.trans h, r⟩
theorem TaskAt.grow (h : TaskAt W b d L o v br j) (hb : Below W.heap.size W W') : TaskAt W' b d L o v br j := h.same (hb.block b h.lt)
theorem TaskAt.chg {X : Nat → Prop} (h : TaskAt W b d L o v br j) (hc : Chg X W W') (hx : ¬ X b) : TaskAt W' b d L o v br j := h.same (hc.block b h.lt hx)
theorem TaskAt.cells (h : TaskAt W b d L o v br j) : W.cell? ⟨b, 0, none⟩ = some (.int .u32 d) ∧ W.cell? ⟨b, 1, none⟩ = some (.int .i32 L) ∧ W.cell? ⟨b, 3, none⟩ = some (.int .u32 o) ∧ W.cell? ⟨b, 4, none⟩ = some (.int .i64 v) ∧ W.cell? ⟨b, 5, none⟩ = some (.bool br) ∧ W.cell? ⟨b, 6, none⟩ = j := by
  obtain ⟨t, cs, h, h0, h1, h3, h4, h5, h6⟩ := h
  exact ⟨(h.cell 0).trans h0, (h.cell 1).trans h1, (h.cell 3).trans h3, (h.cell 4).trans h4, (h.cell 5).trans h5, (h.cell 6).trans h6⟩
theorem TaskAt.fro (h : TaskAt W b d L o v br j) (i : Nat) : W.frozen? ⟨b, i, none⟩ = false := by
  obtain ⟨t, cs, h, _⟩ := h
  exact h.frozen i
theorem getset {cs : Array Value} {i k : Nat} {x u : Value} (hx : cs[k]? = some x) : (cs.setIfInBounds i u)[k]? = if i = k then some u else some x := by
  have hk := (Array.getElem?_eq_some_iff.1 hx).1
  by_cases h : i = k
  · subst h
    rw [if_pos rfl, Array.getElem?_setIfInBounds_self_of_lt hk]
  · rw [if_neg h, Array.getElem?_setIfInBounds_ne h, hx]
theorem getset6 {cs : Array Value} {i : Nat} {u : Value} (h : i ≠ 6) : (cs.setIfInBounds i u)[6]? = cs[6]? := Array.getElem?_setIfInBounds_ne h
theorem TaskAt.set0 (h : TaskAt W b d L o v br j) (d' : Int) : TaskAt (W.setCell ⟨b, 0, none⟩ (.int .u32 d')) b d' L o v br j := by
  obtain ⟨t, cs, h, h0, h1, h3, h4, h5, h6⟩ := h
  exact ⟨t, _, h.set_ 0 _, getset h0, getset h1, getset h3, getset h4, getset h5, (getset6 (by decide)).trans h6⟩
theorem TaskAt.set1 (h : TaskAt W b d L o v br j) (L' : Int) : TaskAt (W.setCell ⟨b, 1, none⟩ (.int .i32 L')) b d L' o v br j := by
  obtain ⟨t, cs, h, h0, h1, h3, h4, h5, h6⟩ := h
  exact ⟨t, _, h.set_ 1 _, getset h0, getset h1, getset h3, getset h4, getset h5, (getset6 (by decide)).trans h6⟩
theorem TaskAt.set3 (h : TaskAt W b d L o v br j) (o' : Int) : TaskAt (W.setCell ⟨b, 3, none⟩ (.int .u32 o')) b d L o' v br j := by
  obtain ⟨t, cs, h, h0, h1, h3, h4, h5, h6⟩ := h
  exact ⟨t, _, h.set_ 3 _, getset h0, getset h1, getset h3, getset h4, getset h5, (getset6 (by decide)).trans h6⟩
theorem TaskAt.set4 (h : TaskAt W b d L o v br j) (v' : Int) : TaskAt (W.setCell ⟨b, 4, none⟩ (.int .i64 v')) b d L o v' br j := by
  obtain ⟨t, cs, h, h0, h1, h3, h4, h5, h6⟩ := h
  exact ⟨t, _, h.set_ 4 _, getset h0, getset h1, getset h3, getset h4, getset h5, (getset6 (by decide)).trans h6⟩
theorem TaskAt.set5 (h : TaskAt W b d L o v br j) (br' : Bool) : TaskAt (W.setCell ⟨b, 5, none⟩ (.bool br')) b d L o v br' j := by
  obtain ⟨t, cs, h, h0, h1, h3, h4, h5, h6⟩ := h
  exact ⟨t, _, h.set_ 5 _, getset h0, getset h1, getset h3, getset h4, getset h5, (getset6 (by decide)).trans h6⟩

set_option maxRecDepth 100000 in
theorem told_any (h : TaskAt W b d L o v br j) : Calls Try.prog 24 #[.pointer (some ⟨b, 0, none⟩)] W fun e W' => e = .returned (.tuple #[.int .i64 (if br then 0 else v), .int .i64 (if br then 150 else 0)]) ∧ W' = W := by
  obtain ⟨c0, c1, c3, c4, c5, c6⟩ := h.cells
  clear h
  cases br with
  | true =>
    go_enter Try.func24, Try.ntmps24
    go_wp2_with fail
    exact bodyPost_ret (v := .tuple #[.int .i64 0, .int .i64 150]) (by simp [results, Try.results24, go_sem]) rfl ⟨rfl, rfl⟩
  | false =>
    go_enter Try.func24, Try.ntmps24
    go_wp2_with fail
    exact bodyPost_ret (v := .tuple #[.int .i64 v, .int .i64 0]) (by simp [results, Try.results24, go_sem]) rfl ⟨rfl, rfl⟩
set_option maxRecDepth 100000 in
theorem done_any (h : TaskAt W b d L o v br j) : Calls Try.prog 9 #[.pointer (some ⟨b, 0, none⟩)] W fun e W' => e = .returned (.bool (o != 0)) ∧ W' = W := by
  obtain ⟨c0, c1, c3, c4, c5, c6⟩ := h.cells
  clear h
  go_enter Try.func9, Try.ntmps9
  go_wp2_with fail
  refine (load_any _ o _ c3).mono ?_
  rintro e w1 ⟨rfl, hw⟩
  rw [hw]
  go_wp2_with fail
  go_ret
  exact ⟨rfl, rfl⟩
theorem done_nil (W : World) : Calls Try.prog 9 #[.pointer none] W fun e W' => e = .returned (.bool false) ∧ W' = W := by
  go_enter Try.func9, Try.ntmps9
  go_wp2_with fail
  go_ret
  exact ⟨rfl, rfl⟩
end
theorem num_any (e : Int) (W : World) : Calls Try.prog 8 #[.int .i64 e] W fun r W' => r = .returned (.int .i64 e) ∧ W' = W := by
  go_enter Try.func8, Try.ntmps8
  go_wp2_with fail
  go_ret
  exact ⟨rfl, rfl⟩
/-- a job that answers -/
theorem jobDo_any {W : World} {g : Nat} {v t : Int} (h : Blk W g 24 #[.int .i64 v, .int .i64 t]) (ht : -9223372036854775808 ≤ t + 1 ∧ t + 1 ≤ 9223372036854775807) :
    Calls Try.prog 6 #[.pointer (some ⟨g, 0, none⟩)] W fun e W' => e = .returned (.int .i64 v) ∧ W' = W.setCell ⟨g, 1, none⟩ (.int .i64 (t + 1)) := by
  have c0 : W.cell? ⟨g, 0, none⟩ = some (.int .i64 v) := h.cell 0
  have c1 : W.cell? ⟨g, 1, none⟩ = some (.int .i64 t) := h.cell 1
  have f1 : W.frozen? ⟨g, 1, none⟩ = false := h.frozen 1
  have e1 : IntKind.i64.wrap (t + 1) = t + 1 := IntWalk.i64_in _ ht
  clear h ht
  go_enter Try.func6, Try.ntmps6
  go_wp2_with fail
  go_ret
  exact ⟨rfl, rfl⟩
theorem wrong_any (W : World) : Calls Try.prog 7 #[] W fun e W' => e = .returned (.func (.func 21) #[] #[]) ∧ W' = W := by
  go_enter Try.func7, Try.ntmps7
  go_wp2_with fail
  go_ret
  exact ⟨rfl, rfl⟩
abbrev pan : PanicEntry := { v := .iface 26 (.int .i64 150), recovered := false }
theorem wrong1_any (W : World) : Calls Try.prog 21 #[] W fun e W' => e = .panicked [pan] ∧ W' = W := by
  go_enter Try.func21, Try.ntmps21
  go_wp2_with fail
  exact ⟨rfl, rfl, rfl⟩
set_option maxRecDepth 100000 in
theorem newLate_any (f : Nat) (fi ca : Array Value) (W : World) : Calls Try.prog 5 #[.func (.func f) fi ca] W fun e W' => e = .returned (.tuple #[.pointer (some ⟨W.heap.size, 0, none⟩), .int .i64 0]) ∧ TaskAt W' W.heap.size 0 0 0 0 false (some (.func (.func f) fi ca)) ∧ Below W.heap.size W W' := by
  have hnil : ∀ W, (binOp .eql 29 (.func (.func f) fi ca) .nilFunc).run Try.prog W = .ok (.bool false) W := fun W => by kernel_rfl
  go_enter Try.func5, Try.ntmps5
  go_wp2_with fail
  refine bodyPost_ret (v := .tuple #[.pointer (some ⟨W.heap.size, 0, none⟩), .int .i64 0]) (by simp [results, Try.results5, go_sem]) rfl ⟨rfl, ?_, ?_⟩
  · exact ⟨_, _, Blk.new _ _ _, rfl, rfl, rfl, rfl, rfl, rfl⟩
  · exact (Below.refl _ _).alloc (Nat.le_refl _) _
set_option maxRecDepth 100000 in
theorem newLate_nil (W : World) : Calls Try.prog 5 #[.nilFunc] W fun e W' => e = .returned (.tuple #[.pointer none, .int .i64 1]) ∧ W' = W := by
  have hnil : ∀ W, (binOp .eql 29 .nilFunc .nilFunc).run Try.prog W = .ok (.bool true) W := fun W => by kernel_rfl
  go_enter Try.func5, Try.ntmps5
  go_wp2_with fail
  exact bodyPost_ret (v := .tuple #[.pointer none, .int .i64 1]) (by simp [results, Try.results5, go_sem]) rfl ⟨rfl, rfl⟩
end Go.Proofs.Ythkgemaajbjgaaa.On

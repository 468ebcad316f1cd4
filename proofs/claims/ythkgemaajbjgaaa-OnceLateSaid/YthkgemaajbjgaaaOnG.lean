/- Once: a keeper in memory; its tasks by key. -/
import Derived.Test.YthkgemaajbjgaaaOnF
import Derived.ChangeMaps5
import Derived.Maps.Own
namespace Go.Proofs.Ythkgemaajbjgaaa.On
open Go.RowKit
open Go.ChangeMaps (setBlock)
open Go.Proofs.Ythkgemaajbjgaaa.Vb Go.Proofs.Ythkgemaajbjgaaa.Ac

/-- a keeper: its lock, its map, how many jobs it did; the map's entries -/
def KeepAt (W : World) (k m : Nat) (L r : Int) (es : Array MapEntry) (clock : Nat) : Prop :=
  ∃ t cs, Blk W k t cs ∧ cs[0]? = some (.int .i32 L) ∧ cs[2]? = some (.map (some m)) ∧ cs[3]? = some (.int .i64 r) ∧ W.heap[m]? = some (.map es clock)
section
variable {W W' : World} {k m : Nat} {L r : Int} {es : Array MapEntry} {clock : Nat}
theorem KeepAt.lt (h : KeepAt W k m L r es clock) : k < W.heap.size := by
  obtain ⟨t, cs, h, _⟩ := h
  exact h.lt
theorem KeepAt.map (h : KeepAt W k m L r es clock) : W.heap[m]? = some (.map es clock) := by
  obtain ⟨t, cs, h, _, _, _, h4⟩ := h
  exact h4
theorem KeepAt.mlt (h : KeepAt W k m L r es clock) : m < W.heap.size := (Array.getElem?_eq_some_iff.1 h.map).1
theorem KeepAt.ne (h : KeepAt W k m L r es clock) : k ≠ m := by
  obtain ⟨t, cs, h, _, _, _, h4⟩ := h
  rintro rfl
  rw [show W.heap[k]? = _ from h] at h4
  cases h4
theorem KeepAt.same (h : KeepAt W k m L r es clock) (hb : W'.heap[k]? = W.heap[k]?) (hm : W'.heap[m]? = W.heap[m]?) : KeepAt W' k m L r es clock := by
  obtain ⟨t, cs, h, h0, h2, h3, h4⟩ := h
  exact ⟨t, cs, hb.trans h, h0, h2, h3, hm.trans h4⟩
theorem KeepAt.grow (h : KeepAt W k m L r es clock) (hb : Below W.heap.size W W') : KeepAt W' k m L r es clock := h.same (hb.block k h.lt) (hb.block m h.mlt)
theorem KeepAt.chg {X : Nat → Prop} (h : KeepAt W k m L r es clock) (hc : Chg X W W') (hk : ¬ X k) (hm : ¬ X m) : KeepAt W' k m L r es clock := h.same (hc.block k h.lt hk) (hc.block m h.mlt hm)
theorem KeepAt.cells (h : KeepAt W k m L r es clock) : W.cell? ⟨k, 0, none⟩ = some (.int .i32 L) ∧ W.cell? ⟨k, 2, none⟩ = some (.map (some m)) ∧ W.cell? ⟨k, 3, none⟩ = some (.int .i64 r) := by
  obtain ⟨t, cs, h, h0, h2, h3, h4⟩ := h
  exact ⟨(h.cell 0).trans h0, (h.cell 2).trans h2, (h.cell 3).trans h3⟩
theorem KeepAt.fro (h : KeepAt W k m L r es clock) (i : Nat) : W.frozen? ⟨k, i, none⟩ = false := by
  obtain ⟨t, cs, h, _⟩ := h
  exact h.frozen i
theorem KeepAt.set0 (h : KeepAt W k m L r es clock) (L' : Int) : KeepAt (W.setCell ⟨k, 0, none⟩ (.int .i32 L')) k m L' r es clock := by
  have hn := h.ne
  obtain ⟨t, cs, h, h0, h2, h3, h4⟩ := h
  exact ⟨t, _, h.set_ 0 _, getset h0, getset h2, getset h3, (Below.heap_setCell W ⟨k, 0, none⟩ _ m (fun e => hn e.symm)).trans h4⟩
theorem KeepAt.set3 (h : KeepAt W k m L r es clock) (r' : Int) : KeepAt (W.setCell ⟨k, 3, none⟩ (.int .i64 r')) k m L r' es clock := by
  have hn := h.ne
  obtain ⟨t, cs, h, h0, h2, h3, h4⟩ := h
  exact ⟨t, _, h.set_ 3 _, getset h0, getset h2, getset h3, (Below.heap_setCell W ⟨k, 3, none⟩ _ m (fun e => hn e.symm)).trans h4⟩
theorem KeepAt.laid (h : KeepAt W k m L r es clock) (e : MapEntry) : KeepAt (setBlock W m (.map (es.push e) (clock + 1))) k m L r (es.push e) (clock + 1) := by
  have hn := h.ne
  obtain ⟨t, cs, h, h0, h2, h3, h4⟩ := h
  exact ⟨t, cs, (ChangeMaps.heap_setBlock_other h4 _ hn).trans h, h0, h2, h3, ChangeMaps.heap_setBlock_same h4 _⟩
theorem chg_setBlock (hb : W.heap[m]? = some (.map es clock)) (o : Obj) : Chg (· = m) W (setBlock W m o) := ⟨rfl, rfl, rfl, by simp [setBlock], fun i _ hi => ChangeMaps.heap_setBlock_other hb o hi⟩
/-- what is at a key -/
def at1 (es : Array MapEntry) (key : ByteArray) (a : Option (Nat × Value)) : Prop := Instr.findNow .string (.string key) es.toList 0 = some a
theorem look_at {key : ByteArray} {a : Option (Nat × Value)} (hb : W.heap[m]? = some (.map es clock)) (hf : at1 es key a) :
    (Instr.lookup 76 (.map (some m)) (.string key) true).run Try.prog W = .ok (.tuple #[(a.map (·.2)).getD (.pointer none), .bool a.isSome]) W := by
  have hk : MapKept.IsKey .string (.string key) := by simp [MapKept.IsKey]
  have hz : (zeroValue 88).run Try.prog W = .ok (.pointer none) W := by kernel_rfl
  unfold at1 at hf
  cases a <;> simp [Instr.lookup, run_underlying Try.underlying76, MapKept.run_getObj_map hb, MapKept.run_checkKey Try.underlying9 hk, MapKept.run_findKey Try.underlying9 hf, Result.andThen, hz]
theorem put_at {key : ByteArray} {v : Value} (hb : W.heap[m]? = some (.map es clock)) (hf : at1 es key none) :
    (Instr.mapUpdate 76 (.map (some m)) (.string key) v).run Try.prog W = .ok () (setBlock W m (.map (es.push ⟨.string key, v, clock⟩) (clock + 1))) := by
  have hk : MapKept.IsKey .string (.string key) := by simp [MapKept.IsKey]
  unfold at1 at hf
  simp [Instr.mapUpdate, run_underlying Try.underlying76, MapKept.run_getObj_map hb, MapKept.run_checkKey Try.underlying9 hk, MapKept.run_findKey Try.underlying9 hf, MapKept.run_setObj_map _ hb, Result.andThen, setBlock]
set_option maxRecDepth 100000 in
theorem new_any (W : World) : Calls Try.prog 14 #[] W fun e W' => e = .returned (.pointer (some ⟨W.heap.size + 1, 0, none⟩)) ∧ KeepAt W' (W.heap.size + 1) W.heap.size 0 0 #[] 0 ∧ Below W.heap.size W W' := by
  have hmm := @run_makeMap Try.prog
  go_enter Try.func14, Try.ntmps14
  go_wp2_with fail
  go_ret
  refine ⟨by simp, ⟨_, _, Blk.new' _ _ (by simp), rfl, rfl, rfl, ?_⟩, ((Below.refl _ _).alloc (Nat.le_refl _) _).alloc (by simp) _⟩
  exact (Below.heap_alloc _ _ _ (by simp)).trans (heap_alloc_new W _)
end
end Go.Proofs.Ythkgemaajbjgaaa.On

/- Words for memory: a slice that reads as a list of cells; frames. -/
import Derived.Test.YthkgemaajbjgaaaRows
import Derived.WalkKit
import Derived.ProofKit
import Derived.Deep.RegionHeld3
import Derived.Deep.QuietTactic
import Derived.BigQuiet
import Derived.Deep.DrawnRows
import Derived.Deep.Draws
import Derived.Lib.Hide
import Derived.Deep.LoopGhost
import Derived.WalkSpells
import Derived.WalkLawsBesides
namespace Go.Proofs.Ythkgemaajbjgaaa.Vb
open Go.RowKit

theorem ret_int {k : IntKind} {a b : Int} (h : a = b) : Ending.returned (.int k a) = .returned (.int k b) := by rw [h]
theorem ret_bool {a b : Bool} (h : a = b) : Ending.returned (.bool a) = .returned (.bool b) := by rw [h]


theorem natBeq0 (g : Nat) : ((g : Int) == 0) = (g == 0) := by rw [Bool.eq_iff_iff]; simp
theorem natBeq (g k : Nat) : ((g : Int) == (k : Int)) = (g == k) := by rw [Bool.eq_iff_iff]; simp; omega

theorem cellAlloc {w : World} {p : Addr} {v : Value} (h : w.cell? p = some v) (o : Obj) : (w.alloc o).cell? p = some v :=
  (World.cell?_alloc_lt w o p (World.block_lt_of_cell? w p h)).trans h

/-- The slice value v of n elements (sz cells each) reads as the cells xs; where there is one they lie in one block that R names. -/
def Sl (w : World) (R : Nat → Prop) (v : Value) (n sz : Nat) (xs : List Value) : Prop :=
  xs.length = n * sz ∧ ∃ A cap, v = .slice A n cap ∧ n ≤ cap ∧ cap ≤ maxLen ∧
    (0 < n → ∃ b off, A = some ⟨b, off, none⟩ ∧ R b ∧ b < w.heap.size ∧ ∀ j u, xs[j]? = some u → w.cell? ⟨b, off + j, none⟩ = some u)

section
variable {w w' : World} {R R' : Nat → Prop} {v : Value} {n sz : Nat} {xs : List Value}
theorem Sl.keep (h : Sl w R v n sz xs) (hs : w.heap.size ≤ w'.heap.size) (hk : ∀ b, b < w.heap.size → R b → w'.heap[b]? = w.heap[b]?) : Sl w' R v n sz xs := by
  obtain ⟨hl, A, cap, rfl, h1, h2, h3⟩ := h
  refine ⟨hl, A, cap, rfl, h1, h2, fun hn => ?_⟩
  obtain ⟨b, off, rfl, hb, hlt, hc⟩ := h3 hn
  exact ⟨b, off, rfl, hb, Nat.lt_of_lt_of_le hlt hs, fun j u hu => (World.cell?_of_block (hk b hlt hb)).trans (hc j u hu)⟩
theorem Sl.below {B : Nat} (h : Sl w R v n sz xs) (hb : Below B w w') (hR : ∀ b, b < w.heap.size → R b → b < B) : Sl w' R v n sz xs :=
  h.keep hb.size fun b hlt hr => hb.block b (hR b hlt hr)
theorem Sl.grow (h : Sl w R v n sz xs) (hb : Below w.heap.size w w') : Sl w' R v n sz xs := h.keep hb.size fun b hlt _ => hb.block b hlt
theorem Sl.alloc (h : Sl w R v n sz xs) (o : Obj) : Sl (w.alloc o) R v n sz xs := h.keep (by simp) fun b hlt _ => Below.heap_alloc w o b hlt
theorem Sl.drew (h : Sl w R v n sz xs) : Sl w.drew R v n sz xs := h
theorem Sl.mono (h : Sl w R v n sz xs) (hR : ∀ b, b < w.heap.size → R b → R' b) : Sl w R' v n sz xs := by
  obtain ⟨hl, A, cap, rfl, h1, h2, h3⟩ := h
  refine ⟨hl, A, cap, rfl, h1, h2, fun hn => ?_⟩
  obtain ⟨b, off, rfl, hb, hlt, hc⟩ := h3 hn
  exact ⟨b, off, rfl, hR b hlt hb, hlt, hc⟩
end

end Go.Proofs.Ythkgemaajbjgaaa.Vb

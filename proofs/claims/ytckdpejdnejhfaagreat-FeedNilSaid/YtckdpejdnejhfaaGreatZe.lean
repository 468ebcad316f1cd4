/- Joined by program: Rege. -/
import Derived.Test.YtckdpejdnejhfaaGreatZb
/- A region that draws its order: a guarded operation that is left out. -/
set_option linter.all false
namespace Go.Proofs.YtckdpejdnejhfaaGreat.Vb
open Go

section
variable {P : Program} {ops : Array Oper} {Q : Exit → Act → World → Prop} {md : Region.Mode} {S : World → Prop} {fins : List Nat}
/-- a guarded operation that is left out -/
theorem toff (i : Nat) {oi : Oper} {os : List Oper} {fuel : Nat} {listed : Array Bool} {a b : Act} {w : World} (hS : S w) (h : wpAnyF P md ops Q S fins fuel (listed.setIfInBounds i true) b w) (hi : ops.toList.drop i = oi :: os := by rfl)
    (hs : Region.noSelect ops = true := by kernel_rfl) (hf : Region.free md ops listed i = true := by kernel_rfl) (hr : (Region.ready md ops listed).contains i = true := by kernel_rfl) (hfin : waitB md ops fins i = true := by kernel_rfl)
    (hQ : ∀ c a w, Q (.panic c) (a.put oi.dst undef) w → Q (.panic c) a w := by exact fun _ _ _ h => h) (hw : Region.wanted oi (yielded ops a.tmps) = false := by rfl)
    (hb : a.put oi.dst undef = b := by first | (simp only [Act.put, pb, pz, ps]; done) | (simp only [Act.put, pb, pz, ps]; rfl) | rfl) : wpAnyF P md ops Q S fins (fuel + 1) listed a w :=
  wpAnyF_take (drop_at hi) hs hf hr hfin hQ (.inr ⟨hw, rfl⟩) hS (hb ▸ h)
end
end Go.Proofs.YtckdpejdnejhfaaGreat.Vb

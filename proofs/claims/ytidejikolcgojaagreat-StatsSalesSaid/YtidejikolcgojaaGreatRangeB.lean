/- A range over a function that may be left by a break: what is behind it, once. -/
import Derived.Test.YtidejikolcgojaaGreatRangeX
namespace Go.Proofs.YtidejikolcgojaaGreat.Ac
open Go.RowKit
open Go.Proofs.YtidejikolcgojaaGreat.Vb

variable {F : Fence} {n : Nat} {P : Program}
theorem wpIn_rangeFunc_XB {α : Type} {g : Operand} {ps : Array Tmp} {assign body : Code} {Q : Exit → Act → World → Prop} {a : Act} {w : World}
    (hro : F.round = none) (h1 : 1 ≤ n) {gf : Nat} {lb : Array Value} (hg : a.eval g = .func (.func gf) #[] lb) (hFg : F.fn gf) (eg : ∀ args w, (callFunc gf args).run P w = .ok (.enter gf args) w)
    {encs : α → Array Value} {X : Nat → Prop} {S Sp : List α → Prop} {N : Nat} {w0 : World} (hseq : SeqStopsX F (n - 1) P gf lb encs X S Sp N w0) (hX : ∀ b, X b → b < w0.heap.size)
    (hb0 : Below w0.heap.size w0 w) (hps : ∀ x, (encs x).size = ps.size)
    (I : Nat → List α → World → Prop) (kx : Nat) (Ix : Nat → List α → World → Prop) (hI : ∀ hi, OwnFrom w.heap.size (I hi)) (hIx : ∀ hi, OwnFrom w.heap.size (Ix hi)) (h0 : ∀ W0, Below w.heap.size w W0 → I W0.heap.size [] W0) (a₁ : α → Act)
    (hassign : ∀ (l : Nat) (x : α) (W : World) (K : Act → World → Prop), K (a₁ x) W →
      assign.wpIn (F.inRound l) (n - 1 - 1) P (Exit.then K (fun _ _ _ => False)) { tmps := (ps.zip (encs x)).foldl (fun t (p, v) => t.setIfInBounds p v) a.tmps, defers := [] } W)
    (hbody : ∀ (hi l : Nat) (pre : List α) (x : α) (W : World), hi ≤ W.heap.size → I hi pre W → Sp (pre ++ [x]) → pre.length < N → body.wpIn (F.inRound l) (n - 1 - 1) P (ownPostK (KeepX X (w.heap.size + 2) hi) (I hi) (fun c pre W => c = .exit kx ∧ Ix hi pre W) (pre ++ [x]) W) (a₁ x) W)
    (hQ : ∀ a w, Q .normal a w → Q (.exit kx) a w)
    (hrest : ∀ (hi D : Nat) (pre : List α) (W : World), w.heap.size ≤ D → ((S pre ∧ I hi pre W) ∨ (Sp pre ∧ Ix hi pre W)) → W.heap[D]? = some (.deferred (some [])) → Q .normal { a with defers := { target := .collected D, args := #[] } :: a.defers } W) :
    (Code.rangeFunc g ps assign body).wpIn F n P Q a w := by
  refine wpIn_rangeFunc_X hro h1 hg hFg eg hseq hX hb0 hps I (fun hi c pre W => c = .exit kx ∧ Ix hi pre W) hI (fun hi c => OwnFrom.and (fun _ _ _ _ h _ _ => h) (hIx hi)) h0 a₁ hassign hbody (fun hi D xs W hD hS hi0 hK => hrest hi D xs W hD (.inl ⟨hS, hi0⟩) hK) (fun hi D c pre W hD hSp hf hK => ?_)
  obtain ⟨rfl, hf⟩ := hf
  exact wpIn_exit (hQ _ _ (hrest hi D pre W hD (.inr ⟨hSp, hf⟩) hK))
end Go.Proofs.YtidejikolcgojaaGreat.Ac

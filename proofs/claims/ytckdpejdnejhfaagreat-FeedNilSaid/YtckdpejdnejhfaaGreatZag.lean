/- Joined by program: RangeM. -/
import Derived.Test.YtckdpejdnejhfaaGreatZv
/- A range over a function that hands to yield what it has just laid, where the body may turn maps too, and does not leave the loop. (Turned from RangeG.) -/
set_option linter.all false
namespace Go.Proofs.YtckdpejdnejhfaaGreat.Ac
open Go.RowKit
open Go.Proofs.YtckdpejdnejhfaaGreat.Vb

/-- an iterator as SeqStopsG's, but what the caller keeps need only stay where memory grows; the body goes on to the end -/
def SeqStopsM {α : Type} (F : Fence) (n' : Nat) (P : Program) (g : Nat) (lb : Array Value) (encs : α → Array Value) (G : Nat → World → α → Prop) (X : Nat → Prop) (S Sp : List α → Prop) (N : Nat) (w : World) : Prop :=
  ∀ (l : Nat) (J : Nat → Nat → List α → World → Prop) (W : World), Below w.heap.size w W → (∀ hi n s A B, J hi n s A → Below A.heap.size A B → J hi n s B) →
    (∀ hi n pre x W1, hi ≤ W1.heap.size → J hi n pre W1 → G n W1 x → Sp (pre ++ [x]) → pre.length < N → YieldAt F (n' - 1) P l (encs x) W1 fun e W' =>
      e = .returned (.bool true) ∧ J hi W'.heap.size (pre ++ [x]) W' ∧ KeepX X W.heap.size hi W1 W') →
    (∀ W0, Below W.heap.size W W0 → J W0.heap.size W0.heap.size [] W0) →
    CallsIn F n' P g (#[.func (.yield l) #[] #[]] ++ lb) W fun e W' => (∃ v, e = .returned v) ∧ ∃ hi n, W.heap.size ≤ hi ∧ ∃ xs, S xs ∧ J hi n xs W'
def postM {α : Type} (D : Nat) (Kp : World → World → Prop) (I : List α → World → Prop) (xs : List α) (W : World) : Exit → Act → World → Prop
  | .normal, _, W' => (W'.heap[D]? = W.heap[D]? ∧ W'.heap[D + 1]? = W.heap[D + 1]?) ∧ Kp W W' ∧ I xs W'
  | _, _, _ => False
variable {F : Fence} {n : Nat} {P : Program}
theorem wpIn_rangeFunc_M {α : Type} {g : Operand} {ps : Array Tmp} {assign body : Code} {Q : Exit → Act → World → Prop} {a : Act} {w : World}
    (hro : F.round = none) (h1 : 1 ≤ n) {gf : Nat} {lb : Array Value} (hg : a.eval g = .func (.func gf) #[] lb) (hFg : F.fn gf) (eg : ∀ args w, (callFunc gf args).run P w = .ok (.enter gf args) w)
    {encs : α → Array Value} {G : Nat → World → α → Prop} {X : Nat → Prop} {S Sp : List α → Prop} {N : Nat} {w0 : World} (hseq : SeqStopsM F (n - 1) P gf lb encs G X S Sp N w0)
    (hG : ∀ lo x A B, G lo A x → (∀ b, lo ≤ b → b < A.heap.size → B.heap[b]? = A.heap[b]?) → A.heap.size ≤ B.heap.size → G lo B x) (hX : ∀ b, X b → b < w0.heap.size)
    (hb0 : Below w0.heap.size w0 w) (hps : ∀ x, (encs x).size = ps.size)
    (I : Nat → Nat → List α → World → Prop) (hIg : ∀ hi m s A B, I hi m s A → Below A.heap.size A B → I hi m s B) (hIp : ∀ hi m s A l o, I hi m s A → l = w.heap.size ∨ l = w.heap.size + 1 → I hi m s (A.putObj l o)) (h0 : ∀ W0, Below w.heap.size w W0 → I W0.heap.size W0.heap.size [] W0) (ob : α → Obj) (a₁ : α → Nat → Act)
    (hassign : ∀ (l : Nat) (x : α) (W : World) (g : Nat) (K : Act → World → Prop) (m : Nat), G m W x → g = W.heap.size → K (a₁ x g) (W.alloc (ob x)) →
      assign.wpIn (F.inRound l) (n - 1 - 1) P (Exit.then K (fun _ _ _ => False)) { tmps := (ps.zip (encs x)).foldl (fun t (p, v) => t.setIfInBounds p v) a.tmps, defers := [] } W)
    (hbody : ∀ (hi m l g : Nat) (pre : List α) (x : α) (W : World), hi ≤ g → w.heap.size + 2 ≤ g → w.heap.size + 2 ≤ m → W.heap[g]? = some (ob x) → I hi m pre W → G m W x → Sp (pre ++ [x]) → pre.length < N → body.wpIn (F.inRound l) (n - 1 - 1) P (postM w.heap.size (KeepX X (w.heap.size + 2) hi) (fun s V => I hi V.heap.size s V) (pre ++ [x]) W) (a₁ x g) W)
    (hdone : ∀ (hi m D : Nat) (xs : List α) (W : World), D = w.heap.size → S xs → I hi m xs W → W.heap[D]? = some (.deferred (some [])) → Q .normal { a with defers := { target := .collected D, args := #[] } :: a.defers } W) :
    (Code.rangeFunc g ps assign body).wpIn F n P Q a w := by
  refine wpIn_rangeFunc fun fn hfn => ?_
  rw [hro]
  obtain ⟨L, hL⟩ : ∃ L : LoopState → Option Code → Loop, L = fun st pe => { state := st, pending := pe, fn, tmps := a.tmps, params := ps, assign, body, defers := w.heap.size } := ⟨_, rfl⟩
  obtain ⟨U, hU⟩ : ∃ U, U = (w.alloc (.deferred (some []))).alloc (.loop (L .ready none)) := ⟨_, rfl⟩
  have hRU : RecAt U w.heap.size (L .ready none) := by
    subst hU
    constructor
    · have := World.alloc_heap_new (w.alloc (.deferred (some []))) (.loop (L .ready none))
      rwa [World.size_alloc] at this
    · exact (Below.heap_alloc _ _ _ (by simp)).trans (World.alloc_heap_new w _)
  have hsU : U.heap.size = w.heap.size + 2 := by rw [hU]; simp
  have hwU : Below w.heap.size w U := by subst hU; exact (((Below.refl _ w).alloc (Nat.le_refl _) _).alloc (by simp) _)
  have hBU : Below w0.heap.size w0 U := hb0.trans (hwU.mono hb0.size)
  have recB : ∀ W0, Below U.heap.size U W0 → RecAt W0 w.heap.size (L .ready none) := fun W0 h => ⟨(h.block _ (by omega)).trans hRU.1, (h.block _ (by omega)).trans hRU.2⟩
  refine ⟨w.heap.size + 1, [{ target := .collected w.heap.size, args := #[] }], U, { target := .fn (.func gf) lb, args := #[.func (.yield (w.heap.size + 1)) #[] #[]] }, U, gf, #[.func (.yield (w.heap.size + 1)) #[] #[]] ++ lb, U, ?_, ?_, ?_, ?_, fun _ => h1, ?_⟩
  · rw [hU, hL]
    exact run_enterLoop_outer _ _ _ _ _
  · simp only [resolve, hg]
    simp [go_sem]
  · intro f' hf'
    simp [Target.leads] at hf'
    subst hf'
    exact hFg
  · simp [invoke, go_sem, eg]
  · refine (hseq (w.heap.size + 1) (fun hi m pre W => (I hi m pre W ∧ w.heap.size + 2 ≤ m) ∧ RecAt W w.heap.size (L .ready none)) U hBU ?_ ?_ (fun W0 hW0 => ⟨⟨h0 W0 (hwU.trans (hW0.mono (by omega))), by have := hW0.size; omega⟩, recB W0 hW0⟩)).mono ?_
    · exact fun hi m s A B hs hb => ⟨⟨hIg hi m s A B hs.1.1 hb, hs.1.2⟩, ⟨(hb.block _ (Array.getElem?_eq_some_iff.1 hs.2.1).1).trans hs.2.1, (hb.block _ (Array.getElem?_eq_some_iff.1 hs.2.2).1).trans hs.2.2⟩⟩
    · rintro hi m pre x W hhi ⟨⟨hi0, hm2⟩, hrec⟩ hG0 hsp hlen
      have hready : (L .ready none).state = .ready := by rw [hL]
      have hy := run_yield (P := P) (args := encs x) hrec.1 (by rw [hL]; exact hps x)
      rw [hL] at hy
      have hwlt : w.heap.size + 1 < W.heap.size := (Array.getElem?_eq_some_iff.1 hrec.1).1
      obtain ⟨V, hV⟩ : ∃ V, V = W.alloc (ob x) := ⟨_, rfl⟩
      have hbV : Below W.heap.size W V := by rw [hV]; exact (Below.refl _ _).alloc (Nat.le_refl _) _
      have hgV : V.heap[W.heap.size]? = some (ob x) := by rw [hV]; exact World.alloc_heap_new W _
      have hrecV : RecAt V w.heap.size (L .ready none) := ⟨(hbV.block _ hwlt).trans hrec.1, (hbV.block _ (by omega)).trans hrec.2⟩
      have hiV : I hi m pre V := hIg hi m pre W V hi0 hbV
      refine ⟨fn, _, assign, body, hy, roundIn_of_wpIn hfn (hassign _ x W _ _ m hG0 rfl ?_)⟩
      rw [← hV]
      refine ⟨_, run_beginRound hrecV.1 hready, ?_⟩
      have hbusy : RecAt (V.putObj (w.heap.size + 1) (.loop { L .ready none with state := .busy })) w.heap.size { L .ready none with state := .busy } := hrecV.put
      have kb : ∀ (V : World) (o : Obj), KeepX X U.heap.size hi V (V.putObj (w.heap.size + 1) o) := fun V o => ⟨⟨by simp, fun i h1 _ => World.putObj_heap_other (by omega)⟩, fun b hb => World.putObj_heap_other (by have := hX b hb; have := hb0.size; omega)⟩
      have kV : KeepX X U.heap.size hi W V := ⟨⟨hbV.size, fun i _ h2 => hbV.block i (by omega)⟩, fun b hb => hbV.block b (by have := hX b hb; have := hb0.size; omega)⟩
      refine wpIn_mono (hbody hi m _ W.heap.size pre x _ hhi (by omega) hm2 ((World.putObj_heap_other (by omega)).trans hgV) (hIp hi m _ _ _ _ hiV (.inr rfl)) (by
        refine hG _ _ _ _ (hG _ _ _ _ hG0 (fun b _ hb => hbV.block b hb) hbV.size) (fun b h1 h2 => World.putObj_heap_other (by omega)) (by simp)) hsp hlen) ?_
      have shut : ∀ (jump : Option Code) (W3 : World), (W3.heap[w.heap.size]? = (V.putObj (w.heap.size + 1) (.loop { L .ready none with state := .busy })).heap[w.heap.size]? ∧ W3.heap[w.heap.size + 1]? = (V.putObj (w.heap.size + 1) (.loop { L .ready none with state := .busy })).heap[w.heap.size + 1]?) →
          (Instr.endRound (w.heap.size + 1) jump).run P W3 = .ok (.bool jump.isNone) (W3.putObj (w.heap.size + 1) (.loop (L (if jump.isNone then .ready else .done) jump))) ∧
          RecAt W3 w.heap.size { L .ready none with state := .busy } ∧ RecAt (W3.putObj (w.heap.size + 1) (.loop (L (if jump.isNone then .ready else .done) jump))) w.heap.size (L (if jump.isNone then .ready else .done) jump) := by
        intro jump W3 hk3
        have h3 : RecAt W3 w.heap.size { L .ready none with state := .busy } := ⟨hk3.2.trans hbusy.1, hk3.1.trans hbusy.2⟩
        have hr := run_endRound (P := P) jump h3.1
        rw [hL] at hr h3 ⊢
        exact ⟨hr, h3, h3.put⟩
      rintro e a3 W3 hp
      cases e with
      | normal =>
        obtain ⟨hk3, hkp3, hi3⟩ := hp
        obtain ⟨hr, hb3, hn3⟩ := shut none W3 hk3
        rw [← hsU] at hkp3
        exact ⟨_, _, hr, rfl, ⟨⟨hIp hi _ _ _ _ _ (by simpa using hi3) (.inr rfl), by have := (Array.getElem?_eq_some_iff.1 hn3.1).1; simp at this ⊢; omega⟩, hn3⟩, ((kV.trans (kb _ _)).trans hkp3).trans (kb _ _)⟩
      | ret => exact hp.elim
      | exit id => exact hp.elim
      | goto t => exact hp.elim
      | panic ch => exact hp.elim
      | outgrown => exact hp.elim
    · have over : ∀ {st : LoopState} {pe : Option Code} {W2 : World}, st ≠ .busy → RecAt W2 w.heap.size (L st pe) → ∃ o, (Instr.endLoop (w.heap.size + 1)).run P W2 = .ok pe (W2.putObj (w.heap.size + 1) o) := by
        intro st pe W2 hst h2
        have hr := run_endLoop (P := P) h2.1 (by rw [hL]; exact hst)
        rw [hL] at hr
        exact ⟨_, hr⟩
      rintro e W2 ⟨⟨v, rfl⟩, hi, m, _, xs, hS, ⟨hi0, _⟩, hrec⟩
      obtain ⟨o, hr⟩ := over (by simp) hrec
      exact ⟨none, _, hr, hdone hi m _ xs _ rfl hS (hIp hi m _ _ _ _ hi0 (.inr rfl)) ((World.putObj_heap_other (by omega)).trans hrec.2)⟩
end Go.Proofs.YtckdpejdnejhfaaGreat.Ac

/- Account: words for memory, of no program: a block known whole, what a call may change, a range over an iterator that lays memory of its own. -/
import Derived.Test.YthkgemaajbjgaaaOwn
import Derived.Maps.OwnOps
import Derived.Maps.Views
import Derived.Maps.OwnSet
import Derived.RangeFuncNested
import Derived.RangeFuncBound
import Derived.RangeFuncCalls
import Derived.RangeFuncLeaves
import Derived.Shelf.Abstract
import Derived.Shelf.RegionOpen
import Derived.OwnWalkIn
import Derived.TacticsInMore
import Derived.LoopNIn
import Derived.LoopIn
namespace Go.Proofs.Ythkgemaajbjgaaa.Ac
open Go.RowKit Go.Shelf
open Go.Proofs.Ythkgemaajbjgaaa.Vb

def Blk (w : World) (g : Nat) (t : TypeId) (cs : Array Value) : Prop := w.heap[g]? = some (.cells cs t (0, 0))
section
variable {w w' : World} {g : Nat} {t : TypeId} {cs : Array Value}
theorem Blk.lt (h : Blk w g t cs) : g < w.heap.size := by
  rcases Nat.lt_or_ge g w.heap.size with hlt | hge
  · exact hlt
  · unfold Blk at h; rw [Array.getElem?_eq_none hge] at h; cases h
theorem Blk.cell (h : Blk w g t cs) (i : Nat) : w.cell? ⟨g, i, none⟩ = cs[i]? := cell_of_row w g i cs t (0, 0) h
theorem Blk.frozen (h : Blk w g t cs) (i : Nat) : w.frozen? ⟨g, i, none⟩ = false := by
  unfold Blk at h
  simp [World.frozen?, h]
theorem Blk.new (w : World) (t : TypeId) (cs : Array Value) : Blk (w.alloc (.cells cs t)) w.heap.size t cs := heap_alloc_new w _
theorem Blk.new' {w : World} {g : Nat} (t : TypeId) (cs : Array Value) (h : g = w.heap.size) : Blk (w.alloc (.cells cs t)) g t cs := by subst h; exact heap_alloc_new w _
theorem Blk.drewN (h : Blk w g t cs) (n : Nat) : Blk (w.drewN n) g t cs := h
theorem Blk.alloc (h : Blk w g t cs) (o : Obj) : Blk (w.alloc o) g t cs := (Below.heap_alloc w o g h.lt).trans h
theorem Blk.set_ (h : Blk w g t cs) (i : Nat) (u : Value) : Blk (w.setCell ⟨g, i, none⟩ u) g t (cs.setIfInBounds i u) := by
  unfold Blk at h ⊢
  simp [World.setCell, Array.getElem?_modify, h]
theorem Blk.far (h : Blk w g t cs) {p : Addr} (hp : g ≠ p.block) (u : Value) : Blk (w.setCell p u) g t cs := (Below.heap_setCell w p u g hp).trans h
theorem Blk.below {B : Nat} (h : Blk w g t cs) (hb : Below B w w') (hg : g < B) : Blk w' g t cs := (hb.block g hg).trans h
theorem Blk.grow (h : Blk w g t cs) (hb : Below w.heap.size w w') : Blk w' g t cs := (hb.block g h.lt).trans h
theorem Blk.grown {row : Option Nat} (h : Blk w g t cs) (hb : w.grownBy w' row) (hg : some g ≠ row) : Blk w' g t cs := (hb.block g h.lt hg).trans h
theorem Blk.cells {row : Option Nat} (h : Blk w g t cs) (hg : w.grownBy w' row) (hr : ∀ r, row = some r → ∃ o : Obj, w.heap[r]? = some o ∧ o.isCells = false) : Blk w' g t cs :=
  h.grown hg fun e => by
    obtain ⟨o, ho, hc⟩ := hr g e.symm
    rw [show w.heap[g]? = _ from h] at ho
    cases ho
    cases hc
end
theorem below_drewN {B : Nat} {a w : World} (h : Below B a w) (n : Nat) : Below B a (w.drewN n) := ⟨h.os, h.tape, h.output, h.size, h.block⟩

/-- a call that turned no block but those that X names (and made new ones) -/
structure Chg (X : Nat → Prop) (a w : World) : Prop where
  os : w.os = a.os
  tape : w.tape = a.tape
  output : w.output = a.output
  size : a.heap.size ≤ w.heap.size
  block : ∀ k, k < a.heap.size → ¬ X k → w.heap[k]? = a.heap[k]?
section
variable {X Y : Nat → Prop} {a b c : World}
theorem Chg.refl (X : Nat → Prop) (a : World) : Chg X a a := ⟨rfl, rfl, rfl, Nat.le_refl _, fun _ _ _ => rfl⟩
theorem Chg.of (X : Nat → Prop) (h : Below a.heap.size a b) : Chg X a b := ⟨h.os, h.tape, h.output, h.size, fun k hk _ => h.block k hk⟩
theorem Chg.mono (h : Chg X a b) (hX : ∀ k, k < a.heap.size → X k → Y k) : Chg Y a b := ⟨h.os, h.tape, h.output, h.size, fun k hk hn => h.block k hk fun hx => hn (hX k hk hx)⟩
theorem Chg.step (h : Chg X a b) (h2 : Chg Y b c) (hY : ∀ k, k < a.heap.size → Y k → X k) : Chg X a c :=
  ⟨h2.os.trans h.os, h2.tape.trans h.tape, h2.output.trans h.output, Nat.le_trans h.size h2.size, fun k hk hn => (h2.block k (Nat.lt_of_lt_of_le hk h.size) fun hy => hn (hY k hk hy)).trans (h.block k hk hn)⟩
theorem Chg.trans (h : Chg X a b) (h2 : Chg X b c) : Chg X a c := h.step h2 fun _ _ h => h
theorem Chg.grow (h : Chg X a b) (h2 : Below b.heap.size b c) : Chg X a c := h.step (Chg.of (fun _ => False) h2) fun _ _ h => h.elim
theorem Chg.below (h : Chg X a b) {B : Nat} (hB : B ≤ a.heap.size) (hX : ∀ k, k < B → ¬ X k) : Below B a b := ⟨h.os, h.tape, h.output, h.size, fun k hk => h.block k (by omega) (hX k hk)⟩
theorem Chg.grown {row : Option Nat} (h : a.grownBy b row) : Chg (fun k => some k = row) a b := ⟨h.os, h.tape, h.output, h.size, fun k hk hn => h.block k hk hn⟩
theorem Chg.set (a : World) (p : Addr) (u : Value) : Chg (· = p.block) a (a.setCell p u) := ⟨rfl, rfl, rfl, by simp [World.setCell], fun k _ hn => Below.heap_setCell a p u k hn⟩
theorem Chg.drewN (h : Chg X a b) (n : Nat) : Chg X a (b.drewN n) := ⟨h.os, h.tape, h.output, h.size, h.block⟩
theorem Blk.chg {g : Nat} {t : TypeId} {cs : Array Value} (h : Blk a g t cs) (hc : Chg X a b) (hx : ¬ X g) : Blk b g t cs := (hc.block g h.lt hx).trans h
theorem Chg.ownsMap {H : Type} {P : Program} {k : TypeId} {R : Value → Option (DataW H × List MemPlace)} {m n : Nat} {D : DataW H} (h : a.ownsMap P k R m n D) (hc : Chg X a b) (hx : ¬ X m) : b.ownsMap P k R m n D := by
  have hlt := h.lt
  obtain ⟨es, clock, h1, h2⟩ := h
  exact ⟨es, clock, (hc.block m hlt hx).trans h1, h2⟩
end

/-- the blocks from lo to hi are as they were -/
structure KeepR (lo hi : Nat) (W W' : World) : Prop where
  size : W.heap.size ≤ W'.heap.size
  same : ∀ i, lo ≤ i → i < hi → W'.heap[i]? = W.heap[i]?
theorem KeepR.refl (lo hi : Nat) (W : World) : KeepR lo hi W W := ⟨Nat.le_refl _, fun _ _ _ => rfl⟩
theorem KeepR.trans {lo hi : Nat} {A B C : World} (h : KeepR lo hi A B) (k : KeepR lo hi B C) : KeepR lo hi A C := ⟨Nat.le_trans h.size k.size, fun i h1 h2 => (k.same i h1 h2).trans (h.same i h1 h2)⟩
theorem KeepR.grown {lo hi : Nat} {A B C : World} (h : KeepR lo hi A B) (hg : B.grownBy C none) (hB : hi ≤ B.heap.size) : KeepR lo hi A C :=
  ⟨Nat.le_trans h.size hg.size, fun i h1 h2 => (hg.block i (by omega) (fun e => by cases e)).trans (h.same i h1 h2)⟩
theorem KeepR.set {lo hi : Nat} (W : World) {p : Addr} (hp : p.block < lo ∨ hi ≤ p.block) (u : Value) : KeepR lo hi W (W.setCell p u) :=
  ⟨by simp [World.setCell], fun i h1 h2 => Below.heap_setCell W p u i (by omega)⟩
theorem KeepR.of_below {lo hi : Nat} {A B : World} (h : Below hi A B) : KeepR lo hi A B := ⟨h.size, fun i _ hi => h.block i hi⟩
theorem KeepR.sl {lo hi : Nat} {A B : World} (h : KeepR lo hi A B) {v : Value} {n sz : Nat} {xs : List Value} (hs : Sl A (fun b => lo ≤ b ∧ b < hi) v n sz xs) : Sl B (fun b => lo ≤ b ∧ b < hi) v n sz xs :=
  hs.keep h.size fun b _ hr => h.same b hr.1 hr.2

/-- the loop's record at block b + 1, the rounds' deferred calls at block b -/
def RecAt (W : World) (b : Nat) (L : Loop) : Prop := W.heap[b + 1]? = some (.loop L) ∧ W.heap[b]? = some (.deferred (some []))
theorem RecAt.abides {A B : World} {b : Nat} {L : Loop} {row : Option Nat} (h : RecAt A b L) (hg : A.grownBy B row) (hr : ∀ r, row = some r → ∃ o : Obj, A.heap[r]? = some o ∧ o.isWalk = true) : RecAt B b L :=
  ⟨(grownBy_keeps hg hr h.1 rfl).trans h.1, (grownBy_keeps hg hr h.2 rfl).trans h.2⟩
theorem RecAt.put {W : World} {b : Nat} {L L' : Loop} (h : RecAt W b L) : RecAt (W.putObj (b + 1) (.loop L')) b L' :=
  ⟨World.putObj_heap_same (Array.getElem?_eq_some_iff.1 h.1).1, (World.putObj_heap_other (by omega)).trans h.2⟩
theorem RecAt.others {A B : World} {b : Nat} {L : Loop} (h : RecAt A b L) (hk : KeepsOthers A B) : RecAt B b L := ⟨hk.same _ _ h.1 rfl, hk.same _ _ h.2 rfl⟩

/-- an iterator that lays memory ahead of the first yield (below hi), which the body must keep; the body may turn what lay ahead of the iterator, and what it laid itself -/
def SeqStopsH {α : Type} (F : Fence) (n : Nat) (P : Program) (g : Nat) (lb : Array Value) (encs : α → Array Value) (S Sp : List α → Prop) (N : Nat) (w : World) : Prop :=
  ∀ (l : Nat) (J Jx : Nat → List α → World → Prop) (W : World), Below w.heap.size w W → (∀ hi, AbidesFrom W.heap.size (J hi)) → (∀ hi, AbidesFrom W.heap.size (Jx hi)) →
    (∀ hi pre x W1, hi ≤ W1.heap.size → J hi pre W1 → Sp (pre ++ [x]) → pre.length < N → YieldAt F (n - 1) P l (encs x) W1 fun e W' =>
      (e = .returned (.bool true) ∧ J hi (pre ++ [x]) W' ∧ KeepR W.heap.size hi W1 W') ∨ (e = .returned (.bool false) ∧ Jx hi (pre ++ [x]) W')) →
    (∀ W0, Below W.heap.size W W0 → J W0.heap.size [] W0) →
    CallsIn F n P g (#[.func (.yield l) #[] #[]] ++ lb) W fun e W' => (∃ v, e = .returned v) ∧ ∃ hi, W.heap.size ≤ hi ∧ ((∃ xs, S xs ∧ J hi xs W') ∨ (∃ pre, Sp pre ∧ Jx hi pre W'))

/-- what the body leaves -/
def ownPostH {α : Type} (lo hi : Nat) (I : List α → World → Prop) (Ix : Code → List α → World → Prop) (pre : List α) (W : World) : Exit → Act → World → Prop := ownPostK (KeepR lo hi) I Ix pre W

variable {F : Fence} {n : Nat} {P : Program}
theorem wpIn_rangeFunc_H {α : Type} {g : Operand} {ps : Array Tmp} {assign body : Code} {Q : Exit → Act → World → Prop} {a : Act} {w : World}
    (hro : F.round = none) (h1 : 1 ≤ n) {gf : Nat} {lb : Array Value} (hg : a.eval g = .func (.func gf) #[] lb) (hFg : F.fn gf) (eg : ∀ args w, (callFunc gf args).run P w = .ok (.enter gf args) w)
    {encs : α → Array Value} {S Sp : List α → Prop} {N : Nat} {w0 : World} (hseq : SeqStopsH F (n - 1) P gf lb encs S Sp N w0)
    (hb0 : Below w0.heap.size w0 w) (hps : ∀ x, (encs x).size = ps.size)
    (I : Nat → List α → World → Prop) (Ix : Nat → Code → List α → World → Prop) (hI : ∀ hi, OwnFrom w.heap.size (I hi)) (hIx : ∀ hi c, OwnFrom w.heap.size (Ix hi c)) (h0 : ∀ W0, Below w.heap.size w W0 → I W0.heap.size [] W0) (a₁ : α → Act)
    (hassign : ∀ (l : Nat) (x : α) (W : World) (K : Act → World → Prop), K (a₁ x) W →
      assign.wpIn (F.inRound l) (n - 1 - 1) P (Exit.then K (fun _ _ _ => False)) { tmps := (ps.zip (encs x)).foldl (fun t (p, v) => t.setIfInBounds p v) a.tmps, defers := [] } W)
    (hbody : ∀ (hi l : Nat) (pre : List α) (x : α) (W : World), hi ≤ W.heap.size → I hi pre W → Sp (pre ++ [x]) → pre.length < N → body.wpIn (F.inRound l) (n - 1 - 1) P (ownPostK (KeepR (w.heap.size + 2) hi) (I hi) (Ix hi) (pre ++ [x]) W) (a₁ x) W)
    (hdone : ∀ (hi D : Nat) (xs : List α) (W : World), w.heap.size ≤ D → S xs → I hi xs W → W.heap[D]? = some (.deferred (some [])) → Q .normal { a with defers := { target := .collected D, args := #[] } :: a.defers } W)
    (hstop : ∀ (hi D : Nat) (c : Code) (pre : List α) (W : World), w.heap.size ≤ D → Sp pre → Ix hi c pre W → W.heap[D]? = some (.deferred (some [])) → c.wpIn F n P Q { a with defers := { target := .collected D, args := #[] } :: a.defers } W) :
    (Code.rangeFunc g ps assign body).wpIn F n P Q a w := by
  refine wpIn_rangeFunc fun fn hfn => ?_
  rw [hro]
  obtain ⟨L, hL⟩ : ∃ L : LoopState → Option Code → Loop, L = fun st pe => { state := st, pending := pe, fn, tmps := a.tmps, params := ps, assign, body, defers := w.heap.size } := ⟨_, rfl⟩
  obtain ⟨U, hU⟩ : ∃ U, U = (w.alloc (.deferred (some []))).alloc (.loop (L .ready none)) := ⟨_, rfl⟩
  have hRU : RecAt U w.heap.size (L .ready none) := by
    subst hU
    constructor
    · have := World.alloc_heap_new (w.alloc (.deferred (some []))) (.loop (L .ready none))
      rwa [World.size_alloc] at this
    · exact (Below.heap_alloc _ _ _ (by simp)).trans (World.alloc_heap_new w _)
  have hsU : U.heap.size = w.heap.size + 2 := by rw [hU]; simp
  have hwU : Below w.heap.size w U := by subst hU; exact (((Below.refl _ w).alloc (Nat.le_refl _) _).alloc (by simp) _)
  have hBU : Below w0.heap.size w0 U := hb0.trans (hwU.mono hb0.size)
  have recB : ∀ W0, Below U.heap.size U W0 → RecAt W0 w.heap.size (L .ready none) := fun W0 h => ⟨(h.block _ (by omega)).trans hRU.1, (h.block _ (by omega)).trans hRU.2⟩
  refine ⟨w.heap.size + 1, [{ target := .collected w.heap.size, args := #[] }], U, { target := .fn (.func gf) lb, args := #[.func (.yield (w.heap.size + 1)) #[] #[]] }, U, gf, #[.func (.yield (w.heap.size + 1)) #[] #[]] ++ lb, U, ?_, ?_, ?_, ?_, fun _ => h1, ?_⟩
  · rw [hU, hL]
    exact run_enterLoop_outer _ _ _ _ _
  · simp only [resolve, hg]
    simp [go_sem]
  · intro f' hf'
    simp [Target.leads] at hf'
    subst hf'
    exact hFg
  · simp [invoke, go_sem, eg]
  · have toCells : ∀ {A : World} {row : Option Nat}, (∀ r, row = some r → U.heap.size ≤ r ∧ ∃ o : Obj, A.heap[r]? = some o ∧ o.isWalk = true) → ∀ r, row = some r → w.heap.size ≤ r ∧ ∃ o : Obj, A.heap[r]? = some o ∧ o.isCells = false := by
      intro A row hr r e
      obtain ⟨h1, o, h2, h3⟩ := hr r e
      exact ⟨by omega, o, h2, Obj.not_cells_of_walk h3⟩
    refine (hseq (w.heap.size + 1) (fun hi pre W => I hi pre W ∧ RecAt W w.heap.size (L .ready none)) (fun hi pre W => ∃ c, Ix hi c pre W ∧ RecAt W w.heap.size (L .done (some c))) U hBU ?_ ?_ ?_ (fun W0 hW0 => ⟨h0 W0 (hwU.trans (hW0.mono (by omega))), recB W0 hW0⟩)).mono ?_
    · exact fun hi s A B row hs hg' hr => ⟨hI hi s A B row hs.1 hg' (toCells hr), hs.2.abides hg' fun r e => (hr r e).2⟩
    · rintro hi s A B row ⟨c, hc, hrec⟩ hg' hr
      exact ⟨c, hIx hi c s A B row hc hg' (toCells hr), hrec.abides hg' fun r e => (hr r e).2⟩
    · rintro hi pre x W hhi ⟨hi0, hrec⟩ hsp hlen
      have hready : (L .ready none).state = .ready := by rw [hL]
      have hy := run_yield (P := P) (args := encs x) hrec.1 (by rw [hL]; exact hps x)
      rw [hL] at hy
      refine ⟨fn, _, assign, body, hy, roundIn_of_wpIn hfn (hassign _ x W _ ⟨_, run_beginRound hrec.1 hready, ?_⟩)⟩
      have hbusy : RecAt (W.putObj (w.heap.size + 1) (.loop { L .ready none with state := .busy })) w.heap.size { L .ready none with state := .busy } := hrec.put
      have kb : ∀ (V : World) (o : Obj), KeepR U.heap.size hi V (V.putObj (w.heap.size + 1) o) := fun V o => ⟨by simp, fun i h1 _ => World.putObj_heap_other (by omega)⟩
      refine wpIn_mono (hbody hi _ pre x _ (by simpa using hhi) ((hI hi).putObj _ hi0 (by omega) hrec.1 rfl) hsp hlen) ?_
      have shut : ∀ (jump : Option Code) (W3 : World), KeepsOthers (W.putObj (w.heap.size + 1) (.loop { L .ready none with state := .busy })) W3 →
          (Instr.endRound (w.heap.size + 1) jump).run P W3 = .ok (.bool jump.isNone) (W3.putObj (w.heap.size + 1) (.loop (L (if jump.isNone then .ready else .done) jump))) ∧
          RecAt W3 w.heap.size { L .ready none with state := .busy } ∧ RecAt (W3.putObj (w.heap.size + 1) (.loop (L (if jump.isNone then .ready else .done) jump))) w.heap.size (L (if jump.isNone then .ready else .done) jump) := by
        intro jump W3 hk3
        have h3 := hbusy.others hk3
        have hr := run_endRound (P := P) jump h3.1
        rw [hL] at hr h3 ⊢
        exact ⟨hr, h3, h3.put⟩
      rintro e a3 W3 hp
      cases e with
      | normal =>
        obtain ⟨hk3, hkp3, hi3⟩ := hp
        obtain ⟨hr, hb3, hn3⟩ := shut none W3 hk3
        rw [← hsU] at hkp3
        exact ⟨_, _, hr, .inl ⟨rfl, ⟨(hI hi).putObj _ hi3 (by omega) hb3.1 rfl, hn3⟩, ((kb _ _).trans hkp3).trans (kb _ _)⟩⟩
      | ret =>
        obtain ⟨hr, hb3, hn3⟩ := shut (some .ret) W3 hp.1
        exact ⟨_, _, hr, .inr ⟨rfl, .ret, (hIx hi _).putObj _ hp.2 (by omega) hb3.1 rfl, hn3⟩⟩
      | exit id =>
        obtain ⟨hr, hb3, hn3⟩ := shut (some (.exit id)) W3 hp.1
        exact ⟨_, _, hr, .inr ⟨rfl, .exit id, (hIx hi _).putObj _ hp.2 (by omega) hb3.1 rfl, hn3⟩⟩
      | goto t =>
        obtain ⟨hr, hb3, hn3⟩ := shut (some (.goto t)) W3 hp.1
        exact ⟨_, _, hr, .inr ⟨rfl, .goto t, (hIx hi _).putObj _ hp.2 (by omega) hb3.1 rfl, hn3⟩⟩
      | panic ch => exact hp.elim
      | outgrown => exact hp.elim
    · have over : ∀ {st : LoopState} {pe : Option Code} {W2 : World}, st ≠ .busy → RecAt W2 w.heap.size (L st pe) → ∃ o, (Instr.endLoop (w.heap.size + 1)).run P W2 = .ok pe (W2.putObj (w.heap.size + 1) o) := by
        intro st pe W2 hst h2
        have hr := run_endLoop (P := P) h2.1 (by rw [hL]; exact hst)
        rw [hL] at hr
        exact ⟨_, hr⟩
      rintro e W2 ⟨⟨v, rfl⟩, hi, _, (⟨xs, hS, hi0, hrec⟩ | ⟨pre, hSp, c, hi0, hrec⟩)⟩
      · obtain ⟨o, hr⟩ := over (by simp) hrec
        exact ⟨none, _, hr, hdone hi _ xs _ (Nat.le_refl _) hS ((hI hi).putObj _ hi0 (by omega) hrec.1 rfl) ((World.putObj_heap_other (by omega)).trans hrec.2)⟩
      · obtain ⟨o, hr⟩ := over (by simp) hrec
        exact ⟨some c, _, hr, hstop hi _ c pre _ (Nat.le_refl _) hSp ((hIx hi c).putObj _ hi0 (by omega) hrec.1 rfl) ((World.putObj_heap_other (by omega)).trans hrec.2)⟩
end Go.Proofs.Ythkgemaajbjgaaa.Ac

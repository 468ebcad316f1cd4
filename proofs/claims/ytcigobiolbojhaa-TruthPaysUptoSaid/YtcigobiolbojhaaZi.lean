/- Joined by program: Each2 Goes RangeV Iter18 Pay18 Tru4. -/
import Derived.Test.YtcigobiolbojhaaZe
import Derived.RangeFuncNested
import Derived.RangeFuncBound
import Derived.RangeFuncCalls
import Derived.RangeFuncLeaves
import Derived.Shelf.Abstract
import Derived.Shelf.RegionOpen
import Derived.OwnWalkIn
import Derived.TacticsInMore
import Derived.LoopNIn
import Derived.LoopIn
import Derived.Test.YtcigobiolbojhaaZh
/- vcg.Each's iterator: what it hands to yield. -/
namespace Go.Proofs.Ytcigobiolbojhaa.Vb
open Go.RowKit Go.Shelf
attribute [local go_sem] Oper.semAt_some

/-- the winners among the first k, with what they pay -/
def pairsTo (cs ps : List Int) : Nat → List (Int × Int)
  | 0 => []
  | k + 1 => if 0 ≤ (cs[k]?).getD (-1) then pairsTo cs ps k ++ [((k : Int), (ps[k]?).getD 0)] else pairsTo cs ps k
end Go.Proofs.Ytcigobiolbojhaa.Vb

/- Law 17's own: goes. -/
namespace Go.Proofs.Ytcigobiolbojhaa.Vb
open Go.RowKit Go.Shelf
attribute [local go_sem] Oper.semAt_some

theorem sl_kept {W W' : World} {row : Option Nat} {R : Nat → Prop} {v : Value} {n sz : Nat} {xs : List Value} (h : Sl W R v n sz xs) (hg : W.grownBy W' row) (hr : ∀ r, row = some r → ∃ o : Obj, W.heap[r]? = some o ∧ o.isCells = false) : Sl W' R v n sz xs := by
  obtain ⟨hl, A, cap, rfl, h1, h2, h3⟩ := h
  refine ⟨hl, A, cap, rfl, h1, h2, fun hn => ?_⟩
  obtain ⟨b, off, rfl, hb, hlt, hc⟩ := h3 hn
  exact ⟨b, off, rfl, hb, Nat.lt_of_lt_of_le hlt hg.size, fun j u hu => cell_kept (hc j u hu) hg hr⟩
theorem Sl.set {W : World} {R : Nat → Prop} {v : Value} {n sz : Nat} {xs : List Value} (h : Sl W R v n sz xs) {p : Addr} (hp : ¬ R p.block) (u : Value) : Sl (W.setCell p u) R v n sz xs :=
  h.keep (by simp [World.setCell]) fun b _ hr => Below.heap_setCell W p u b (fun e => hp (by rw [← e]; exact hr))

/-- between two rounds -/
structure GoesI (B bn m c' : Nat) (A' : Option Addr) (pv : Value) (L : List (Int × Int)) (ps : List Int) (leave : Int) (pre : List (Int × Int)) (W : World) : Prop where
  pre_ : pre <+: L
  p2 : W.cell? ⟨B, 2, none⟩ = some pv
  lv : W.cell? ⟨B + 1, 0, none⟩ = some (.int .i64 leave)
  rs : W.cell? ⟨B + 2, 0, none⟩ = some (.bool false)
  rf : W.frozen? ⟨B + 2, 0, none⟩ = false
  wh : W.cell? ⟨B + 3, 0, none⟩ = some (.slice A' L.length c')
  nn : W.cell? ⟨bn, 0, none⟩ = some (.int .i64 pre.length)
  nf : W.frozen? ⟨bn, 0, none⟩ = false
  row : Sl W (fun b => b ≠ bn ∧ b ≠ B + 2) (.slice A' L.length c') L.length 1 (ints (L.map (·.1)))
  pay : Sl W (fun b => b ≠ bn ∧ b ≠ B + 2) pv m 1 (ints ps)
theorem GoesI.own (B bn m c' : Nat) (A' : Option Addr) (pv : Value) (L : List (Int × Int)) (ps : List Int) (leave : Int) : Own (GoesI B bn m c' A' pv L ps leave) :=
  fun _ _ _ _ h hg hr => ⟨h.pre_, cell_kept h.p2 hg hr, cell_kept h.lv hg hr, cell_kept h.rs hg hr, (frozen_kept h.rs hg hr).trans h.rf, cell_kept h.wh hg hr, cell_kept h.nn hg hr, (frozen_kept h.nn hg hr).trans h.nf, sl_kept h.row hg hr, sl_kept h.pay hg hr⟩

end Go.Proofs.Ytcigobiolbojhaa.Vb

/- A range over a function whose iterator tells what lies behind what it hands over: V x W, in the world of the yield. -/
namespace Go.Proofs.Ytcigobiolbojhaa.Vb
open Go.RowKit Go.Shelf

def SeqStopsV {α : Type} (F : Fence) (n : Nat) (P : Program) (g : Nat) (lb : Array Value) (encs : α → Array Value) (Kp : World → World → Prop) (V : Nat → α → World → Prop) (S Sp : List α → Prop) (N : Nat) (w : World) : Prop :=
  ∀ (l : Nat) (J Jx : List α → World → Prop) (W : World), Below w.heap.size w W → AbidesFrom W.heap.size J → AbidesFrom W.heap.size Jx →
    (∀ pre x W1, J pre W1 → V W.heap.size x W1 → Sp (pre ++ [x]) → pre.length < N → YieldAt F (n - 1) P l (encs x) W1 fun e W' =>
      (e = .returned (.bool true) ∧ J (pre ++ [x]) W' ∧ Kp W1 W') ∨ (e = .returned (.bool false) ∧ Jx (pre ++ [x]) W')) →
    J [] W →
    CallsIn F n P g (#[.func (.yield l) #[] #[]] ++ lb) W fun e W' => (∃ v, e = .returned v) ∧ ((∃ xs, S xs ∧ J xs W') ∨ (∃ pre, Sp pre ∧ Jx pre W'))

/-- the loop's record at block b + 1, the rounds' deferred calls at block b -/
def RecAt (W : World) (b : Nat) (L : Loop) : Prop := W.heap[b + 1]? = some (.loop L) ∧ W.heap[b]? = some (.deferred (some []))
theorem RecAt.abides {A B : World} {b : Nat} {L : Loop} {row : Option Nat} (h : RecAt A b L) (hg : A.grownBy B row) (hr : ∀ r, row = some r → ∃ o : Obj, A.heap[r]? = some o ∧ o.isWalk = true) : RecAt B b L :=
  ⟨(grownBy_keeps hg hr h.1 rfl).trans h.1, (grownBy_keeps hg hr h.2 rfl).trans h.2⟩
theorem RecAt.put {W : World} {b : Nat} {L L' : Loop} (h : RecAt W b L) : RecAt (W.putObj (b + 1) (.loop L')) b L' :=
  ⟨World.putObj_heap_same (Array.getElem?_eq_some_iff.1 h.1).1, (World.putObj_heap_other (by omega)).trans h.2⟩
theorem RecAt.others {A B : World} {b : Nat} {L : Loop} (h : RecAt A b L) (hk : KeepsOthers A B) : RecAt B b L := ⟨hk.same _ _ h.1 rfl, hk.same _ _ h.2 rfl⟩

variable {F : Fence} {n : Nat} {P : Program}
theorem wpIn_rangeFunc_V {α : Type} {g : Operand} {ps : Array Tmp} {assign body : Code} {Q : Exit → Act → World → Prop} {a : Act} {w : World}
    (hro : F.round = none) (h1 : 1 ≤ n) {gf : Nat} {lb : Array Value} (hg : a.eval g = .func (.func gf) #[] lb) (hFg : F.fn gf) (eg : ∀ args w, (callFunc gf args).run P w = .ok (.enter gf args) w)
    {encs : α → Array Value} {Kp : World → World → Prop} {V : Nat → α → World → Prop} {S Sp : List α → Prop} {N : Nat} {w0 : World} (hseq : SeqStopsV F (n - 1) P gf lb encs Kp V S Sp N w0)
    (hKt : ∀ {A B C : World}, Kp A B → Kp B C → Kp A C) (hKb : ∀ (W : World) (l : Nat) (o o' : Obj), w.heap.size ≤ l → W.heap[l]? = some o → o.isCells = false → o.isWalk = false → Kp W (W.putObj l o')) (hb0 : Below w0.heap.size w0 w) (hps : ∀ x, (encs x).size = ps.size)
    (hV : OwnFrom w.heap.size (V (w.heap.size + 2)))
    (I : List α → World → Prop) (Ix : Code → List α → World → Prop) (hI : OwnFrom w.heap.size I) (hIx : ∀ c, OwnFrom w.heap.size (Ix c)) (h0 : I [] w) (a₁ : α → Act)
    (hassign : ∀ (l : Nat) (x : α) (W : World) (K : Act → World → Prop), K (a₁ x) W →
      assign.wpIn (F.inRound l) (n - 1 - 1) P (Exit.then K (fun _ _ _ => False)) { tmps := (ps.zip (encs x)).foldl (fun t (p, v) => t.setIfInBounds p v) a.tmps, defers := [] } W)
    (hbody : ∀ (l : Nat) (pre : List α) (x : α) (W : World), I pre W → V (w.heap.size + 2) x W → Sp (pre ++ [x]) → pre.length < N → body.wpIn (F.inRound l) (n - 1 - 1) P (ownPostK Kp I Ix (pre ++ [x]) W) (a₁ x) W)
    (hdone : ∀ (D : Nat) (xs : List α) (W : World), w.heap.size ≤ D → S xs → I xs W → W.heap[D]? = some (.deferred (some [])) → Q .normal { a with defers := { target := .collected D, args := #[] } :: a.defers } W)
    (hstop : ∀ (D : Nat) (c : Code) (pre : List α) (W : World), w.heap.size ≤ D → Sp pre → Ix c pre W → W.heap[D]? = some (.deferred (some [])) → c.wpIn F n P Q { a with defers := { target := .collected D, args := #[] } :: a.defers } W) :
    (Code.rangeFunc g ps assign body).wpIn F n P Q a w := by
  refine wpIn_rangeFunc fun fn hfn => ?_
  rw [hro]
  obtain ⟨L, hL⟩ : ∃ L : LoopState → Option Code → Loop, L = fun st pe => { state := st, pending := pe, fn, tmps := a.tmps, params := ps, assign, body, defers := w.heap.size } := ⟨_, rfl⟩
  obtain ⟨U, hU⟩ : ∃ U, U = (w.alloc (.deferred (some []))).alloc (.loop (L .ready none)) := ⟨_, rfl⟩
  have hRU : RecAt U w.heap.size (L .ready none) := by
    subst hU
    constructor
    · have := World.alloc_heap_new (w.alloc (.deferred (some []))) (.loop (L .ready none))
      rwa [World.size_alloc] at this
    · exact (Below.heap_alloc _ _ _ (by simp)).trans (World.alloc_heap_new w _)
  have hsU : U.heap.size = w.heap.size + 2 := by rw [hU]; simp
  have hIU : I [] U := by subst hU; exact hI.alloc _ (hI.alloc _ h0)
  have hBU : Below w0.heap.size w0 U := by
    subst hU
    exact hb0.trans ((((Below.refl _ w).alloc (Nat.le_refl _) _).alloc (by simp) _).mono hb0.size)
  refine ⟨w.heap.size + 1, [{ target := .collected w.heap.size, args := #[] }], U, { target := .fn (.func gf) lb, args := #[.func (.yield (w.heap.size + 1)) #[] #[]] }, U, gf, #[.func (.yield (w.heap.size + 1)) #[] #[]] ++ lb, U, ?_, ?_, ?_, ?_, fun _ => h1, ?_⟩
  · rw [hU, hL]
    exact run_enterLoop_outer _ _ _ _ _
  · simp only [resolve, hg]
    simp [go_sem]
  · intro f' hf'
    simp [Target.leads] at hf'
    subst hf'
    exact hFg
  · simp [invoke, go_sem, eg]
  · have toCells : ∀ {A : World} {row : Option Nat}, (∀ r, row = some r → U.heap.size ≤ r ∧ ∃ o : Obj, A.heap[r]? = some o ∧ o.isWalk = true) → ∀ r, row = some r → w.heap.size ≤ r ∧ ∃ o : Obj, A.heap[r]? = some o ∧ o.isCells = false := by
      intro A row hr r e
      obtain ⟨h1, o, h2, h3⟩ := hr r e
      exact ⟨by omega, o, h2, Obj.not_cells_of_walk h3⟩
    refine (hseq (w.heap.size + 1) (fun pre W => I pre W ∧ RecAt W w.heap.size (L .ready none)) (fun pre W => ∃ c, Ix c pre W ∧ RecAt W w.heap.size (L .done (some c))) U hBU ?_ ?_ ?_ ⟨hIU, hRU⟩).mono ?_
    · exact fun s A B row hs hg' hr => ⟨hI s A B row hs.1 hg' (toCells hr), hs.2.abides hg' fun r e => (hr r e).2⟩
    · rintro s A B row ⟨c, hc, hrec⟩ hg' hr
      exact ⟨c, hIx c s A B row hc hg' (toCells hr), hrec.abides hg' fun r e => (hr r e).2⟩
    · rintro pre x W ⟨hi, hrec⟩ hv hsp hlen
      rw [hsU] at hv
      have hready : (L .ready none).state = .ready := by rw [hL]
      have hy := run_yield (P := P) (args := encs x) hrec.1 (by rw [hL]; exact hps x)
      rw [hL] at hy
      refine ⟨fn, _, assign, body, hy, roundIn_of_wpIn hfn (hassign _ x W _ ⟨_, run_beginRound hrec.1 hready, ?_⟩)⟩
      have hbusy : RecAt (W.putObj (w.heap.size + 1) (.loop { L .ready none with state := .busy })) w.heap.size { L .ready none with state := .busy } := hrec.put
      have hkb : Kp W (W.putObj (w.heap.size + 1) (.loop { L .ready none with state := .busy })) := hKb _ _ _ _ (by omega) hrec.1 rfl rfl
      refine wpIn_mono (hbody _ pre x _ (hI.putObj _ hi (by omega) hrec.1 rfl) (hV.putObj _ hv (by omega) hrec.1 rfl) hsp hlen) ?_
      have shut : ∀ (jump : Option Code) (W3 : World), KeepsOthers (W.putObj (w.heap.size + 1) (.loop { L .ready none with state := .busy })) W3 →
          (Instr.endRound (w.heap.size + 1) jump).run P W3 = .ok (.bool jump.isNone) (W3.putObj (w.heap.size + 1) (.loop (L (if jump.isNone then .ready else .done) jump))) ∧
          RecAt W3 w.heap.size { L .ready none with state := .busy } ∧ RecAt (W3.putObj (w.heap.size + 1) (.loop (L (if jump.isNone then .ready else .done) jump))) w.heap.size (L (if jump.isNone then .ready else .done) jump) := by
        intro jump W3 hk3
        have h3 := hbusy.others hk3
        have hr := run_endRound (P := P) jump h3.1
        rw [hL] at hr h3 ⊢
        exact ⟨hr, h3, h3.put⟩
      rintro e a3 W3 hp
      cases e with
      | normal =>
        obtain ⟨hk3, hkp3, hi3⟩ := hp
        obtain ⟨hr, hb3, hn3⟩ := shut none W3 hk3
        exact ⟨_, _, hr, .inl ⟨rfl, ⟨hI.putObj _ hi3 (by omega) hb3.1 rfl, hn3⟩, hKt (hKt hkb hkp3) (hKb _ _ _ _ (by omega) hb3.1 rfl rfl)⟩⟩
      | ret =>
        obtain ⟨hr, hb3, hn3⟩ := shut (some .ret) W3 hp.1
        exact ⟨_, _, hr, .inr ⟨rfl, .ret, (hIx _).putObj _ hp.2 (by omega) hb3.1 rfl, hn3⟩⟩
      | exit id =>
        obtain ⟨hr, hb3, hn3⟩ := shut (some (.exit id)) W3 hp.1
        exact ⟨_, _, hr, .inr ⟨rfl, .exit id, (hIx _).putObj _ hp.2 (by omega) hb3.1 rfl, hn3⟩⟩
      | goto t =>
        obtain ⟨hr, hb3, hn3⟩ := shut (some (.goto t)) W3 hp.1
        exact ⟨_, _, hr, .inr ⟨rfl, .goto t, (hIx _).putObj _ hp.2 (by omega) hb3.1 rfl, hn3⟩⟩
      | panic ch => exact hp.elim
      | outgrown => exact hp.elim
    · have over : ∀ {st : LoopState} {pe : Option Code} {W2 : World}, st ≠ .busy → RecAt W2 w.heap.size (L st pe) → ∃ o, (Instr.endLoop (w.heap.size + 1)).run P W2 = .ok pe (W2.putObj (w.heap.size + 1) o) := by
        intro st pe W2 hst h2
        have hr := run_endLoop (P := P) h2.1 (by rw [hL]; exact hst)
        rw [hL] at hr
        exact ⟨_, hr⟩
      rintro e W2 ⟨⟨v, rfl⟩, (⟨xs, hS, hi, hrec⟩ | ⟨pre, hSp, c, hi, hrec⟩)⟩
      · obtain ⟨o, hr⟩ := over (by simp) hrec
        exact ⟨none, _, hr, hdone _ xs _ (Nat.le_refl _) hS (hI.putObj _ hi (by omega) hrec.1 rfl) ((World.putObj_heap_other (by omega)).trans hrec.2)⟩
      · obtain ⟨o, hr⟩ := over (by simp) hrec
        exact ⟨some c, _, hr, hstop _ c pre _ (Nat.le_refl _) hSp ((hIx c).putObj _ hi (by omega) hrec.1 rfl) ((World.putObj_heap_other (by omega)).trans hrec.2)⟩
end Go.Proofs.Ytcigobiolbojhaa.Vb

/- core.Steps' iterator: whom it hands over, and what is paid then. -/
namespace Go.Proofs.Ytcigobiolbojhaa.Vb
open Go.RowKit Go.Shelf
attribute [local go_sem] Oper.semAt_some

theorem wpListIn_app {F : Fence} {nf : Nat} {P : Program} (w : World) {ops : Array Oper} {rest : List Oper} {o : Oper} {a : Act} {Q : Exit → Act → World → Prop} (hgd : o.guard = none) (s x : Operand) {t e : TypeId} {sz bytes : Nat} (E : ElemT P t e sz bytes)
    (ho : o.op = .call { callee := .builtin .append, args := #[s, x], argTypes := #[t, t] })
    (base : Nat) (v : Value) (n : Nat) (xs : List Value) (hs : a.eval s = v) (hown : w.ownsRow base e sz v n xs)
    (R : Nat → Prop) (v2 : Value) (m : Nat) (news : List Value) (hx : a.eval x = v2) (hr : Sl w R v2 m sz news) (h1 : ∀ u ∈ news, u.oneCell' = true)
    (hbytes : (n + m) * bytes ≤ 140737488355328) (h63 : n + m ≤ maxLen) (hbase : base ≤ w.heap.size)
    (h : ∀ A' cap' w', w'.ownsRow base e sz (.slice A' (n + m) cap') (n + m) (xs ++ news) → w.grownBy w' v.ownBlock → ((Value.slice A' (n + m) cap').ownBlock = v.ownBlock ∨ (Value.slice A' (n + m) cap').ownBlock = some w.heap.size) → wpListIn F nf P ops Q rest (a.put o.dst (.slice A' (n + m) cap')) w') : wpListIn F nf P ops Q (o :: rest) a w := by
  refine wpListIn_plain hgd fun K hK' => ?_
  obtain ⟨A', cap', w', hrun, h2, h3, h4⟩ := run_append_sl (P := P) w base t o.type e sz bytes E v n xs hown R v2 m news hr h1 hbytes h63 hbase
  unfold Oper.wpIn
  refine ⟨?_, ?_⟩
  · simp [Oper.about, ho, resolve, Target.leads, Sem.run_pure]
  · rw [Oper.semAt_plain F _ _ (by rw [ho]; intro c hc'; cases hc')]
    simp [execOp, ho, resolve, invoke, builtin, hs, hx, hrun, Result.andThen]
    exact hK' _ _ (h A' cap' w' h2 h3 h4)

/-- the blocks from lo to hi are as they were -/
structure KeepR (lo hi : Nat) (W W' : World) : Prop where
  size : W.heap.size ≤ W'.heap.size
  same : ∀ i, lo ≤ i → i < hi → W'.heap[i]? = W.heap[i]?
theorem KeepR.refl (lo hi : Nat) (W : World) : KeepR lo hi W W := ⟨Nat.le_refl _, fun _ _ _ => rfl⟩
theorem KeepR.trans {lo hi : Nat} {A B C : World} (h : KeepR lo hi A B) (k : KeepR lo hi B C) : KeepR lo hi A C := ⟨Nat.le_trans h.size k.size, fun i h1 h2 => (k.same i h1 h2).trans (h.same i h1 h2)⟩
theorem KeepR.grown {lo hi : Nat} {A B C : World} (h : KeepR lo hi A B) (hg : B.grownBy C none) (hB : hi ≤ B.heap.size) : KeepR lo hi A C :=
  ⟨Nat.le_trans h.size hg.size, fun i h1 h2 => (hg.block i (by omega) (fun e => by cases e)).trans (h.same i h1 h2)⟩
theorem KeepR.cell {lo hi : Nat} {A B : World} (h : KeepR lo hi A B) {p : Addr} (h1 : lo ≤ p.block) (h2 : p.block < hi) : B.cell? p = A.cell? p := by
  unfold World.cell?
  rw [h.same p.block h1 h2]
theorem KeepR.sl {lo hi : Nat} {A B : World} (h : KeepR lo hi A B) {v : Value} {n sz : Nat} {xs : List Value} (hs : Sl A (fun b => lo ≤ b ∧ b < hi) v n sz xs) : Sl B (fun b => lo ≤ b ∧ b < hi) v n sz xs :=
  hs.keep h.size fun b _ hr => h.same b hr.1 hr.2

/-- what is handed over: whom, what is paid then, the slice that says it -/
def Told (x : Int × List Int × Value) (b : Nat) (W : World) : Prop := W.ownsRow b 2 1 x.2.2 x.2.1.length (ints x.2.1)
def tells (xs : List (Int × List Int × Value)) : List (Int × List Int) := xs.map fun x => (x.1, x.2.1)
theorem told_own (B b : Nat) : OwnFrom B (fun x W => Told x b W) := by
  intro x W W' row h hg hr
  refine own_far h hg fun r e he => ?_
  obtain ⟨_, o, ho, hc⟩ := hr r e
  obtain ⟨_, h | ⟨g, cap, cur, hv, hgb, hcur, _⟩⟩ := h
  · rw [h.1] at he; cases he
  · rw [hv] at he
    injection he with he
    simp only at he
    subst he
    rw [ho] at hcur
    cases hcur
    cases hc

set_option maxRecDepth 100000 in
set_option maxHeartbeats 2000000 in
theorem steps2_in (F : Fence) (nn : Nat) (hf : F.fn 98) (hro : F.round = none) (hn : 1 ≤ nn) (l b4 b3 lo n₀ m cw ca : Nat) (Aw Aa : Option Addr) (who : List Int) (rows : List (List Int)) (vs : List Value) (hm : m ≤ 40) (hwl : who.length = m) (hrl : rows.length = m)
    (hrow : ∀ r ∈ rows, r.length ≤ 40) (hb3 : b3 < n₀) (hlo3 : lo ≤ b3) (J Jx : List (Int × List Int × Value) → World → Prop) (W : World) (hn0 : n₀ ≤ W.heap.size) (hJ : AbidesFrom W.heap.size J)
    (hY : ∀ pre x W1, J pre W1 → Told x W.heap.size W1 → tells (pre ++ [x]) <+: who.zip rows → pre.length < m → YieldAt F (nn - 1) Try.prog l #[.int .i64 x.1, x.2.2] W1 fun e W' =>
      (e = .returned (.bool true) ∧ J (pre ++ [x]) W' ∧ KeepR lo n₀ W1 W') ∨ (e = .returned (.bool false) ∧ Jx (pre ++ [x]) W'))
    (h4 : W.cell? ⟨b4, 0, none⟩ = some (.slice Aw m cw)) (h3 : W.cell? ⟨b3, 0, none⟩ = some (.slice Aa m ca)) (hs4 : Sl W (fun b => lo ≤ b ∧ b < n₀) (.slice Aw m cw) m 1 (ints who)) (hs3 : Sl W (fun b => lo ≤ b ∧ b < n₀) (.slice Aa m ca) m 1 vs)
    (hvs : ∀ (j : Nat) (r : List Int), rows[j]? = some r → ∃ u, vs[j]? = some u ∧ Sl W (fun b => lo ≤ b ∧ b < n₀) u r.length 1 (ints r)) (h0 : J [] W) :
    CallsIn F nn Try.prog 98 #[.func (.yield l) #[] #[], .pointer (some ⟨b4, 0, none⟩), .pointer (some ⟨b3, 0, none⟩)] W fun e W' => (∃ v, e = .returned v) ∧
      ((∃ ys, tells ys = who.zip rows ∧ J ys W') ∨ (∃ pre, tells pre <+: who.zip rows ∧ Jx pre W')) := by
  refine callsIn_of_wp Try.func98 rfl hf ?_ hro
  have HW := Lib.hid hwl
  have HR := Lib.hid hrl
  have HROW := Lib.hid hrow
  have HS4 := Lib.hid hs4
  have HS3 := Lib.hid hs3
  have HVS := Lib.hid hvs
  have HY := Lib.hid hY
  have HJA := Lib.hid hJ
  have H3 := Lib.hid h3
  clear hwl hrl hrow hs4 hs3 hvs hY hJ
  simp only [Try.ntmps98, List.size_toArray, List.length_cons, List.length_nil, Nat.reduceAdd, Nat.reduceSub, Array.replicate_succ, Array.replicate_zero, List.push_toArray, List.append_toArray, List.nil_append, List.cons_append]
  gi_wp2
  clear h4 h3
  gi_loopw [8] (fun i wr => ∃ (k : Nat) (xs : List (Int × List Int × Value)), k ≤ m ∧ i = .int .i64 k ∧ tells xs = (who.zip rows).take k ∧ J xs wr ∧ KeepR lo n₀ W wr) (fun i _ => m - (intOf i).toNat)
  case atStart => exact ⟨0, [], Nat.zero_le _, rfl, rfl, h0, KeepR.refl _ _ _⟩
  case round =>
    obtain ⟨k, xs, hk, rfl, htl, hJs, hnx⟩ := hrel
    have HJ := Lib.hid hJs
    have HNX := Lib.hid hnx
    have HT := Lib.hid htl
    clear hJs htl
    by_cases hlt : k < m
    · obtain ⟨b1, o1, x1, rfl, _, hx1, hc1⟩ := (hnx.sl HS4.out).int_at hlt
      obtain ⟨r, hr⟩ : ∃ r, rows[k]? = some r := ⟨_, List.getElem?_eq_getElem (by rw [HR.out]; exact hlt)⟩
      obtain ⟨u, hu, hsu⟩ := HVS.out k r hr
      obtain ⟨_, A3, c3', hv3, _, _, hcs⟩ := hnx.sl HS3.out
      injection hv3 with hA3 _ _
      subst hA3
      obtain ⟨b5, o5, rfl, _, _, hc5⟩ := hcs (by omega)
      have d5 := hc5 _ _ hu
      have p3 : wr.cell? ⟨b3, 0, none⟩ = some (.slice (some ⟨b5, o5, none⟩) m ca) := (hnx.cell (p := ⟨b3, 0, none⟩) hlo3 hb3).trans H3.out
      have HSU := Lib.hid (hnx.sl hsu)
      obtain ⟨_, A6, c6, rfl, _⟩ := id hsu
      have hrl := HROW.out r (List.mem_of_getElem? hr)
      have e1 : (0 : Int) ≤ (k : Int) := by omega
      have e2 : (k : Int) < (m : Int) := by omega
      have hsz := hnx.size
      have hn0' : n₀ ≤ wr.heap.size := by omega
      have hxl : xs.length = k := by
        have := congrArg List.length HT.out
        simp [tells, HW.out, HR.out] at this
        omega
      have hz : (who.zip rows)[k]? = some (x1, r) := by rw [List.getElem?_zip_eq_some]; exact ⟨hx1, hr⟩
      have HZ := Lib.hid hz
      have HXL := Lib.hid hxl
      clear hcs hc5 hu hsu hr hx1 hz hxl hnx
      gi_wp2_with (refine wpListIn_app _ rfl (.const (.slice none 0 0)) (.tmp 18) et_i64 rfl W.heap.size (.slice none 0 0) 0 [] rfl (World.ownsRow_nil _ _ _ _) _ _ r.length (ints r) rfl HSU.out (by simp [ints, Value.oneCell']) (by omega) (by unfold maxLen; omega) hsz ?_; intro A7 c7 w7 hown7 hg7 _; rw [Nat.zero_add] at hown7 ⊢; rw [List.nil_append] at hown7; have HN7 := Lib.hid (HNX.out.grown hg7 hn0'); obtain ⟨fn, tmps, assign, body, hy, hRR⟩ := HY.out xs (x1, r, .slice A7 r.length c7) w7 (HJA.out xs wr w7 none HJ.out hg7 (fun r e => by cases e)) hown7 (by have : tells (xs ++ [(x1, r, .slice A7 r.length c7)]) = (who.zip rows).take (k + 1) := by { rw [List.take_add_one, HZ.out, ← HT.out]; simp [tells] }; rw [this]; exact List.take_prefix _ _) (by have := HXL.out; omega); dsimp only at hy; have HRR := Lib.hid hRR; clear hown7 hg7 hRR)
      refine HRR.out.mono ?_
      rintro e W3 (⟨rfl, hJ3, hk3⟩ | ⟨rfl, hJx3⟩)
      · gi_wp2
        go_roundw
        case rel =>
          refine ⟨k + 1, xs ++ [(x1, r, .slice A7 r.length c7)], by omega, by go_num, ?_, hJ3, HN7.out.trans hk3⟩
          rw [List.take_add_one, HZ.out, ← HT.out]
          simp [tells]
        case measure => simp [intOf]; omega
      · gi_wp2
        refine bodyPost_ret (results_none rfl _ _ _) rfl ?_
        refine ⟨⟨_, rfl⟩, .inr ⟨_, ?_, hJx3⟩⟩
        have : tells (xs ++ [(x1, r, .slice A7 r.length c7)]) = (who.zip rows).take (k + 1) := by
          rw [List.take_add_one, HZ.out, ← HT.out]
          simp [tells]
        rw [this]
        exact List.take_prefix _ _
    · obtain rfl : k = m := by omega
      clear hnx
      gi_wp2
      go_end0
      refine ⟨⟨_, rfl⟩, .inl ⟨xs, ?_, HJ.out⟩⟩
      rw [HT.out, List.take_of_length_le (by simp [HW.out, HR.out])]
end Go.Proofs.Ytcigobiolbojhaa.Vb

/- core.Pay. -/
namespace Go.Proofs.Ytcigobiolbojhaa.Vb
open Go.RowKit Go.Shelf
attribute [local go_sem] Oper.semAt_some

theorem shared_stops (F : Fence) (nn : Nat) (hf : F.fn 98) (hro : F.round = none) (hn : 1 ≤ nn) {w0 w : World} {lo b4 b3 : Nat} {who : List Int} {rows : List (List Int)} (h : Shared w0 lo b4 b3 who rows) (hm : who.length ≤ 40) (hrl : rows.length = who.length) (hrow : ∀ r ∈ rows, r.length ≤ 40) (hb : KeepR lo w0.heap.size w0 w) :
    SeqStopsV F nn Try.prog 98 #[.pointer (some ⟨b4, 0, none⟩), .pointer (some ⟨b3, 0, none⟩)] (fun x : Int × List Int × Value => #[Value.int .i64 x.1, x.2.2]) (KeepR lo w0.heap.size) (fun b x W => Told x b W) (fun ys => tells ys = who.zip rows) (fun pre => tells pre <+: who.zip rows) who.length w := fun l J Jx W hW hJ _ hY h0 => by
  obtain ⟨Aw, cw, Aa, ca, vs, h1, h2, h3, h4, h5, h6, h7⟩ := h
  have hk : KeepR lo w0.heap.size w0 W := hb.trans ⟨hW.size, fun i _ hi => hW.block i (by have := hb.size; omega)⟩
  have hR : ∀ {v : Value} {m sz : Nat} {xs : List Value}, Sl w0 (lo ≤ ·) v m sz xs → Sl W (fun b => lo ≤ b ∧ b < w0.heap.size) v m sz xs := fun hs => hk.sl (hs.mono fun b hlt hb => ⟨hb, hlt⟩)
  exact steps2_in F nn hf hro hn l b4 b3 lo w0.heap.size who.length cw ca Aw Aa who rows vs hm rfl hrl hrow h5.lt h2 J Jx W hk.size hJ hY ((hk.cell (p := ⟨b4, 0, none⟩) h1 h3.lt).trans (h3.cell 0)) ((hk.cell (p := ⟨b3, 0, none⟩) h2 h5.lt).trans (h5.cell 0)) (hR h4) (hR h6)
    (fun j r hj => let ⟨u, hu, hs⟩ := h7 j r hj; ⟨u, hu, hR hs⟩) h0
theorem whoL_len (n : Int) (bs : List (List Off)) : (whoL n bs).length ≤ bs.length := by
  unfold whoL
  split
  · exact whoTo_len _ _
  · simp
theorem rowsTo_rows {n : Int} {bs : List (List Off)} (hi : instE n bs = 0) (hwf : ∀ l ∈ bs, ∀ o ∈ l, o.wf) {r : List Int} (h : r ∈ rowsL n bs) : r.length = bs.length := by
  unfold rowsL at h
  rw [if_pos hi] at h
  obtain ⟨j, hj, rfl⟩ := rowsTo_mem h
  exact payTo_len hi hwf hj
/-- the last of the rows is what is paid -/
theorem rowsTo_last (n : Int) (bs : List (List Off)) : ∀ k, (rowsTo n bs k).getLastD (bidsC n bs) = payTo n bs k
  | 0 => rfl
  | k + 1 => by
    unfold rowsTo
    split
    · simp
    · rename_i hw
      rw [rowsTo_last n bs k]
      show _ = payStep n bs (payTo n bs k) k
      unfold payStep
      rw [if_neg hw]

theorem keepR_t {lo hi : Nat} {A B C : World} (h : KeepR lo hi A B) (k : KeepR lo hi B C) : KeepR lo hi A C := h.trans k
theorem keepR_b {lo hi : Nat} {w : World} (hn : hi ≤ w.heap.size) (W : World) (l : Nat) (o o' : Obj) (hl : w.heap.size ≤ l) (_ : W.heap[l]? = some o) (_ : o.isCells = false) (_ : o.isWalk = false) : KeepR lo hi W (W.putObj l o') :=
  ⟨by simp, fun i _ h2 => World.putObj_heap_other (by omega)⟩
theorem KeepR.set {lo hi : Nat} (W : World) {p : Addr} (hp : p.block < lo ∨ hi ≤ p.block) (u : Value) : KeepR lo hi W (W.setCell p u) :=
  ⟨by simp [World.setCell], fun i h1 h2 => Below.heap_setCell W p u i (by omega)⟩
/-- a row of cells abides what turns no cells -/
theorem own_cells {W W' : World} {row : Option Nat} {b : Nat} {e : TypeId} {sz n : Nat} {v : Value} {xs : List Value} (h : W.ownsRow b e sz v n xs) (hg : W.grownBy W' row) (hr : ∀ r, row = some r → ∃ o : Obj, W.heap[r]? = some o ∧ o.isCells = false) : W'.ownsRow b e sz v n xs := by
  refine own_far h hg fun r e he => ?_
  obtain ⟨o, ho, hc⟩ := hr r e
  obtain ⟨_, h | ⟨g, cap, cur, hv, hgb, hcur, _⟩⟩ := h
  · rw [h.1] at he; cases he
  · rw [hv] at he
    injection he with he
    simp only at he
    subst he
    rw [ho] at hcur
    cases hcur
    cases hc
theorem Blk.cells {W W' : World} {row : Option Nat} {g : Nat} {t : TypeId} {cs : Array Value} (h : Blk W g t cs) (hg : W.grownBy W' row) (hr : ∀ r, row = some r → ∃ o : Obj, W.heap[r]? = some o ∧ o.isCells = false) : Blk W' g t cs :=
  h.grown hg fun e => by
    obtain ⟨o, ho, hc⟩ := hr g e.symm
    unfold Blk at h
    rw [h] at ho
    cases ho
    cases hc
/-- what was told last -/
def lastT (d : List Int) (xs : List (Int × List Int × Value)) : List Int := ((tells xs).map (·.2)).getLastD d
theorem lastT_snoc (d : List Int) (xs : List (Int × List Int × Value)) (x : Int × List Int × Value) : lastT d (xs ++ [x]) = x.2.1 := by
  simp [lastT, tells]
theorem lastT_all {n : Int} {bs : List (List Off)} (hi : instE n bs = 0) {xs : List (Int × List Int × Value)} (h : tells xs = (whoL n bs).zip (rowsL n bs)) : lastT (bidsC n bs) xs = payTo n bs bs.length := by
  unfold lastT
  rw [h, ← List.unzip_snd, List.unzip_zip (by rw [rowsL_len])]
  unfold rowsL
  rw [if_pos hi]
  exact rowsTo_last _ _ _

/-- between two turns: what is told last lies at g -/
def PayI (lo g : Nat) (d : List Int) (xs : List (Int × List Int × Value)) (W : World) : Prop :=
  ∃ A' c', Blk W g 34 #[.slice A' (lastT d xs).length c'] ∧ W.ownsRow lo 2 1 (.slice A' (lastT d xs).length c') (lastT d xs).length (ints (lastT d xs))
theorem payI_own (lo g : Nat) (d : List Int) : Own (PayI lo g d) := fun _ _ _ _ ⟨A', c', h1, h2⟩ hg hr => ⟨A', c', h1.cells hg hr, own_cells h2 hg hr⟩

set_option maxRecDepth 100000 in
set_option maxHeartbeats 4000000 in
theorem corePay_ok (n : Int) (bs : List (List Off)) (v : Value) (R : Nat → Prop) (w : World) (hl : Buys w R v bs) (hi : instE n bs = 0) :
    Calls Try.prog 39 #[.agg #[.int .i64 n, v]] w fun e w' => ∃ A' c', e = .returned (.tuple #[.slice A' bs.length c', .int .i64 0]) ∧ w'.ownsRow w.heap.size 2 1 (.slice A' bs.length c') bs.length (ints (payTo n bs bs.length)) ∧ Below w.heap.size w w' := by
  obtain ⟨_, ⟨_, A, cap, rfl, _⟩, _⟩ := id hl
  have HB := Lib.hid hl
  have HI := Lib.hid hi
  have HWF := Lib.hid (Buys.wf hl)
  have hl32 := (instE_zero hi).2.2.1
  clear hl hi
  refine (callsIn_wide (n := 3)).1 (callsIn_of_wp_marks Try.func39 rfl trivial ((wpIn_wide (n := 3)).2 ?_))
  simp only [Try.ntmps39, List.size_toArray, List.length_cons, List.length_nil, Nat.reduceAdd, Nat.reduceSub, Array.replicate_succ, Array.replicate_zero, List.push_toArray, List.append_toArray, List.nil_append, List.cons_append]
  go_wp2_with fail
  refine (of_ok n bs _ R _ (HB.out.alloc _) HI.out).mono ?_
  rintro e w1 ⟨g, A1, c1, rfl, hw1, hb1⟩
  have HX1 := Lib.hid (one_blk' hb1).1
  have HB1 := Lib.hid (one_blk' hb1).2.2
  have hs1 := (one_blk' hb1).2.1
  have HW1 := Lib.hid hw1
  have hcb := hw1.cb
  have hx1 : w1.cell? ⟨w.heap.size, 0, none⟩ = some (.int .i64 n) := (one_blk' hb1).1.cell 0
  have hx2 : w1.cell? ⟨w.heap.size, 1, none⟩ = some (.slice A bs.length cap) := (one_blk' hb1).1.cell 1
  clear hw1 hb1
  have hx1a := cellAlloc hx1 (.cells #[.slice A1 bs.length c1] 34)
  have hx2a := cellAlloc hx2 (.cells #[.slice A1 bs.length c1] 34)
  go_wp2_with fail
  obtain ⟨W2, hW2⟩ : ∃ W, W = w1.alloc (.cells #[.slice A1 bs.length c1] 34) := ⟨_, rfl⟩
  have HO2 := Lib.hid (show Blk W2 w1.heap.size 34 #[.slice A1 bs.length c1] from by rw [hW2]; exact Blk.new w1 _ _)
  have HW2 := Lib.hid (show W2.ownsRow (w.heap.size + 1) 2 1 (.slice A1 bs.length c1) bs.length (ints (bidsC n bs)) from by rw [hW2]; exact own_alloc (by simpa using HW1.out.2.2) _)
  have HB2 := Lib.hid (show Below w.heap.size w W2 from by rw [hW2]; exact HB1.out.alloc (by omega) _)
  have hs2 : W2.heap.size = w1.heap.size + 1 := by rw [hW2]; simp
  rw [← hW2]
  clear hW2 hx1 hx2 hx1a hx2a
  refine (coreSteps_ok n bs _ R _ (HB.out.grow HB2.out) HI.out).mono ?_
  rintro e w3 ⟨b4, b3, rfl, hsh, hb3⟩
  have HO3 := Lib.hid (HO2.out.grow hb3)
  have HW3 := Lib.hid (own_grow HW2.out hb3)
  have HB3 := Lib.hid (HB2.out.trans (hb3.mono HB2.out.size))
  have HSH := Lib.hid hsh
  have hs3 := hb3.size
  clear hb3 hsh
  go_wp2_with fail
  refine (wpIn_wide (n := 3)).1 ?_
  refine' wpIn_rangeFunc_V (F := Fence.wide) (n := 3) rfl (by omega) (gf := 98) (lb := #[.pointer (some ⟨b4, 0, none⟩), .pointer (some ⟨b3, 0, none⟩)]) rfl trivial (enters_of Try.func98 (by kernel_rfl) rfl)
    (shared_stops Fence.wide 2 trivial rfl (by omega) HSH.out (by have := whoL_len n bs; omega) (rowsL_len n bs) (fun r hr => by rw [rowsTo_rows HI.out HWF.out hr]; omega) (KeepR.refl _ _ _)) keepR_t (keepR_b (Nat.le_refl _)) (Below.refl _ _) (fun _ => rfl) (told_own _ _)
    (fun pre W => PayI w.heap.size w1.heap.size (bidsC n bs) pre W ∧ Below w.heap.size w W)
    (fun _ _ _ => False)
    (OwnFrom.and (Own.from (payI_own _ _ _) _) (ownFrom_below (Nat.le_refl _) (by omega)))
    (fun c => fun _ _ _ _ h _ _ => h)
    ⟨⟨A1, c1, ?b1, ?b2⟩, HB3.out⟩ _ ?assign ?body ?done ?stop
  case b1 => rw [show (lastT (bidsC n bs) []).length = bs.length from bidsC_length n bs]; exact HO3.out
  case b2 => rw [show (lastT (bidsC n bs) []).length = bs.length from bidsC_length n bs]; exact own_mono HW3.out (by omega)
  case assign =>
    intro l x W K hK
    gi_wp2
    exact hK
  case body =>
    rintro l pre x W ⟨⟨A', c', hI, hI2⟩, hB⟩ hT hsp hlt2
    have hTT : W.ownsRow (w3.heap.size + 2) 2 1 x.2.2 x.2.1.length (ints x.2.1) := hT
    obtain ⟨xa, xl, xv⟩ := x
    obtain ⟨Ax, cx, hxv⟩ := own_form hTT
    dsimp only at hxv hTT
    subst hxv
    have p0 : W.cell? ⟨w1.heap.size, 0, none⟩ = some (.slice A' (lastT (bidsC n bs) pre).length c') := hI.cell 0
    have p1 := hI.frozen 0
    have HII := Lib.hid hI
    have HT := Lib.hid hTT
    have HBB := Lib.hid hB
    clear hI hI2 hB hT hTT hsp hlt2
    dsimp only
    gi_wp2
    refine ⟨KeepsOthers.setCell _ _ _, KeepR.set W (.inl (by simp; omega)) _, ⟨Ax, cx, ?_, ?_⟩, HBB.out.setCell (p := ⟨w1.heap.size, 0, none⟩) (by simp; omega) _⟩
    · rw [lastT_snoc]
      exact HII.out.set_ 0 (.slice Ax xl.length cx)
    · rw [lastT_snoc]
      exact own_mono (own_lo HT.out (grownBy_setCell W ⟨w1.heap.size, 0, none⟩ (.slice Ax xl.length cx)) (fun g e => by simp at e; omega)) (by omega)
  case done =>
    rintro D ys W hD hys ⟨⟨A', c', hI, hI2⟩, hB⟩ hK
    have hlen := payTo_len HI.out HWF.out (Nat.le_refl bs.length)
    rw [lastT_all HI.out hys, hlen] at hI hI2
    have p0 : W.cell? ⟨w1.heap.size, 0, none⟩ = some (.slice A' bs.length c') := hI.cell 0
    have HO := Lib.hid hI2
    have HBB := Lib.hid hB
    have HK := Lib.hid hK
    clear hI hI2 hB hK hlen
    go_wp2_with fail
    refine ⟨by simp, .inl ⟨_, _, rfl, run_takeDeferred HK.out, ?_⟩⟩
    refine ⟨.tuple #[.slice A' bs.length c', .int .i64 0], by simp [results, Try.results39, go_sem], A', c', rfl, own_cells HO.out (grownBy_putObj' W D (.deferred none)) (fun r e => by cases e; exact ⟨_, HK.out, rfl⟩), HBB.out.trans (belowK_b (w := w) (Nat.le_refl _) W D _ _ (by omega) HK.out rfl rfl)⟩
  case stop =>
    rintro D c pre W hD hpre2 hf hK
    exact hf.elim
end Go.Proofs.Ytcigobiolbojhaa.Vb

/- truth.pays, its function literal; truth.asked's function: what a buyer gains by some offers. -/
namespace Go.Proofs.Ytcigobiolbojhaa.Vb
open Go.RowKit

def payF (r : Int) : Value := if r = 1 then .func (.func 165) #[] #[] else if r = 2 then .func (.func 39) #[] #[] else .nilFunc
theorem pays_any (r : Int) (hr : -9223372036854775808 ≤ r ∧ r ≤ 9223372036854775807) (w : World) : Calls Try.prog 143 #[.int .i64 r] w fun e w' => e = .returned (payF r) ∧ w = w' := by
  by_cases h1 : r = 1
  · subst h1
    go_enter Try.func143, Try.ntmps143
    go_wp2_with fail
    go_ret
    exact ⟨rfl, rfl⟩
  · by_cases h2 : r = 2
    · subst h2
      go_enter Try.func143, Try.ntmps143
      go_wp2_with fail
      go_ret
      exact ⟨rfl, rfl⟩
    · have hp : payF r = .nilFunc := by unfold payF; rw [if_neg h1, if_neg h2]
      have e1 : (r == 1) = false := by simpa using h1
      have e2 : (r == 2) = false := by simpa using h2
      rw [hp]
      clear hp
      go_enter Try.func143, Try.ntmps143
      go_wp2_with fail
      go_ret
      exact ⟨rfl, rfl⟩

set_option maxHeartbeats 800000 in
theorem pays1_ok (n : Int) (bs : List (List Off)) (v : Value) (R : Nat → Prop) (w : World) (hl : Buys w R v bs) (hi : instE n bs = 0) :
    Calls Try.prog 165 #[.agg #[.int .i64 n, v]] w fun e w' => ∃ A' c', e = .returned (.tuple #[.slice A' bs.length c', .int .i64 0]) ∧ w'.ownsRow w.heap.size 2 1 (.slice A' bs.length c') bs.length (ints (paysC n bs)) ∧ Below w.heap.size w w' := by
  obtain ⟨_, ⟨_, A, cap, rfl, _⟩, _⟩ := id hl
  have HB := Lib.hid hl
  have HI := Lib.hid hi
  clear hl hi
  go_enter Try.func165, Try.ntmps165
  go_wp2_with fail
  refine (costs_ok n bs _ R _ (HB.out.alloc _) HI.out).mono ?_
  rintro e w1 ⟨A1, c1, A2, c2, rfl, ho1, ho2, hb1⟩
  have HO2 := Lib.hid (own_mono ho2 (show w.heap.size ≤ (w.alloc (.cells #[.int .i64 n, .slice A bs.length cap] 24)).heap.size by simp))
  have HB1 := Lib.hid (((Below.refl _ _).alloc (Nat.le_refl _) _).trans (hb1.mono (B' := w.heap.size) (by simp)))
  clear ho1 ho2 hb1
  go_wp2_with fail
  exact bodyPost_ret (v := .tuple #[.slice A2 bs.length c2, .int .i64 0]) (by simp [results, Try.results165, go_sem]) rfl ⟨_, _, rfl, own_alloc HO2.out _, HB1.out.alloc HB1.out.size _⟩

def payR (r : Int) (n : Int) (bs : List (List Off)) : List Int := if r = 1 then paysC n bs else payTo n bs bs.length
/-- what buyer k gains by the offers l -/
def byV (n : Int) (bs : List (List Off)) (k : Nat) (r : Int) (tr l : List Off) : Int :=
  if (bestC n (bs.set k l))[k]?.getD 0 < 0 then 0 else gainV tr ((l[((bestC n (bs.set k l))[k]?.getD 0).toNat]?.map (·.g)).getD 0) ((payR r n (bs.set k l))[k]?.getD 0)

/-- what a function that asked told holds -/
structure AskC (W : World) (R0 : Nat → Prop) (b5 b6 b12 b8 : Nat) (n : Int) (bs : List (List Off)) (k : Nat) (r : Int) (tr : List Off) (vb vt : Value) : Prop where
  x : Blk W b5 24 #[.int .i64 n, vb]
  b : Blk W b6 3 #[.int .i64 k]
  p : Blk W b12 57 #[payF r]
  t : Blk W b8 41 #[vt]
  hx : Buys W R0 vb bs
  ht : Offs W R0 vt tr
  l5 : R0 b5
  l6 : R0 b6
  l12 : R0 b12
  l8 : R0 b8
theorem AskC.grow {W W' : World} {lo : Nat → Prop} {b5 b6 b12 b8 : Nat} {n : Int} {bs : List (List Off)} {k : Nat} {r : Int} {tr : List Off} {vb vt : Value} (h : AskC W lo b5 b6 b12 b8 n bs k r tr vb vt) (hb : Below W.heap.size W W') : AskC W' lo b5 b6 b12 b8 n bs k r tr vb vt :=
  ⟨h.x.grow hb, h.b.grow hb, h.p.grow hb, h.t.grow hb, h.hx.grow hb, h.ht.grow hb, h.l5, h.l6, h.l12, h.l8⟩

theorem Blk.keep {W W' : World} {g : Nat} {t : TypeId} {cs : Array Value} (h : Blk W g t cs) (hk : W'.heap[g]? = W.heap[g]?) : Blk W' g t cs := hk.trans h
theorem Buys.keep {W W' : World} {R : Nat → Prop} {v : Value} {bs : List (List Off)} (h : Buys W R v bs) (hs : W.heap.size ≤ W'.heap.size) (hk : ∀ b, b < W.heap.size → R b → W'.heap[b]? = W.heap[b]?) : Buys W' R v bs := by
  obtain ⟨vs, h1, h2⟩ := h
  exact ⟨vs, h1.keep hs hk, fun k l hkl => by
    obtain ⟨u, hu, ho⟩ := h2 k l hkl
    exact ⟨u, hu, ho.1.keep hs hk, ho.2⟩⟩
theorem Buys.sized {W : World} {R : Nat → Prop} {v : Value} {bs : List (List Off)} (h : Buys W R v bs) : Buys W (fun b => R b ∧ b < W.heap.size) v bs := h.mono fun _ hlt hr => ⟨hr, hlt⟩
theorem AskC.keep {W W' : World} {R0 : Nat → Prop} {b5 b6 b12 b8 : Nat} {n : Int} {bs : List (List Off)} {k : Nat} {r : Int} {tr : List Off} {vb vt : Value} (h : AskC W R0 b5 b6 b12 b8 n bs k r tr vb vt) (hs : W.heap.size ≤ W'.heap.size) (hk : ∀ b, b < W.heap.size → R0 b → W'.heap[b]? = W.heap[b]?) : AskC W' R0 b5 b6 b12 b8 n bs k r tr vb vt :=
  ⟨h.x.keep (hk _ h.x.lt h.l5), h.b.keep (hk _ h.b.lt h.l6), h.p.keep (hk _ h.p.lt h.l12), h.t.keep (hk _ h.t.lt h.l8), h.hx.keep hs hk, ⟨h.ht.1.keep hs hk, h.ht.2⟩, h.l5, h.l6, h.l12, h.l8⟩
theorem AskC.mono {W : World} {R0 R1 : Nat → Prop} {b5 b6 b12 b8 : Nat} {n : Int} {bs : List (List Off)} {k : Nat} {r : Int} {tr : List Off} {vb vt : Value} (h : AskC W R0 b5 b6 b12 b8 n bs k r tr vb vt) (hR : ∀ b, b < W.heap.size → R0 b → R1 b) : AskC W R1 b5 b6 b12 b8 n bs k r tr vb vt :=
  ⟨h.x, h.b, h.p, h.t, h.hx.mono hR, h.ht.mono hR, hR _ h.x.lt h.l5, hR _ h.b.lt h.l6, hR _ h.p.lt h.l12, hR _ h.t.lt h.l8⟩

theorem checkE_len {n : Int} {l : List Off} (h : checkE n l = 0) : l.length ≤ 8 := by
  unfold checkE at h
  split at h
  · omega
  · split at h
    · omega
    · omega

set_option maxRecDepth 100000 in
set_option maxHeartbeats 3200000 in
theorem asked1_any (lo : Nat → Prop) (b5 b6 b12 b8 : Nat) (n : Int) (bs : List (List Off)) (k : Nat) (r : Int) (tr l : List Off) (vb vt vl : Value) (R : Nat → Prop) (w : World) (hA : AskC w lo b5 b6 b12 b8 n bs k r tr vb vt)
    (hr : r = 1 ∨ r = 2) (hi : instE n bs = 0) (hk : k < bs.length) (hl : Offs w R vl l) (hc : checkE n l = 0) :
    Calls Try.prog 144 #[vl, .pointer (some ⟨b5, 0, none⟩), .pointer (some ⟨b6, 0, none⟩), .pointer (some ⟨b12, 0, none⟩), .pointer (some ⟨b8, 0, none⟩)] w fun e w' => e = .returned (.int .i64 (byV n bs k r tr l)) ∧ Below w.heap.size w w' := by
  have HA := Lib.hid hA
  have HL := Lib.hid hl
  have hwe : withE n bs (k : Int) l = 0 := by rw [withE_in hi hk]; exact hc
  have hl8 := checkE_len hc
  have hys : instE n (bs.set k l) = 0 := instE_set hi hl8 hc
  obtain ⟨y, hy⟩ : ∃ y, y = bs.set k l := ⟨_, rfl⟩
  have hyl : y.length = bs.length := by rw [hy]; simp
  have hyk : y[k]? = some l := by rw [hy]; simp [hk]
  have hb32 : bs.length ≤ 32 := (instE_zero hi).2.2.1
  obtain ⟨c, hcc⟩ : ∃ c, (bestC n y)[k]? = some c := ⟨_, List.getElem?_eq_getElem (by rw [bestC_len, hyl]; exact hk)⟩
  have hyw : ∀ x ∈ y, ∀ o ∈ x, o.wf := by
    intro x hx o ho
    rw [hy] at hx
    rcases List.mem_or_eq_of_mem_set hx with h | h
    · exact hA.hx.wf x h o ho
    · subst h
      exact hl.2 o ho
  obtain ⟨p, hpp⟩ : ∃ p, (payR r n y)[k]? = some p := by
    have : (payR r n y).length = y.length := by
      unfold payR
      split
      · exact paysC_length n y
      · exact payTo_len (hy ▸ hys) hyw (Nat.le_refl _)
    exact ⟨_, List.getElem?_eq_getElem (by rw [this, hyl]; exact hk)⟩
  have hval : byV n bs k r tr l = if c < 0 then 0 else gainV tr ((l[c.toNat]?.map (·.g)).getD 0) p := by
    unfold byV
    rw [← hy, hcc, hpp]
    rfl
  obtain ⟨ans, hans⟩ : ∃ z, z = byV n bs k r tr l := ⟨_, rfl⟩
  rw [← hans]
  rw [hval] at hans
  have HANS := Lib.hid hans
  clear hans
  have hcg : c = -1 ∨ ∃ (j : Nat) (o : Off), c = (j : Int) ∧ l[j]? = some o := by
    rcases choose_get _ _ _ _ hcc with h | ⟨j, l', o, h1, h2, h3⟩
    · exact .inl h
    · rw [hyk] at h2
      injection h2 with h2
      subst h2
      exact .inr ⟨j, o, h1, h3⟩
  have HY := Lib.hid hy
  have HYI := Lib.hid (hy ▸ hys : instE n y = 0)
  have HWE := Lib.hid hwe
  have HYL := Lib.hid hyl
  have HC := Lib.hid hcc
  have HPP := Lib.hid hpp
  obtain ⟨_, ⟨_, Ab, capb, rfl, _⟩, _⟩ := id hA.hx
  obtain ⟨⟨_, At, capt, rfl, _⟩, _⟩ := id hA.ht
  obtain ⟨⟨_, Al, capl, rfl, _⟩, hlwf⟩ := id hl
  obtain ⟨x0, x1, xb, xp, xt⟩ : w.cell? ⟨b5, 0, none⟩ = some (.int .i64 n) ∧ w.cell? ⟨b5, 1, none⟩ = some (.slice Ab bs.length capb) ∧ w.cell? ⟨b6, 0, none⟩ = some (.int .i64 k) ∧ w.cell? ⟨b12, 0, none⟩ = some (payF r) ∧ w.cell? ⟨b8, 0, none⟩ = some (.slice At tr.length capt) :=
    ⟨hA.x.cell 0, hA.x.cell 1, hA.b.cell 0, hA.p.cell 0, hA.t.cell 0⟩
  have HWF := Lib.hid hlwf
  clear hA hl hwe hys hy hyk hyl hcc hpp hval hi hc hyw hlwf
  have e0 : (0 : Int) ≤ (k : Int) := by omega
  have e1 : (k : Int) < (bs.length : Int) := by omega
  go_enter Try.func144, Try.ntmps144
  go_wp2_with fail
  refine (with_ok n bs (k : Int) l _ _ _ R w HA.out.hx HL.out HWE.out).mono ?_
  rintro e w1 ⟨A1, c1, rfl, hob1, hb1⟩
  have HA1 := Lib.hid (HA.out.grow hb1)
  rw [Int.toNat_natCast, ← HY.out] at hob1
  have HY1 := Lib.hid hob1.buys
  have HB1 := Lib.hid hb1
  clear hob1 hb1 x0 x1 xb xp xt
  go_wp2_with fail
  have hbz1 := (HY1.out.alloc (.cells #[.int .i64 n, .slice A1 bs.length c1] 24)).any
  have hz1 := Blk.new w1 24 #[.int .i64 n, .slice A1 bs.length c1]
  have ha1 := HA1.out.grow ((Below.refl w1.heap.size w1).alloc (Nat.le_refl _) (.cells #[.int .i64 n, .slice A1 bs.length c1] 24))
  have hbb1 := HB1.out.alloc HB1.out.size (.cells #[.int .i64 n, .slice A1 bs.length c1] 24)
  obtain ⟨z1, hz⟩ : ∃ V, V = w1.alloc (.cells #[.int .i64 n, .slice A1 bs.length c1] 24) := ⟨_, rfl⟩
  rw [← hz] at hbz1 hz1 ha1 hbb1 ⊢
  have HBZ := Lib.hid hbz1
  have HZ1 := Lib.hid hz1
  have HAZ := Lib.hid ha1
  have HBB := Lib.hid hbb1
  clear hz hbz1 hz1 ha1 hbb1
  refine (costs_ok n y _ _ z1 HBZ.out HYI.out).mono ?_
  rintro e w2 ⟨A2, c2, A3, c3, rfl, ho2, ho3, hb2⟩
  rw [HYL.out] at ho2 ho3 ⊢
  obtain ⟨T, hT⟩ : ∃ T, T = W y (allOf n) := ⟨_, rfl⟩
  rw [← hT]
  have hal2 := hb2.alloc hb2.size (.cells #[.slice A2 bs.length c2, .int .i64 T, .slice A3 bs.length c3] 36)
  have hq2 := Blk.new w2 36 #[.slice A2 bs.length c2, .int .i64 T, .slice A3 bs.length c3]
  have hbest := Sl.of_own (own_alloc ho2 (.cells #[.slice A2 bs.length c2, .int .i64 T, .slice A3 bs.length c3] 36))
  have xp : (w2.alloc (.cells #[.slice A2 bs.length c2, .int .i64 T, .slice A3 bs.length c3] 36)).cell? ⟨b12, 0, none⟩ = some (payF r) := (HAZ.out.grow hal2).p.cell 0
  have xz0 : (w2.alloc (.cells #[.slice A2 bs.length c2, .int .i64 T, .slice A3 bs.length c3] 36)).cell? ⟨w1.heap.size, 0, none⟩ = some (.int .i64 n) := (HZ1.out.grow hal2).cell 0
  have xz1 : (w2.alloc (.cells #[.slice A2 bs.length c2, .int .i64 T, .slice A3 bs.length c3] 36)).cell? ⟨w1.heap.size, 1, none⟩ = some (.slice A1 bs.length c1) := (HZ1.out.grow hal2).cell 1
  clear hT
  have HAL2 := Lib.hid hal2
  have HQ2 := Lib.hid hq2
  have HBE := Lib.hid hbest
  clear ho2 ho3 hb2 hal2 hq2 hbest
  rcases hr with rfl | rfl
  · have hpf : payF 1 = .func (.func 165) #[] #[] := rfl
    have hpp1 : (paysC n y)[k]? = some p := by
      have h := HPP.out
      unfold payR at h
      rwa [if_pos rfl] at h
    obtain ⟨ps, hps⟩ : ∃ z, z = paysC n y := ⟨_, rfl⟩
    rw [← hps] at hpp1
    have HPS := Lib.hid hps
    have HPP1 := Lib.hid hpp1
    rw [hpf] at xp
    clear hpp1 hps hpf
    go_wp2_with fail
    obtain ⟨z2, hz2⟩ : ∃ V, V = w2.alloc (.cells #[.slice A2 bs.length c2, .int .i64 T, .slice A3 bs.length c3] 36) := ⟨_, rfl⟩
    have HZ2 := Lib.hid hz2
    rw [← hz2]
    have HBZ2 := Lib.hid (show Buys z2 (fun _ => True) (.slice A1 bs.length c1) y from by rw [HZ2.out]; exact HBZ.out.grow HAL2.out)
    refine (pays1_ok n y _ _ z2 HBZ2.out HYI.out).mono ?_
    rintro e w3 ⟨A4, c4, rfl, ho4, hb4⟩
    rw [← HPS.out, HYL.out] at ho4
    rw [HYL.out]
    have hq3 : Blk w3 w2.heap.size 36 #[.slice A2 bs.length c2, .int .i64 T, .slice A3 bs.length c3] := (show Blk z2 w2.heap.size 36 #[.slice A2 bs.length c2, .int .i64 T, .slice A3 bs.length c3] from by rw [HZ2.out]; exact HQ2.out).grow hb4
    have ha3 := (show AskC z2 lo b5 b6 b12 b8 n bs k 1 tr (.slice Ab bs.length capb) (.slice At tr.length capt) from by rw [HZ2.out]; exact HAZ.out.grow HAL2.out).grow hb4
    have hbe3 := (show Sl z2 _ (.slice A2 bs.length c2) bs.length 1 (ints (bestC n y)) from by rw [HZ2.out]; exact HBE.out).grow hb4
    have hbb3 : Below w.heap.size w w3 := (show Below w.heap.size w z2 from by rw [HZ2.out]; exact HBB.out.trans (HAL2.out.mono HBB.out.size)).trans (hb4.mono (by rw [HZ2.out]; exact (HBB.out.trans (HAL2.out.mono HBB.out.size)).size))
    have xq : w3.cell? ⟨w2.heap.size, 0, none⟩ = some (.slice A2 bs.length c2) := hq3.cell 0
    have xb : w3.cell? ⟨b6, 0, none⟩ = some (.int .i64 k) := ha3.b.cell 0
    have xt : w3.cell? ⟨b8, 0, none⟩ = some (.slice At tr.length capt) := ha3.t.cell 0
    have hxt := World.block_lt_of_cell? _ _ xt
    have hxb := World.block_lt_of_cell? _ _ xb
    obtain ⟨g2, of2, c', rfl, hg2, hc', xc⟩ := hbe3.int_at hk
    rw [HC.out] at hc'
    injection hc' with hc'
    subst hc'
    obtain ⟨g4, of4, p', rfl, hg4, hp', xp4⟩ := (Sl.of_own ho4).int_at hk
    rw [HPP1.out] at hp'
    injection hp' with hp'
    subst hp'
    have HA3 := Lib.hid ha3
    have HBB3 := Lib.hid hbb3
    clear ho4 hb4 hq3 ha3 hbe3 hbb3 xp xz0 xz1 hz2
    rcases hcg with rfl | ⟨j, o, rfl, hj⟩
    · have HAN2 := Lib.hid (show ans = 0 from by rw [HANS.out, if_pos (by decide)])
      go_wp2_with fail
      go_ret
      exact ⟨by rw [HAN2.out]; rfl, HBB3.out⟩
    · obtain ⟨gl, ofl, rfl, hgl, l0, l1⟩ := (HL.out.grow HBB3.out).at_ hj
      have hwo := HWF.out o (List.mem_of_getElem? hj)
      unfold Off.wf at hwo
      have hgv : (if (j : Int) < 0 then (0 : Int) else gainV tr ((l[((j : Nat) : Int).toNat]?.map (·.g)).getD 0) p) = gainV tr o.g p := by
        rw [if_neg (by omega), Int.toNat_natCast, hj]
        rfl
      have HAN2 := Lib.hid (show ans = gainV tr o.g p from by rw [HANS.out, hgv])
      have hjl : j < l.length := (List.getElem?_eq_some_iff.1 hj).1
      have f1 : (j : Int) < (l.length : Int) := by omega
      have f0 : (0 : Int) ≤ (j : Int) := by omega
      have f2 : ((j : Int) < 0) = False := by simp
      obtain ⟨og, oc⟩ := o
      simp only at l0 l1 hwo ⊢
      obtain ⟨gv, hgvv⟩ : ∃ z, z = gainV tr og p := ⟨_, rfl⟩
      have HGV := Lib.hid hgvv
      clear hgv hj hgvv
      go_wp2_with fail
      refine wp_region_F (Below w3.heap.size w3) [] (by kernel_rfl) ((Below.refl _ _).drew) (fun hS => ?_)
      refine wpAnyF_take (i := 0) (oi := { dst := some 39, op := Go.Op.load 41 (Go.Operand.tmp 4), type := 41, pos := "truth.go:114", after := #[], guard := none }) (v := ?_) rfl (by kernel_rfl) (by kernel_rfl) (by kernel_rfl) (by kernel_rfl) (fun _ _ _ h => h) (Or.inl ⟨by rfl, ?_⟩) hS ?_
      rotate_left
      · intro w' hSw; have q1 := (hSw.cell (p := ⟨b8, 0, none⟩) hxt).trans xt; have q2 := (hSw.cell (p := ⟨b6, 0, none⟩) hxb).trans xb; have q3 := (hSw.cell (p := ⟨gl, ofl + j * 2, none⟩) hgl).trans l0; have q4 := (hSw.cell (p := ⟨g4, of4 + k, none⟩) hg4).trans xp4; go_simp; try with_reducible rfl
      try simp only [Act.put, List.setIfInBounds_toArray, List.set_cons_zero, List.set_cons_succ]
      refine wpAnyF_take (i := 1) (oi := { dst := some 40, op := Go.Op.move (Go.Operand.tmp 0), type := 41, pos := "truth.go:114", after := #[], guard := none }) (v := ?_) rfl (by kernel_rfl) (by kernel_rfl) (by kernel_rfl) (by kernel_rfl) (fun _ _ _ h => h) (Or.inl ⟨by rfl, ?_⟩) hS ?_
      rotate_left
      · intro w' hSw; have q1 := (hSw.cell (p := ⟨b8, 0, none⟩) hxt).trans xt; have q2 := (hSw.cell (p := ⟨b6, 0, none⟩) hxb).trans xb; have q3 := (hSw.cell (p := ⟨gl, ofl + j * 2, none⟩) hgl).trans l0; have q4 := (hSw.cell (p := ⟨g4, of4 + k, none⟩) hg4).trans xp4; go_simp; try with_reducible rfl
      try simp only [Act.put, List.setIfInBounds_toArray, List.set_cons_zero, List.set_cons_succ]
      refine wpAnyF_take (i := 2) (oi := { dst := some 41, op := Go.Op.move (Go.Operand.tmp 13), type := 3, pos := "truth.go:114", after := #[], guard := none }) (v := ?_) rfl (by kernel_rfl) (by kernel_rfl) (by kernel_rfl) (by kernel_rfl) (fun _ _ _ h => h) (Or.inl ⟨by rfl, ?_⟩) hS ?_
      rotate_left
      · intro w' hSw; have q1 := (hSw.cell (p := ⟨b8, 0, none⟩) hxt).trans xt; have q2 := (hSw.cell (p := ⟨b6, 0, none⟩) hxb).trans xb; have q3 := (hSw.cell (p := ⟨gl, ofl + j * 2, none⟩) hgl).trans l0; have q4 := (hSw.cell (p := ⟨g4, of4 + k, none⟩) hg4).trans xp4; go_simp; try with_reducible rfl
      try simp only [Act.put, List.setIfInBounds_toArray, List.set_cons_zero, List.set_cons_succ]
      refine wpAnyF_take (i := 3) (oi := { dst := some 42, op := Go.Op.indexAddr 41 (Go.Operand.tmp 40) (Go.Operand.tmp 41), type := 0, pos := "truth.go:114", after := #[{ on := 1, ground := Go.Ground.data }, { on := 2, ground := Go.Ground.data }], guard := none }) (v := ?_) rfl (by kernel_rfl) (by kernel_rfl) (by kernel_rfl) (by kernel_rfl) (fun _ _ _ h => h) (Or.inl ⟨by rfl, ?_⟩) hS ?_
      rotate_left
      · intro w' hSw; have q1 := (hSw.cell (p := ⟨b8, 0, none⟩) hxt).trans xt; have q2 := (hSw.cell (p := ⟨b6, 0, none⟩) hxb).trans xb; have q3 := (hSw.cell (p := ⟨gl, ofl + j * 2, none⟩) hgl).trans l0; have q4 := (hSw.cell (p := ⟨g4, of4 + k, none⟩) hg4).trans xp4; go_simp; try with_reducible rfl
      try simp only [Act.put, List.setIfInBounds_toArray, List.set_cons_zero, List.set_cons_succ]
      refine wpAnyF_take (i := 4) (oi := { dst := some 43, op := Go.Op.fieldAddr 45 (Go.Operand.tmp 42) 0, type := 0, pos := "truth.go:114", after := #[{ on := 3, ground := Go.Ground.data }], guard := none }) (v := ?_) rfl (by kernel_rfl) (by kernel_rfl) (by kernel_rfl) (by kernel_rfl) (fun _ _ _ h => h) (Or.inl ⟨by rfl, ?_⟩) hS ?_
      rotate_left
      · intro w' hSw; have q1 := (hSw.cell (p := ⟨b8, 0, none⟩) hxt).trans xt; have q2 := (hSw.cell (p := ⟨b6, 0, none⟩) hxb).trans xb; have q3 := (hSw.cell (p := ⟨gl, ofl + j * 2, none⟩) hgl).trans l0; have q4 := (hSw.cell (p := ⟨g4, of4 + k, none⟩) hg4).trans xp4; go_simp; try with_reducible rfl
      try simp only [Act.put, List.setIfInBounds_toArray, List.set_cons_zero, List.set_cons_succ]
      refine wpAnyF_take (i := 5) (oi := { dst := some 44, op := Go.Op.load 43 (Go.Operand.tmp 43), type := 43, pos := "truth.go:114", after := #[{ on := 4, ground := Go.Ground.data }], guard := none }) (v := ?_) rfl (by kernel_rfl) (by kernel_rfl) (by kernel_rfl) (by kernel_rfl) (fun _ _ _ h => h) (Or.inl ⟨by rfl, ?_⟩) hS ?_
      rotate_left
      · intro w' hSw; have q1 := (hSw.cell (p := ⟨b8, 0, none⟩) hxt).trans xt; have q2 := (hSw.cell (p := ⟨b6, 0, none⟩) hxb).trans xb; have q3 := (hSw.cell (p := ⟨gl, ofl + j * 2, none⟩) hgl).trans l0; have q4 := (hSw.cell (p := ⟨g4, of4 + k, none⟩) hg4).trans xp4; go_simp; try with_reducible rfl
      try simp only [Act.put, List.setIfInBounds_toArray, List.set_cons_zero, List.set_cons_succ]
      refine wpAnyF_take (i := 6) (oi := { dst := some 45, op := Go.Op.move (Go.Operand.tmp 11), type := 34, pos := "truth.go:114", after := #[], guard := none }) (v := ?_) rfl (by kernel_rfl) (by kernel_rfl) (by kernel_rfl) (by kernel_rfl) (fun _ _ _ h => h) (Or.inl ⟨by rfl, ?_⟩) hS ?_
      rotate_left
      · intro w' hSw; have q1 := (hSw.cell (p := ⟨b8, 0, none⟩) hxt).trans xt; have q2 := (hSw.cell (p := ⟨b6, 0, none⟩) hxb).trans xb; have q3 := (hSw.cell (p := ⟨gl, ofl + j * 2, none⟩) hgl).trans l0; have q4 := (hSw.cell (p := ⟨g4, of4 + k, none⟩) hg4).trans xp4; go_simp; try with_reducible rfl
      try simp only [Act.put, List.setIfInBounds_toArray, List.set_cons_zero, List.set_cons_succ]
      refine wpAnyF_take (i := 7) (oi := { dst := some 46, op := Go.Op.load 3 (Go.Operand.tmp 2), type := 3, pos := "truth.go:114", after := #[], guard := none }) (v := ?_) rfl (by kernel_rfl) (by kernel_rfl) (by kernel_rfl) (by kernel_rfl) (fun _ _ _ h => h) (Or.inl ⟨by rfl, ?_⟩) hS ?_
      rotate_left
      · intro w' hSw; have q1 := (hSw.cell (p := ⟨b8, 0, none⟩) hxt).trans xt; have q2 := (hSw.cell (p := ⟨b6, 0, none⟩) hxb).trans xb; have q3 := (hSw.cell (p := ⟨gl, ofl + j * 2, none⟩) hgl).trans l0; have q4 := (hSw.cell (p := ⟨g4, of4 + k, none⟩) hg4).trans xp4; go_simp; try with_reducible rfl
      try simp only [Act.put, List.setIfInBounds_toArray, List.set_cons_zero, List.set_cons_succ]
      refine wpAnyF_take (i := 8) (oi := { dst := some 47, op := Go.Op.indexAddr 34 (Go.Operand.tmp 45) (Go.Operand.tmp 46), type := 0, pos := "truth.go:114", after := #[{ on := 6, ground := Go.Ground.data }, { on := 7, ground := Go.Ground.data }], guard := none }) (v := ?_) rfl (by kernel_rfl) (by kernel_rfl) (by kernel_rfl) (by kernel_rfl) (fun _ _ _ h => h) (Or.inl ⟨by rfl, ?_⟩) hS ?_
      rotate_left
      · intro w' hSw; have q1 := (hSw.cell (p := ⟨b8, 0, none⟩) hxt).trans xt; have q2 := (hSw.cell (p := ⟨b6, 0, none⟩) hxb).trans xb; have q3 := (hSw.cell (p := ⟨gl, ofl + j * 2, none⟩) hgl).trans l0; have q4 := (hSw.cell (p := ⟨g4, of4 + k, none⟩) hg4).trans xp4; go_simp; try with_reducible rfl
      try simp only [Act.put, List.setIfInBounds_toArray, List.set_cons_zero, List.set_cons_succ]
      refine wpAnyF_take (i := 9) (oi := { dst := some 48, op := Go.Op.load 2 (Go.Operand.tmp 47), type := 2, pos := "truth.go:114", after := #[{ on := 8, ground := Go.Ground.data }], guard := none }) (v := ?_) rfl (by kernel_rfl) (by kernel_rfl) (by kernel_rfl) (by kernel_rfl) (fun _ _ _ h => h) (Or.inl ⟨by rfl, ?_⟩) hS ?_
      rotate_left
      · intro w' hSw; have q1 := (hSw.cell (p := ⟨b8, 0, none⟩) hxt).trans xt; have q2 := (hSw.cell (p := ⟨b6, 0, none⟩) hxb).trans xb; have q3 := (hSw.cell (p := ⟨gl, ofl + j * 2, none⟩) hgl).trans l0; have q4 := (hSw.cell (p := ⟨g4, of4 + k, none⟩) hg4).trans xp4; go_simp; try with_reducible rfl
      try simp only [Act.put, List.setIfInBounds_toArray, List.set_cons_zero, List.set_cons_succ]
      refine wpAnyF_ready (rs := [10]) (by kernel_rfl) (by simp) ?_
      refine AllReadyF.cons (o := { dst := some 49, op := Go.Op.call { callee := Go.Callee.value (Go.Operand.func 63), args := #[Go.Operand.tmp 39, Go.Operand.tmp 44, Go.Operand.tmp 48], argTypes := #[41, 43, 2] }, type := 2, pos := "truth.go:114", after := #[{ on := 0, ground := Go.Ground.data }, { on := 5, ground := Go.Ground.data }, { on := 9, ground := Go.Ground.data }], guard := none }) rfl (by rfl) (fun K hK => ?_) ?_
      · go_simp
        refine (gain_any tr og hwo.1 p _ _ _ (HA3.out.ht.grow (Below.refl _ _).drew)).mono ?_
        rintro e w5 ⟨rfl, hb5⟩
        rw [← HGV.out]
        refine hK.out _ _ ?_ (fun hS => ?_)
        · exact (Below.refl w3.heap.size w3).drew.trans (hb5.mono (by simp))
        clear hK K
        try simp only [Act.put, List.setIfInBounds_toArray, List.set_cons_zero, List.set_cons_succ]
        have HB5 := Lib.hid hb5
        have hs5 := hb5.size
        clear hb5
        refine wpAnyF_take (i := 11) (oi := { dst := some 6, op := Go.Op.assign (Go.Operand.tmp 49), type := 2, pos := "truth.go:114", after := #[{ on := 10, ground := Go.Ground.data }, { on := 10, ground := Go.Ground.chain }, { on := 0, ground := Go.Ground.phase }, { on := 1, ground := Go.Ground.phase }, { on := 2, ground := Go.Ground.phase }, { on := 3, ground := Go.Ground.phase }, { on := 4, ground := Go.Ground.phase }, { on := 5, ground := Go.Ground.phase }, { on := 6, ground := Go.Ground.phase }, { on := 7, ground := Go.Ground.phase }, { on := 8, ground := Go.Ground.phase }, { on := 9, ground := Go.Ground.phase }, { on := 10, ground := Go.Ground.phase }], guard := none }) (v := ?_) rfl (by kernel_rfl) (by kernel_rfl) (by kernel_rfl) (by kernel_rfl) (fun _ _ _ h => h) (Or.inl ⟨by rfl, ?_⟩) hS ?_
        rotate_left
        · intro w' hSw; have q1 := (hSw.cell (p := ⟨b8, 0, none⟩) hxt).trans xt; have q2 := (hSw.cell (p := ⟨b6, 0, none⟩) hxb).trans xb; have q3 := (hSw.cell (p := ⟨gl, ofl + j * 2, none⟩) hgl).trans l0; have q4 := (hSw.cell (p := ⟨g4, of4 + k, none⟩) hg4).trans xp4; go_simp; try with_reducible rfl
        try simp only [Act.put, List.setIfInBounds_toArray, List.set_cons_zero, List.set_cons_succ]
        refine wpAnyF_done (by kernel_rfl) ?_ _
        go_wp2_with fail
        go_ret
        exact ⟨by rw [HAN2.out, ← HGV.out]; rfl, HBB3.out.drew.trans (HB5.out.mono (by have := HBB3.out.size; simp; omega))⟩
      exact AllReadyF.nil
  · have hpf : payF 2 = .func (.func 39) #[] #[] := rfl
    have hpp1 : (payTo n y y.length)[k]? = some p := by
      have h := HPP.out
      unfold payR at h
      rwa [if_neg (by decide)] at h
    obtain ⟨ps, hps⟩ : ∃ z, z = payTo n y y.length := ⟨_, rfl⟩
    rw [← hps] at hpp1
    have HPS := Lib.hid hps
    have HPP1 := Lib.hid hpp1
    rw [hpf] at xp
    clear hpp1 hps hpf
    go_wp2_with fail
    obtain ⟨z2, hz2⟩ : ∃ V, V = w2.alloc (.cells #[.slice A2 bs.length c2, .int .i64 T, .slice A3 bs.length c3] 36) := ⟨_, rfl⟩
    have HZ2 := Lib.hid hz2
    rw [← hz2]
    have HBZ2 := Lib.hid (show Buys z2 (fun _ => True) (.slice A1 bs.length c1) y from by rw [HZ2.out]; exact HBZ.out.grow HAL2.out)
    refine (corePay_ok n y _ _ z2 HBZ2.out HYI.out).mono ?_
    rintro e w3 ⟨A4, c4, rfl, ho4, hb4⟩
    rw [← HPS.out, HYL.out] at ho4
    rw [HYL.out]
    have hq3 : Blk w3 w2.heap.size 36 #[.slice A2 bs.length c2, .int .i64 T, .slice A3 bs.length c3] := (show Blk z2 w2.heap.size 36 #[.slice A2 bs.length c2, .int .i64 T, .slice A3 bs.length c3] from by rw [HZ2.out]; exact HQ2.out).grow hb4
    have ha3 := (show AskC z2 lo b5 b6 b12 b8 n bs k 2 tr (.slice Ab bs.length capb) (.slice At tr.length capt) from by rw [HZ2.out]; exact HAZ.out.grow HAL2.out).grow hb4
    have hbe3 := (show Sl z2 _ (.slice A2 bs.length c2) bs.length 1 (ints (bestC n y)) from by rw [HZ2.out]; exact HBE.out).grow hb4
    have hbb3 : Below w.heap.size w w3 := (show Below w.heap.size w z2 from by rw [HZ2.out]; exact HBB.out.trans (HAL2.out.mono HBB.out.size)).trans (hb4.mono (by rw [HZ2.out]; exact (HBB.out.trans (HAL2.out.mono HBB.out.size)).size))
    have xq : w3.cell? ⟨w2.heap.size, 0, none⟩ = some (.slice A2 bs.length c2) := hq3.cell 0
    have xb : w3.cell? ⟨b6, 0, none⟩ = some (.int .i64 k) := ha3.b.cell 0
    have xt : w3.cell? ⟨b8, 0, none⟩ = some (.slice At tr.length capt) := ha3.t.cell 0
    have hxt := World.block_lt_of_cell? _ _ xt
    have hxb := World.block_lt_of_cell? _ _ xb
    obtain ⟨g2, of2, c', rfl, hg2, hc', xc⟩ := hbe3.int_at hk
    rw [HC.out] at hc'
    injection hc' with hc'
    subst hc'
    obtain ⟨g4, of4, p', rfl, hg4, hp', xp4⟩ := (Sl.of_own ho4).int_at hk
    rw [HPP1.out] at hp'
    injection hp' with hp'
    subst hp'
    have HA3 := Lib.hid ha3
    have HBB3 := Lib.hid hbb3
    clear ho4 hb4 hq3 ha3 hbe3 hbb3 xp xz0 xz1 hz2
    rcases hcg with rfl | ⟨j, o, rfl, hj⟩
    · have HAN2 := Lib.hid (show ans = 0 from by rw [HANS.out, if_pos (by decide)])
      go_wp2_with fail
      go_ret
      exact ⟨by rw [HAN2.out]; rfl, HBB3.out⟩
    · obtain ⟨gl, ofl, rfl, hgl, l0, l1⟩ := (HL.out.grow HBB3.out).at_ hj
      have hwo := HWF.out o (List.mem_of_getElem? hj)
      unfold Off.wf at hwo
      have hgv : (if (j : Int) < 0 then (0 : Int) else gainV tr ((l[((j : Nat) : Int).toNat]?.map (·.g)).getD 0) p) = gainV tr o.g p := by
        rw [if_neg (by omega), Int.toNat_natCast, hj]
        rfl
      have HAN2 := Lib.hid (show ans = gainV tr o.g p from by rw [HANS.out, hgv])
      have hjl : j < l.length := (List.getElem?_eq_some_iff.1 hj).1
      have f1 : (j : Int) < (l.length : Int) := by omega
      have f0 : (0 : Int) ≤ (j : Int) := by omega
      have f2 : ((j : Int) < 0) = False := by simp
      obtain ⟨og, oc⟩ := o
      simp only at l0 l1 hwo ⊢
      obtain ⟨gv, hgvv⟩ : ∃ z, z = gainV tr og p := ⟨_, rfl⟩
      have HGV := Lib.hid hgvv
      clear hgv hj hgvv
      go_wp2_with fail
      refine wp_region_F (Below w3.heap.size w3) [] (by kernel_rfl) ((Below.refl _ _).drew) (fun hS => ?_)
      refine wpAnyF_take (i := 0) (oi := { dst := some 39, op := Go.Op.load 41 (Go.Operand.tmp 4), type := 41, pos := "truth.go:114", after := #[], guard := none }) (v := ?_) rfl (by kernel_rfl) (by kernel_rfl) (by kernel_rfl) (by kernel_rfl) (fun _ _ _ h => h) (Or.inl ⟨by rfl, ?_⟩) hS ?_
      rotate_left
      · intro w' hSw; have q1 := (hSw.cell (p := ⟨b8, 0, none⟩) hxt).trans xt; have q2 := (hSw.cell (p := ⟨b6, 0, none⟩) hxb).trans xb; have q3 := (hSw.cell (p := ⟨gl, ofl + j * 2, none⟩) hgl).trans l0; have q4 := (hSw.cell (p := ⟨g4, of4 + k, none⟩) hg4).trans xp4; go_simp; try with_reducible rfl
      try simp only [Act.put, List.setIfInBounds_toArray, List.set_cons_zero, List.set_cons_succ]
      refine wpAnyF_take (i := 1) (oi := { dst := some 40, op := Go.Op.move (Go.Operand.tmp 0), type := 41, pos := "truth.go:114", after := #[], guard := none }) (v := ?_) rfl (by kernel_rfl) (by kernel_rfl) (by kernel_rfl) (by kernel_rfl) (fun _ _ _ h => h) (Or.inl ⟨by rfl, ?_⟩) hS ?_
      rotate_left
      · intro w' hSw; have q1 := (hSw.cell (p := ⟨b8, 0, none⟩) hxt).trans xt; have q2 := (hSw.cell (p := ⟨b6, 0, none⟩) hxb).trans xb; have q3 := (hSw.cell (p := ⟨gl, ofl + j * 2, none⟩) hgl).trans l0; have q4 := (hSw.cell (p := ⟨g4, of4 + k, none⟩) hg4).trans xp4; go_simp; try with_reducible rfl
      try simp only [Act.put, List.setIfInBounds_toArray, List.set_cons_zero, List.set_cons_succ]
      refine wpAnyF_take (i := 2) (oi := { dst := some 41, op := Go.Op.move (Go.Operand.tmp 13), type := 3, pos := "truth.go:114", after := #[], guard := none }) (v := ?_) rfl (by kernel_rfl) (by kernel_rfl) (by kernel_rfl) (by kernel_rfl) (fun _ _ _ h => h) (Or.inl ⟨by rfl, ?_⟩) hS ?_
      rotate_left
      · intro w' hSw; have q1 := (hSw.cell (p := ⟨b8, 0, none⟩) hxt).trans xt; have q2 := (hSw.cell (p := ⟨b6, 0, none⟩) hxb).trans xb; have q3 := (hSw.cell (p := ⟨gl, ofl + j * 2, none⟩) hgl).trans l0; have q4 := (hSw.cell (p := ⟨g4, of4 + k, none⟩) hg4).trans xp4; go_simp; try with_reducible rfl
      try simp only [Act.put, List.setIfInBounds_toArray, List.set_cons_zero, List.set_cons_succ]
      refine wpAnyF_take (i := 3) (oi := { dst := some 42, op := Go.Op.indexAddr 41 (Go.Operand.tmp 40) (Go.Operand.tmp 41), type := 0, pos := "truth.go:114", after := #[{ on := 1, ground := Go.Ground.data }, { on := 2, ground := Go.Ground.data }], guard := none }) (v := ?_) rfl (by kernel_rfl) (by kernel_rfl) (by kernel_rfl) (by kernel_rfl) (fun _ _ _ h => h) (Or.inl ⟨by rfl, ?_⟩) hS ?_
      rotate_left
      · intro w' hSw; have q1 := (hSw.cell (p := ⟨b8, 0, none⟩) hxt).trans xt; have q2 := (hSw.cell (p := ⟨b6, 0, none⟩) hxb).trans xb; have q3 := (hSw.cell (p := ⟨gl, ofl + j * 2, none⟩) hgl).trans l0; have q4 := (hSw.cell (p := ⟨g4, of4 + k, none⟩) hg4).trans xp4; go_simp; try with_reducible rfl
      try simp only [Act.put, List.setIfInBounds_toArray, List.set_cons_zero, List.set_cons_succ]
      refine wpAnyF_take (i := 4) (oi := { dst := some 43, op := Go.Op.fieldAddr 45 (Go.Operand.tmp 42) 0, type := 0, pos := "truth.go:114", after := #[{ on := 3, ground := Go.Ground.data }], guard := none }) (v := ?_) rfl (by kernel_rfl) (by kernel_rfl) (by kernel_rfl) (by kernel_rfl) (fun _ _ _ h => h) (Or.inl ⟨by rfl, ?_⟩) hS ?_
      rotate_left
      · intro w' hSw; have q1 := (hSw.cell (p := ⟨b8, 0, none⟩) hxt).trans xt; have q2 := (hSw.cell (p := ⟨b6, 0, none⟩) hxb).trans xb; have q3 := (hSw.cell (p := ⟨gl, ofl + j * 2, none⟩) hgl).trans l0; have q4 := (hSw.cell (p := ⟨g4, of4 + k, none⟩) hg4).trans xp4; go_simp; try with_reducible rfl
      try simp only [Act.put, List.setIfInBounds_toArray, List.set_cons_zero, List.set_cons_succ]
      refine wpAnyF_take (i := 5) (oi := { dst := some 44, op := Go.Op.load 43 (Go.Operand.tmp 43), type := 43, pos := "truth.go:114", after := #[{ on := 4, ground := Go.Ground.data }], guard := none }) (v := ?_) rfl (by kernel_rfl) (by kernel_rfl) (by kernel_rfl) (by kernel_rfl) (fun _ _ _ h => h) (Or.inl ⟨by rfl, ?_⟩) hS ?_
      rotate_left
      · intro w' hSw; have q1 := (hSw.cell (p := ⟨b8, 0, none⟩) hxt).trans xt; have q2 := (hSw.cell (p := ⟨b6, 0, none⟩) hxb).trans xb; have q3 := (hSw.cell (p := ⟨gl, ofl + j * 2, none⟩) hgl).trans l0; have q4 := (hSw.cell (p := ⟨g4, of4 + k, none⟩) hg4).trans xp4; go_simp; try with_reducible rfl
      try simp only [Act.put, List.setIfInBounds_toArray, List.set_cons_zero, List.set_cons_succ]
      refine wpAnyF_take (i := 6) (oi := { dst := some 45, op := Go.Op.move (Go.Operand.tmp 11), type := 34, pos := "truth.go:114", after := #[], guard := none }) (v := ?_) rfl (by kernel_rfl) (by kernel_rfl) (by kernel_rfl) (by kernel_rfl) (fun _ _ _ h => h) (Or.inl ⟨by rfl, ?_⟩) hS ?_
      rotate_left
      · intro w' hSw; have q1 := (hSw.cell (p := ⟨b8, 0, none⟩) hxt).trans xt; have q2 := (hSw.cell (p := ⟨b6, 0, none⟩) hxb).trans xb; have q3 := (hSw.cell (p := ⟨gl, ofl + j * 2, none⟩) hgl).trans l0; have q4 := (hSw.cell (p := ⟨g4, of4 + k, none⟩) hg4).trans xp4; go_simp; try with_reducible rfl
      try simp only [Act.put, List.setIfInBounds_toArray, List.set_cons_zero, List.set_cons_succ]
      refine wpAnyF_take (i := 7) (oi := { dst := some 46, op := Go.Op.load 3 (Go.Operand.tmp 2), type := 3, pos := "truth.go:114", after := #[], guard := none }) (v := ?_) rfl (by kernel_rfl) (by kernel_rfl) (by kernel_rfl) (by kernel_rfl) (fun _ _ _ h => h) (Or.inl ⟨by rfl, ?_⟩) hS ?_
      rotate_left
      · intro w' hSw; have q1 := (hSw.cell (p := ⟨b8, 0, none⟩) hxt).trans xt; have q2 := (hSw.cell (p := ⟨b6, 0, none⟩) hxb).trans xb; have q3 := (hSw.cell (p := ⟨gl, ofl + j * 2, none⟩) hgl).trans l0; have q4 := (hSw.cell (p := ⟨g4, of4 + k, none⟩) hg4).trans xp4; go_simp; try with_reducible rfl
      try simp only [Act.put, List.setIfInBounds_toArray, List.set_cons_zero, List.set_cons_succ]
      refine wpAnyF_take (i := 8) (oi := { dst := some 47, op := Go.Op.indexAddr 34 (Go.Operand.tmp 45) (Go.Operand.tmp 46), type := 0, pos := "truth.go:114", after := #[{ on := 6, ground := Go.Ground.data }, { on := 7, ground := Go.Ground.data }], guard := none }) (v := ?_) rfl (by kernel_rfl) (by kernel_rfl) (by kernel_rfl) (by kernel_rfl) (fun _ _ _ h => h) (Or.inl ⟨by rfl, ?_⟩) hS ?_
      rotate_left
      · intro w' hSw; have q1 := (hSw.cell (p := ⟨b8, 0, none⟩) hxt).trans xt; have q2 := (hSw.cell (p := ⟨b6, 0, none⟩) hxb).trans xb; have q3 := (hSw.cell (p := ⟨gl, ofl + j * 2, none⟩) hgl).trans l0; have q4 := (hSw.cell (p := ⟨g4, of4 + k, none⟩) hg4).trans xp4; go_simp; try with_reducible rfl
      try simp only [Act.put, List.setIfInBounds_toArray, List.set_cons_zero, List.set_cons_succ]
      refine wpAnyF_take (i := 9) (oi := { dst := some 48, op := Go.Op.load 2 (Go.Operand.tmp 47), type := 2, pos := "truth.go:114", after := #[{ on := 8, ground := Go.Ground.data }], guard := none }) (v := ?_) rfl (by kernel_rfl) (by kernel_rfl) (by kernel_rfl) (by kernel_rfl) (fun _ _ _ h => h) (Or.inl ⟨by rfl, ?_⟩) hS ?_
      rotate_left
      · intro w' hSw; have q1 := (hSw.cell (p := ⟨b8, 0, none⟩) hxt).trans xt; have q2 := (hSw.cell (p := ⟨b6, 0, none⟩) hxb).trans xb; have q3 := (hSw.cell (p := ⟨gl, ofl + j * 2, none⟩) hgl).trans l0; have q4 := (hSw.cell (p := ⟨g4, of4 + k, none⟩) hg4).trans xp4; go_simp; try with_reducible rfl
      try simp only [Act.put, List.setIfInBounds_toArray, List.set_cons_zero, List.set_cons_succ]
      refine wpAnyF_ready (rs := [10]) (by kernel_rfl) (by simp) ?_
      refine AllReadyF.cons (o := { dst := some 49, op := Go.Op.call { callee := Go.Callee.value (Go.Operand.func 63), args := #[Go.Operand.tmp 39, Go.Operand.tmp 44, Go.Operand.tmp 48], argTypes := #[41, 43, 2] }, type := 2, pos := "truth.go:114", after := #[{ on := 0, ground := Go.Ground.data }, { on := 5, ground := Go.Ground.data }, { on := 9, ground := Go.Ground.data }], guard := none }) rfl (by rfl) (fun K hK => ?_) ?_
      · go_simp
        refine (gain_any tr og hwo.1 p _ _ _ (HA3.out.ht.grow (Below.refl _ _).drew)).mono ?_
        rintro e w5 ⟨rfl, hb5⟩
        rw [← HGV.out]
        refine hK.out _ _ ?_ (fun hS => ?_)
        · exact (Below.refl w3.heap.size w3).drew.trans (hb5.mono (by simp))
        clear hK K
        try simp only [Act.put, List.setIfInBounds_toArray, List.set_cons_zero, List.set_cons_succ]
        have HB5 := Lib.hid hb5
        have hs5 := hb5.size
        clear hb5
        refine wpAnyF_take (i := 11) (oi := { dst := some 6, op := Go.Op.assign (Go.Operand.tmp 49), type := 2, pos := "truth.go:114", after := #[{ on := 10, ground := Go.Ground.data }, { on := 10, ground := Go.Ground.chain }, { on := 0, ground := Go.Ground.phase }, { on := 1, ground := Go.Ground.phase }, { on := 2, ground := Go.Ground.phase }, { on := 3, ground := Go.Ground.phase }, { on := 4, ground := Go.Ground.phase }, { on := 5, ground := Go.Ground.phase }, { on := 6, ground := Go.Ground.phase }, { on := 7, ground := Go.Ground.phase }, { on := 8, ground := Go.Ground.phase }, { on := 9, ground := Go.Ground.phase }, { on := 10, ground := Go.Ground.phase }], guard := none }) (v := ?_) rfl (by kernel_rfl) (by kernel_rfl) (by kernel_rfl) (by kernel_rfl) (fun _ _ _ h => h) (Or.inl ⟨by rfl, ?_⟩) hS ?_
        rotate_left
        · intro w' hSw; have q1 := (hSw.cell (p := ⟨b8, 0, none⟩) hxt).trans xt; have q2 := (hSw.cell (p := ⟨b6, 0, none⟩) hxb).trans xb; have q3 := (hSw.cell (p := ⟨gl, ofl + j * 2, none⟩) hgl).trans l0; have q4 := (hSw.cell (p := ⟨g4, of4 + k, none⟩) hg4).trans xp4; go_simp; try with_reducible rfl
        try simp only [Act.put, List.setIfInBounds_toArray, List.set_cons_zero, List.set_cons_succ]
        refine wpAnyF_done (by kernel_rfl) ?_ _
        go_wp2_with fail
        go_ret
        exact ⟨by rw [HAN2.out, ← HGV.out]; rfl, HBB3.out.drew.trans (HB5.out.mono (by have := HBB3.out.size; simp; omega))⟩
      exact AllReadyF.nil
end Go.Proofs.Ytcigobiolbojhaa.Vb

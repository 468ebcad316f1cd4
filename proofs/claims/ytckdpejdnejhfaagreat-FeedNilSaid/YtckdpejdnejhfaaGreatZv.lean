/- Joined by program: HrY RangeX RangeB HtF. -/
import Derived.Test.YtckdpejdnejhfaaGreatZn
import Derived.Test.YtckdpejdnejhfaaGreatZq
import Derived.Test.YtckdpejdnejhfaaGreatZa
import Derived.Test.YtckdpejdnejhfaaGreatZp
import Derived.Test.YtckdpejdnejhfaaGreatZh
/- House: bid, by the contract of the lot's kind. (Printed by tools/gen_hry.py.) -/
set_option linter.all false
namespace Go.Proofs.YtckdpejdnejhfaaGreat.Ho
open Go.RowKit
open Go.Proofs.YtckdpejdnejhfaaGreat.Vb Go.Proofs.YtckdpejdnejhfaaGreat.Ac

end Go.Proofs.YtckdpejdnejhfaaGreat.Ho

/- A range over a function that lays memory ahead of the first yield, and reads old blocks X that the body must keep. -/
namespace Go.Proofs.YtckdpejdnejhfaaGreat.Ac
open Go.RowKit
open Go.Proofs.YtckdpejdnejhfaaGreat.Vb

/-- the blocks from lo to hi, and those of X, are as they were -/
structure KeepX (X : Nat → Prop) (lo hi : Nat) (W W' : World) : Prop where
  r : KeepR lo hi W W'
  old : ∀ b, X b → W'.heap[b]? = W.heap[b]?
theorem KeepX.refl (X : Nat → Prop) (lo hi : Nat) (W : World) : KeepX X lo hi W W := ⟨KeepR.refl _ _ _, fun _ _ => rfl⟩
theorem KeepX.trans {X : Nat → Prop} {lo hi : Nat} {A B C : World} (h : KeepX X lo hi A B) (k : KeepX X lo hi B C) : KeepX X lo hi A C := ⟨h.r.trans k.r, fun b hb => (k.old b hb).trans (h.old b hb)⟩
/-- an iterator that lays memory ahead of the first yield (below hi), which the body must keep; the body may turn what lay ahead of the iterator, and what it laid itself -/
def SeqStopsX {α : Type} (F : Fence) (n : Nat) (P : Program) (g : Nat) (lb : Array Value) (encs : α → Array Value) (X : Nat → Prop) (S Sp : List α → Prop) (N : Nat) (w : World) : Prop :=
  ∀ (l : Nat) (J Jx : Nat → List α → World → Prop) (W : World), Below w.heap.size w W → (∀ hi, AbidesFrom W.heap.size (J hi)) → (∀ hi, AbidesFrom W.heap.size (Jx hi)) →
    (∀ hi pre x W1, hi ≤ W1.heap.size → J hi pre W1 → Sp (pre ++ [x]) → pre.length < N → YieldAt F (n - 1) P l (encs x) W1 fun e W' =>
      (e = .returned (.bool true) ∧ J hi (pre ++ [x]) W' ∧ KeepX X W.heap.size hi W1 W') ∨ (e = .returned (.bool false) ∧ Jx hi (pre ++ [x]) W')) →
    (∀ W0, Below W.heap.size W W0 → J W0.heap.size [] W0) →
    CallsIn F n P g (#[.func (.yield l) #[] #[]] ++ lb) W fun e W' => (∃ v, e = .returned v) ∧ ∃ hi, W.heap.size ≤ hi ∧ ((∃ xs, S xs ∧ J hi xs W') ∨ (∃ pre, Sp pre ∧ Jx hi pre W'))

variable {F : Fence} {n : Nat} {P : Program}
theorem wpIn_rangeFunc_X {α : Type} {g : Operand} {ps : Array Tmp} {assign body : Code} {Q : Exit → Act → World → Prop} {a : Act} {w : World}
    (hro : F.round = none) (h1 : 1 ≤ n) {gf : Nat} {lb : Array Value} (hg : a.eval g = .func (.func gf) #[] lb) (hFg : F.fn gf) (eg : ∀ args w, (callFunc gf args).run P w = .ok (.enter gf args) w)
    {encs : α → Array Value} {X : Nat → Prop} {S Sp : List α → Prop} {N : Nat} {w0 : World} (hseq : SeqStopsX F (n - 1) P gf lb encs X S Sp N w0) (hX : ∀ b, X b → b < w0.heap.size)
    (hb0 : Below w0.heap.size w0 w) (hps : ∀ x, (encs x).size = ps.size)
    (I : Nat → List α → World → Prop) (Ix : Nat → Code → List α → World → Prop) (hI : ∀ hi, OwnFrom w.heap.size (I hi)) (hIx : ∀ hi c, OwnFrom w.heap.size (Ix hi c)) (h0 : ∀ W0, Below w.heap.size w W0 → I W0.heap.size [] W0) (a₁ : α → Act)
    (hassign : ∀ (l : Nat) (x : α) (W : World) (K : Act → World → Prop), K (a₁ x) W →
      assign.wpIn (F.inRound l) (n - 1 - 1) P (Exit.then K (fun _ _ _ => False)) { tmps := (ps.zip (encs x)).foldl (fun t (p, v) => t.setIfInBounds p v) a.tmps, defers := [] } W)
    (hbody : ∀ (hi l : Nat) (pre : List α) (x : α) (W : World), hi ≤ W.heap.size → I hi pre W → Sp (pre ++ [x]) → pre.length < N → body.wpIn (F.inRound l) (n - 1 - 1) P (ownPostK (KeepX X (w.heap.size + 2) hi) (I hi) (Ix hi) (pre ++ [x]) W) (a₁ x) W)
    (hdone : ∀ (hi D : Nat) (xs : List α) (W : World), w.heap.size ≤ D → S xs → I hi xs W → W.heap[D]? = some (.deferred (some [])) → Q .normal { a with defers := { target := .collected D, args := #[] } :: a.defers } W)
    (hstop : ∀ (hi D : Nat) (c : Code) (pre : List α) (W : World), w.heap.size ≤ D → Sp pre → Ix hi c pre W → W.heap[D]? = some (.deferred (some [])) → c.wpIn F n P Q { a with defers := { target := .collected D, args := #[] } :: a.defers } W) :
    (Code.rangeFunc g ps assign body).wpIn F n P Q a w := by
  refine wpIn_rangeFunc fun fn hfn => ?_
  rw [hro]
  obtain ⟨L, hL⟩ : ∃ L : LoopState → Option Code → Loop, L = fun st pe => { state := st, pending := pe, fn, tmps := a.tmps, params := ps, assign, body, defers := w.heap.size } := ⟨_, rfl⟩
  obtain ⟨U, hU⟩ : ∃ U, U = (w.alloc (.deferred (some []))).alloc (.loop (L .ready none)) := ⟨_, rfl⟩
  have hRU : RecAt U w.heap.size (L .ready none) := by
    subst hU
    constructor
    · have := World.alloc_heap_new (w.alloc (.deferred (some []))) (.loop (L .ready none))
      rwa [World.size_alloc] at this
    · exact (Below.heap_alloc _ _ _ (by simp)).trans (World.alloc_heap_new w _)
  have hsU : U.heap.size = w.heap.size + 2 := by rw [hU]; simp
  have hwU : Below w.heap.size w U := by subst hU; exact (((Below.refl _ w).alloc (Nat.le_refl _) _).alloc (by simp) _)
  have hBU : Below w0.heap.size w0 U := hb0.trans (hwU.mono hb0.size)
  have recB : ∀ W0, Below U.heap.size U W0 → RecAt W0 w.heap.size (L .ready none) := fun W0 h => ⟨(h.block _ (by omega)).trans hRU.1, (h.block _ (by omega)).trans hRU.2⟩
  refine ⟨w.heap.size + 1, [{ target := .collected w.heap.size, args := #[] }], U, { target := .fn (.func gf) lb, args := #[.func (.yield (w.heap.size + 1)) #[] #[]] }, U, gf, #[.func (.yield (w.heap.size + 1)) #[] #[]] ++ lb, U, ?_, ?_, ?_, ?_, fun _ => h1, ?_⟩
  · rw [hU, hL]
    exact run_enterLoop_outer _ _ _ _ _
  · simp only [resolve, hg]
    simp [go_sem]
  · intro f' hf'
    simp [Target.leads] at hf'
    subst hf'
    exact hFg
  · simp [invoke, go_sem, eg]
  · have toCells : ∀ {A : World} {row : Option Nat}, (∀ r, row = some r → U.heap.size ≤ r ∧ ∃ o : Obj, A.heap[r]? = some o ∧ o.isWalk = true) → ∀ r, row = some r → w.heap.size ≤ r ∧ ∃ o : Obj, A.heap[r]? = some o ∧ o.isCells = false := by
      intro A row hr r e
      obtain ⟨h1, o, h2, h3⟩ := hr r e
      exact ⟨by omega, o, h2, Obj.not_cells_of_walk h3⟩
    refine (hseq (w.heap.size + 1) (fun hi pre W => I hi pre W ∧ RecAt W w.heap.size (L .ready none)) (fun hi pre W => ∃ c, Ix hi c pre W ∧ RecAt W w.heap.size (L .done (some c))) U hBU ?_ ?_ ?_ (fun W0 hW0 => ⟨h0 W0 (hwU.trans (hW0.mono (by omega))), recB W0 hW0⟩)).mono ?_
    · exact fun hi s A B row hs hg' hr => ⟨hI hi s A B row hs.1 hg' (toCells hr), hs.2.abides hg' fun r e => (hr r e).2⟩
    · rintro hi s A B row ⟨c, hc, hrec⟩ hg' hr
      exact ⟨c, hIx hi c s A B row hc hg' (toCells hr), hrec.abides hg' fun r e => (hr r e).2⟩
    · rintro hi pre x W hhi ⟨hi0, hrec⟩ hsp hlen
      have hready : (L .ready none).state = .ready := by rw [hL]
      have hy := run_yield (P := P) (args := encs x) hrec.1 (by rw [hL]; exact hps x)
      rw [hL] at hy
      refine ⟨fn, _, assign, body, hy, roundIn_of_wpIn hfn (hassign _ x W _ ⟨_, run_beginRound hrec.1 hready, ?_⟩)⟩
      have hbusy : RecAt (W.putObj (w.heap.size + 1) (.loop { L .ready none with state := .busy })) w.heap.size { L .ready none with state := .busy } := hrec.put
      have kb : ∀ (V : World) (o : Obj), KeepX X U.heap.size hi V (V.putObj (w.heap.size + 1) o) := fun V o => ⟨⟨by simp, fun i h1 _ => World.putObj_heap_other (by omega)⟩, fun b hb => World.putObj_heap_other (by have := hX b hb; have := hb0.size; omega)⟩
      refine wpIn_mono (hbody hi _ pre x _ (by simpa using hhi) ((hI hi).putObj _ hi0 (by omega) hrec.1 rfl) hsp hlen) ?_
      have shut : ∀ (jump : Option Code) (W3 : World), KeepsOthers (W.putObj (w.heap.size + 1) (.loop { L .ready none with state := .busy })) W3 →
          (Instr.endRound (w.heap.size + 1) jump).run P W3 = .ok (.bool jump.isNone) (W3.putObj (w.heap.size + 1) (.loop (L (if jump.isNone then .ready else .done) jump))) ∧
          RecAt W3 w.heap.size { L .ready none with state := .busy } ∧ RecAt (W3.putObj (w.heap.size + 1) (.loop (L (if jump.isNone then .ready else .done) jump))) w.heap.size (L (if jump.isNone then .ready else .done) jump) := by
        intro jump W3 hk3
        have h3 := hbusy.others hk3
        have hr := run_endRound (P := P) jump h3.1
        rw [hL] at hr h3 ⊢
        exact ⟨hr, h3, h3.put⟩
      rintro e a3 W3 hp
      cases e with
      | normal =>
        obtain ⟨hk3, hkp3, hi3⟩ := hp
        obtain ⟨hr, hb3, hn3⟩ := shut none W3 hk3
        rw [← hsU] at hkp3
        exact ⟨_, _, hr, .inl ⟨rfl, ⟨(hI hi).putObj _ hi3 (by omega) hb3.1 rfl, hn3⟩, ((kb _ _).trans hkp3).trans (kb _ _)⟩⟩
      | ret =>
        obtain ⟨hr, hb3, hn3⟩ := shut (some .ret) W3 hp.1
        exact ⟨_, _, hr, .inr ⟨rfl, .ret, (hIx hi _).putObj _ hp.2 (by omega) hb3.1 rfl, hn3⟩⟩
      | exit id =>
        obtain ⟨hr, hb3, hn3⟩ := shut (some (.exit id)) W3 hp.1
        exact ⟨_, _, hr, .inr ⟨rfl, .exit id, (hIx hi _).putObj _ hp.2 (by omega) hb3.1 rfl, hn3⟩⟩
      | goto t =>
        obtain ⟨hr, hb3, hn3⟩ := shut (some (.goto t)) W3 hp.1
        exact ⟨_, _, hr, .inr ⟨rfl, .goto t, (hIx hi _).putObj _ hp.2 (by omega) hb3.1 rfl, hn3⟩⟩
      | panic ch => exact hp.elim
      | outgrown => exact hp.elim
    · have over : ∀ {st : LoopState} {pe : Option Code} {W2 : World}, st ≠ .busy → RecAt W2 w.heap.size (L st pe) → ∃ o, (Instr.endLoop (w.heap.size + 1)).run P W2 = .ok pe (W2.putObj (w.heap.size + 1) o) := by
        intro st pe W2 hst h2
        have hr := run_endLoop (P := P) h2.1 (by rw [hL]; exact hst)
        rw [hL] at hr
        exact ⟨_, hr⟩
      rintro e W2 ⟨⟨v, rfl⟩, hi, _, (⟨xs, hS, hi0, hrec⟩ | ⟨pre, hSp, c, hi0, hrec⟩)⟩
      · obtain ⟨o, hr⟩ := over (by simp) hrec
        exact ⟨none, _, hr, hdone hi _ xs _ (Nat.le_refl _) hS ((hI hi).putObj _ hi0 (by omega) hrec.1 rfl) ((World.putObj_heap_other (by omega)).trans hrec.2)⟩
      · obtain ⟨o, hr⟩ := over (by simp) hrec
        exact ⟨some c, _, hr, hstop hi _ c pre _ (Nat.le_refl _) hSp ((hIx hi c).putObj _ hi0 (by omega) hrec.1 rfl) ((World.putObj_heap_other (by omega)).trans hrec.2)⟩
end Go.Proofs.YtckdpejdnejhfaaGreat.Ac

/- A range over a function that may be left by a break: what is behind it, once. -/
namespace Go.Proofs.YtckdpejdnejhfaaGreat.Ac
open Go.RowKit
open Go.Proofs.YtckdpejdnejhfaaGreat.Vb

variable {F : Fence} {n : Nat} {P : Program}
end Go.Proofs.YtckdpejdnejhfaaGreat.Ac

/- House: Sales, SalesFrom, Taken. -/
namespace Go.Proofs.YtckdpejdnejhfaaGreat.Ho
open Go.RowKit Go.Shelf
open Go.Proofs.YtckdpejdnejhfaaGreat.Vb Go.Proofs.YtckdpejdnejhfaaGreat.Ac
attribute [local go_sem] Oper.semAt_some

theorem RowAt.same {W W' : World} {R : Nat → Prop} {e : TypeId} {sz n : Nat} {v : Value} {xs : List Value} (h : RowAt W R e sz v n xs) (hs : ∀ b, v.ownBlock = some b → W'.heap[b]? = W.heap[b]?) : RowAt W' R e sz v n xs := by
  refine ⟨⟨h.own.1, ?_⟩, h.blk⟩
  rcases h.own.2 with h2 | ⟨g, cap, cur, hv, hb, hg, r⟩
  · exact .inl h2
  · exact .inr ⟨g, cap, cur, hv, hb, (hs g (by rw [hv]; rfl)).trans hg, r⟩
theorem saleCells_one (ss : List SaleR) : ∀ u ∈ ss.flatMap SaleR.cells, u.oneCell' = true := by
  intro u hu
  obtain ⟨s, _, hs⟩ := List.mem_flatMap.1 hu
  unfold SaleR.cells at hs
  simp at hs
  rcases hs with rfl | rfl | rfl | rfl | rfl | rfl | rfl <;> rfl
set_option maxHeartbeats 400000 in
theorem clone_sales (ss : List SaleR) (v : Value) (R : Nat → Prop) (w : World) (hl : Sl w R v ss.length 7 (ss.flatMap SaleR.cells)) (hb : ss.length ≤ 1000000) :
    Calls Tryz.prog 67 #[v] w fun e w' => ∃ A' cap', e = .returned (.slice A' ss.length cap') ∧ RowAt w' (fun b => w.heap.size ≤ b) 151 7 (.slice A' ss.length cap') ss.length (ss.flatMap SaleR.cells) ∧ Below w.heap.size w w' := by
  have h1 := saleCells_one ss
  obtain ⟨xs, hxs⟩ : ∃ xs, xs = ss.flatMap SaleR.cells := ⟨_, rfl⟩
  obtain ⟨n, hn⟩ : ∃ n, n = ss.length := ⟨_, rfl⟩
  rw [← hxs] at hl h1 ⊢
  rw [← hn] at hl hb ⊢
  obtain ⟨hlen, A, cap, rfl, hncap, hcap, hcells⟩ := id hl
  have HS := Lib.hid hl
  clear hl hcells hxs hn
  have hq := fun (W : World) (a : Option Addr) => Lib.run_eql_slice_nil (P := Tryz.prog) W 79 151 a n cap 0 0 Tryz.underlying79
  cases A with
  | none =>
    have hn : n = 0 := by
      obtain ⟨_, A, c, h, _, _, hc⟩ := HS.out
      injection h with hA _ _
      subst hA
      rcases Nat.eq_zero_or_pos n with h0 | h0
      · exact h0
      · obtain ⟨b, off, h, _⟩ := hc h0
        cases h
    subst hn
    have hx : xs = [] := List.eq_nil_of_length_eq_zero (by simpa using hlen)
    subst hx
    go_enter Tryz.func67, Tryz.ntmps67
    go_wp2
    go_ret
    exact ⟨none, 0, rfl, RowAt.nil, Below.refl _ _⟩
  | some ad =>
    clear hlen
    go_enter Tryz.func67, Tryz.ntmps67
    go_wp2_with (at_builtin; refine wpList_app _ rfl (.tmp 5) (.tmp 6) et_sales rfl w.heap.size (.slice (some ⟨w.heap.size, 0, none⟩) 0 0) 0 [] rfl (World.ownsRow_lit w #[] 0 (Nat.le_refl _) (Nat.zero_le _) rfl) R _ n xs rfl (HS.out.alloc _) h1 (by omega) (by unfold maxLen; omega) (by simp) ?_; intro A' cap' w1 hown hg hloc)
    go_ret
    have hown2 : w1.ownsRow w.heap.size 151 7 (.slice A' n cap') n xs := by simpa using hown
    refine ⟨A', cap', by simp, ⟨own_mono hown2 (Nat.zero_le _), fun b hb => (hown2.lt b hb).1⟩, ((Below.refl _ _).alloc (Nat.le_refl _) _).grown hg (by simp) (by simp [Value.ownBlock])⟩
theorem hsales_any {W : World} {T : Nat → Part} {h K : Nat} {H : House} (hH : HouseIn W T h K H) (hl : H.sales.length ≤ 1000000) :
    Calls Tryz.prog 68 #[.pointer (some ⟨h, 0, none⟩)] W fun e W' => ∃ A c, e = .returned (.slice A H.sales.length c) ∧ RowAt W' (fun b => W.heap.size ≤ b) 151 7 (.slice A H.sales.length c) H.sales.length (H.sales.flatMap SaleR.cells) ∧ Below W.heap.size W W' := by
  obtain ⟨pn, pc, va, vl, vb, vs, hA⟩ := id hH
  have c5 := hA.cells.2.2.2.2.2.1
  have HCL := Lib.hid (clone_sales H.sales vs _ W hA.sales.sl hl)
  have HH := Lib.hid hH
  obtain ⟨A, c, hv⟩ := hA.sales.form
  subst hv
  clear hH hA
  go_enter Tryz.func68, Tryz.ntmps68
  go_wp2_with fail
  refine (hnone_any HH.out).mono ?_
  rintro e W2 ⟨rfl, rfl⟩
  go_wp2_with fail
  refine HCL.out.mono ?_
  rintro e W3 ⟨A', c', rfl, hr, hb⟩
  have HR := Lib.hid hr
  clear hr
  go_wp2_with fail
  go_ret
  exact ⟨A', c', rfl, HR.out, hb⟩
/-- the sales from the nth on, each with its number -/
def salesL (n : Nat) (ss : List SaleR) : List (Int × SaleR) := (ss.mapIdx fun i s => ((i : Int), s)).drop n
theorem salesL_len (n : Nat) (ss : List SaleR) : (salesL n ss).length = ss.length - n := by simp [salesL]
theorem salesL_at {n j : Nat} {ss : List SaleR} {s : SaleR} (h : ss[n + j]? = some s) : (salesL n ss)[j]? = some (((n + j : Nat) : Int), s) := by
  unfold salesL
  rw [List.getElem?_drop, List.getElem?_mapIdx, h]
  rfl
/-- SalesFrom's iterator -/
def salesV (g gl : Nat) : Value := .func (.func 102) #[] #[.pointer (some ⟨g, 0, none⟩), .pointer (some ⟨gl, 0, none⟩)]
def SalesX (g gl : Nat) (v : Value) : Nat → Prop := fun b => b = g ∨ b = gl ∨ v.ownBlock = some b
structure SFAt (W : World) (lo g gl n : Nat) (v : Value) (ss : List SaleR) : Prop where
  num : Ac.Blk W g 3 #[.int .i64 n]
  box : Ac.Blk W gl 79 #[v]
  row : RowAt W (fun b => lo ≤ b) 151 7 v ss.length (ss.flatMap SaleR.cells)
section
variable {W W' : World} {lo g gl n : Nat} {v : Value} {ss : List SaleR}
theorem SFAt.same (h : SFAt W lo g gl n v ss) (hs : ∀ b, SalesX g gl v b → W'.heap[b]? = W.heap[b]?) : SFAt W' lo g gl n v ss :=
  ⟨(hs g (.inl rfl)).trans h.num, (hs gl (.inr (.inl rfl))).trans h.box, h.row.same fun b hb => hs b (.inr (.inr hb))⟩
theorem SFAt.x_lt (h : SFAt W lo g gl n v ss) {b : Nat} (hb : SalesX g gl v b) : b < W.heap.size := by
  rcases hb with rfl | rfl | hb
  · exact h.num.lt
  · exact h.box.lt
  · exact h.row.lt hb
theorem SFAt.grow (h : SFAt W lo g gl n v ss) (hb : Below W.heap.size W W') : SFAt W' lo g gl n v ss := h.same fun b hx => hb.block b (h.x_lt hx)
end
theorem salesFrom_any {W : World} {T : Nat → Part} {h K : Nat} {H : House} (hH : HouseIn W T h K H) (hl : H.sales.length ≤ 1000000) {x : Int} (hx : x ≤ 9223372036854775807) :
    Calls Tryz.prog 71 #[.pointer (some ⟨h, 0, none⟩), .int .i64 x] W fun e W' => ∃ g gl v, e = .returned (salesV g gl) ∧ SFAt W' W.heap.size g gl (max x 0).toNat v H.sales ∧ W.heap.size ≤ g ∧ W.heap.size ≤ gl ∧ Below W.heap.size W W' := by
  obtain ⟨n, hn⟩ : ∃ n : Nat, max x 0 = n := ⟨(max x 0).toNat, by omega⟩
  rw [hn, Int.toNat_natCast]
  have hb1 : Below W.heap.size W (W.alloc (.cells #[.int .i64 n] 3)) := (Below.refl _ _).alloc (Nat.le_refl _) _
  obtain ⟨W1, hW1⟩ : ∃ W1, W1 = W.alloc (.cells #[.int .i64 n] 3) := ⟨_, rfl⟩
  rw [← hW1] at hb1
  have HS := Lib.hid (hsales_any (hH.grow hb1) hl)
  have HB1 := Lib.hid hb1
  have HX1 := Lib.hid (show Ac.Blk W1 W.heap.size 3 #[.int .i64 n] by rw [hW1]; exact Blk.new _ _ _)
  clear hH hb1
  go_enter Tryz.func71, Tryz.ntmps71
  go_wp2_with fail
  rw [← hW1]
  clear hW1
  refine HS.out.mono ?_
  rintro e W2 ⟨A, c, rfl, hr, hb2⟩
  have HR := Lib.hid hr
  have HX2 := Lib.hid (HX1.out.grow hb2)
  have HB2 := Lib.hid (HB1.out.trans (hb2.mono HB1.out.size))
  have hsz := HB1.out.size
  clear hr hb2
  go_wp2_with fail
  go_ret
  refine ⟨_, _, .slice A H.sales.length c, rfl, ⟨HX2.out.alloc _, Blk.new _ _ _, (HR.out.grow ((Below.refl _ _).alloc (Nat.le_refl _) _)).mono fun b _ hb => by omega⟩, Nat.le_refl _, HB2.out.size, HB2.out.alloc HB2.out.size _⟩
abbrev SaleR.agg (s : SaleR) : Value := .agg #[.int .i64 s.number, .int .i64 s.lot, .int .i64 s.bidder, .int .i64 s.coins, .int .u32 s.goods, .int .i64 s.count, .int .i64 s.tick]
set_option maxRecDepth 100000 in
set_option maxHeartbeats 2000000 in
theorem sf1_in (nn : Nat) (hn : 1 ≤ nn) (l lo g gl n : Nat) (v : Value) (ss : List SaleR) (hl : ss.length ≤ 1000000) (J Jx : Nat → List (Int × SaleR) → World → Prop) (W : World) (hv : SFAt W lo g gl n v ss)
    (hY : ∀ hi pre x W1, hi ≤ W1.heap.size → J hi pre W1 → pre ++ [x] <+: salesL n ss → pre.length < (salesL n ss).length → YieldAt Fence.wide (nn - 1) Tryz.prog l #[.int .i64 x.1, x.2.agg] W1 fun e W' =>
      (e = .returned (.bool true) ∧ J hi (pre ++ [x]) W' ∧ KeepX (SalesX g gl v) W.heap.size hi W1 W') ∨ (e = .returned (.bool false) ∧ Jx hi (pre ++ [x]) W'))
    (h0 : ∀ W0, Below W.heap.size W W0 → J W0.heap.size [] W0) :
    CallsIn Fence.wide nn Tryz.prog 102 #[.func (.yield l) #[] #[], .pointer (some ⟨g, 0, none⟩), .pointer (some ⟨gl, 0, none⟩)] W fun e W' => (∃ v, e = .returned v) ∧
      ∃ hi, W.heap.size ≤ hi ∧ ((∃ xs, xs = salesL n ss ∧ J hi xs W') ∨ (∃ pre, pre <+: salesL n ss ∧ Jx hi pre W')) := by
  refine callsIn_of_wp Tryz.func102 rfl trivial ?_ rfl
  have g0 : W.cell? ⟨g, 0, none⟩ = some (.int .i64 n) := hv.num.cell 0
  obtain ⟨A, cp, hvv⟩ := hv.row.form
  obtain ⟨m, hm⟩ : ∃ m, m = ss.length := ⟨_, rfl⟩
  have HV := Lib.hid hv
  have HY := Lib.hid hY
  have H0 := Lib.hid h0
  have HM := Lib.hid hm
  have HVV := Lib.hid hvv
  have HLL := Lib.hid (salesL_len n ss)
  clear hY h0 hv hm hvv
  simp only [Tryz.ntmps102, List.size_toArray, List.length_cons, List.length_nil, Nat.reduceAdd, Nat.reduceSub, Array.replicate_succ, Array.replicate_zero, List.push_toArray, List.append_toArray, List.nil_append, List.cons_append]
  gi_wp2
  clear g0
  gi_loopw [4] (fun i wr => ∃ k j : Nat, k = n + j ∧ j ≤ (salesL n ss).length ∧ i = .int .i64 k ∧ J W.heap.size ((salesL n ss).take j) wr ∧ KeepX (SalesX g gl v) W.heap.size W.heap.size W wr) (fun i _ => n + m - (intOf i).toNat)
  case atStart => exact ⟨n, 0, rfl, Nat.zero_le _, rfl, H0.out W (Below.refl _ _), KeepX.refl _ _ _ _⟩
  case round =>
    obtain ⟨k, j, hk, hj, rfl, hJs, hnx⟩ := hrel
    have hvr := HV.out.same (W' := wr) hnx.old
    have HJ := Lib.hid hJs
    have HNX := Lib.hid hnx
    have hsz := hnx.r.size
    have l0 : wr.cell? ⟨gl, 0, none⟩ = some (.slice A m cp) := by have := hvr.box.cell 0; rw [HVV.out, ← HM.out] at this; exact this
    clear hJs hnx
    have HK := Lib.hid hk
    have HJL := Lib.hid hj
    by_cases hlt : k < m
    · obtain ⟨s, hs⟩ : ∃ s, ss[n + j]? = some s := ⟨_, List.getElem?_eq_getElem (by rw [← HM.out]; omega)⟩
      have hjl : j < (salesL n ss).length := by rw [HLL.out, ← HM.out]; omega
      have hp := salesL_at hs
      have hro := hvr.row
      rw [HVV.out, ← HM.out] at hro
      obtain ⟨b, off, rfl, _, hbl, hcs⟩ := sl_sale (A := A) (n := m) (c := cp) hro.sl hs (by omega)
      have c0 : wr.cell? ⟨b, off + k * 7, none⟩ = some (.int .i64 s.number) := by rw [hk]; exact hcs 0 _ rfl
      have c1 : wr.cell? ⟨b, off + k * 7 + 1, none⟩ = some (.int .i64 s.lot) := by rw [hk]; exact hcs 1 _ rfl
      have c2 : wr.cell? ⟨b, off + k * 7 + 2, none⟩ = some (.int .i64 s.bidder) := by rw [hk]; exact hcs 2 _ rfl
      have c3 : wr.cell? ⟨b, off + k * 7 + 3, none⟩ = some (.int .i64 s.coins) := by rw [hk]; exact hcs 3 _ rfl
      have c4 : wr.cell? ⟨b, off + k * 7 + 4, none⟩ = some (.int .u32 s.goods) := by rw [hk]; exact hcs 4 _ rfl
      have c5 : wr.cell? ⟨b, off + k * 7 + 5, none⟩ = some (.int .i64 s.count) := by rw [hk]; exact hcs 5 _ rfl
      have c6 : wr.cell? ⟨b, off + k * 7 + 6, none⟩ = some (.int .i64 s.tick) := by rw [hk]; exact hcs 6 _ rfl
      have hsu : (salesL n ss).take (j + 1) = (salesL n ss).take j ++ [((k : Int), s)] := by rw [List.take_add_one, hp, hk]; rfl
      have hlj : ((salesL n ss).take j).length < (salesL n ss).length := by rw [List.length_take]; omega
      have HSU := Lib.hid hsu
      obtain ⟨fn, tmps, assign, body, hy, hRR⟩ := HY.out W.heap.size _ ((k : Int), s) wr hsz HJ.out (by rw [← hsu]; exact List.take_prefix _ _) hlj
      obtain ⟨sn, sl, sb, sc, sg, sct, st⟩ := s
      dsimp only [SaleR.agg] at hy c0 c1 c2 c3 c4 c5 c6
      have HRR := Lib.hid hRR
      have e0 : (0 : Int) ≤ (k : Int) := by omega
      have e1 : (k : Int) < (m : Int) := by omega
      have hwr : IntKind.i64.wrap ((k : Int) + 1) = (k : Int) + 1 := IntWalk.i64_in _ (by have := HM.out; omega)
      have HMB := Lib.hid (show j < (salesL n ss).length from hjl)
      clear hs hp hsu hlj hRR hro hvr hcs hk hj hjl
      gi_wp2
      refine HRR.out.mono ?_
      rintro e W3 (⟨rfl, hJ3, hk3⟩ | ⟨rfl, hJx3⟩)
      · gi_wp2
        go_roundw
        case rel => exact ⟨k + 1, j + 1, by have := HK.out; omega, HMB.out, by go_num, by rw [HSU.out]; exact hJ3, HNX.out.trans hk3⟩
        case measure => simp [intOf]; omega
      · gi_wp2
        refine bodyPost_ret (results_none rfl _ _ _) rfl ?_
        exact ⟨⟨_, rfl⟩, W.heap.size, Nat.le_refl _, .inr ⟨_, by rw [← HSU.out]; exact List.take_prefix _ _, hJx3⟩⟩
    · have hjj : j = (salesL n ss).length := by have := HLL.out; have := HM.out; omega
      clear hvr hk hj
      have e1 : ¬ (k : Int) < (m : Int) := by omega
      have HJJ := Lib.hid hjj
      clear hjj
      gi_wp2
      go_end0
      have := HJ.out
      rw [HJJ.out, List.take_of_length_le (Nat.le_refl _)] at this
      exact ⟨⟨_, rfl⟩, W.heap.size, Nat.le_refl _, .inl this⟩
end Go.Proofs.YtckdpejdnejhfaaGreat.Ho

/- Account: append in a fence; rows in a range over an iterator. -/
import Derived.Test.YtibhmgeckghoeaaAccY
namespace Go.Proofs.Ytibhmgeckghoeaa.Ac
open Go.RowKit Go.Shelf Go.Maps
open Go.Proofs.Ytibhmgeckghoeaa.Vb
attribute [local go_sem] Oper.semAt_some

theorem wpListIn_app {F : Fence} {nf : Nat} {P : Program} (w : World) {ops : Array Oper} {rest : List Oper} {o : Oper} {a : Act} {Q : Exit → Act → World → Prop} (hgd : o.guard = none) (s x : Operand) {t e : TypeId} {sz bytes : Nat} (E : ElemT P t e sz bytes)
    (ho : o.op = .call { callee := .builtin .append, args := #[s, x], argTypes := #[t, t] })
    (base : Nat) (v : Value) (n : Nat) (xs : List Value) (hs : a.eval s = v) (hown : w.ownsRow base e sz v n xs)
    (R : Nat → Prop) (v2 : Value) (m : Nat) (news : List Value) (hx : a.eval x = v2) (hr : Sl w R v2 m sz news) (h1 : ∀ u ∈ news, u.oneCell' = true)
    (hbytes : (n + m) * bytes ≤ 140737488355328) (h63 : n + m ≤ maxLen) (hbase : base ≤ w.heap.size)
    (h : ∀ A' cap' w', w'.ownsRow base e sz (.slice A' (n + m) cap') (n + m) (xs ++ news) → w.grownBy w' v.ownBlock → ((Value.slice A' (n + m) cap').ownBlock = v.ownBlock ∨ (Value.slice A' (n + m) cap').ownBlock = some w.heap.size) → wpListIn F nf P ops Q rest (a.put o.dst (.slice A' (n + m) cap')) w') : wpListIn F nf P ops Q (o :: rest) a w := by
  refine wpListIn_plain hgd fun K hK' => ?_
  obtain ⟨A', cap', w', hrun, h2, h3, h4⟩ := run_append_sl (P := P) w base t o.type e sz bytes E v n xs hown R v2 m news hr h1 hbytes h63 hbase
  unfold Oper.wpIn
  refine ⟨?_, ?_⟩
  · simp [Oper.about, ho, resolve, Target.leads, Sem.run_pure]
  · rw [Oper.semAt_plain F _ _ (by rw [ho]; intro c hc'; cases hc')]
    simp [execOp, ho, resolve, invoke, builtin, hs, hx, hrun, Result.andThen]
    exact hK' _ _ (h A' cap' w' h2 h3 h4)
theorem own_far' {w w' : World} {base : Nat} {e : TypeId} {sz n : Nat} {v : Value} {xs : List Value} {row : Option Nat} (h : w.ownsRow base e sz v n xs) (hg : w.grownBy w' row) (hr : ∀ g, v.ownBlock = some g → row ≠ some g) : w'.ownsRow base e sz v n xs :=
  h.kept hg (by
    cases hv : v.ownBlock with
    | none => simp
    | some g => simpa using fun e => hr g hv e.symm)
/-- a row of cells abides what turns no cells -/
theorem own_cells {W W' : World} {row : Option Nat} {b : Nat} {e : TypeId} {sz n : Nat} {v : Value} {xs : List Value} (h : W.ownsRow b e sz v n xs) (hg : W.grownBy W' row) (hr : ∀ r, row = some r → ∃ o : Obj, W.heap[r]? = some o ∧ o.isCells = false) : W'.ownsRow b e sz v n xs := by
  refine own_far' h hg fun r he e => ?_
  obtain ⟨o, ho, hc⟩ := hr r e
  obtain ⟨_, h | ⟨g, cap, cur, hv, hgb, hcur, _⟩⟩ := h
  · rw [h.1] at he; cases he
  · rw [hv] at he
    injection he with he
    simp only at he
    subst he
    rw [ho] at hcur
    cases hcur
    cases hc
theorem own_isCells {w : World} {b : Nat} {e : TypeId} {sz n : Nat} {v : Value} {xs : List Value} (h : w.ownsRow b e sz v n xs) : ∀ (j : Nat) (o : Obj), v.ownBlock = some j → w.heap[j]? = some o → o.isCells = true := by
  intro j o hj ho
  obtain ⟨_, h | ⟨g, cap, cur, hv, _, hcur, _⟩⟩ := h
  · rw [h.1] at hj; simp [Value.ownBlock] at hj
  · rw [hv] at hj
    simp [Value.ownBlock] at hj
    subst hj
    rw [ho] at hcur
    cases hcur
    rfl
theorem ownFrom_chg {β : Type} {X : Nat → Prop} {U : World} : OwnFrom U.heap.size (fun (_ : β) W => Chg X U W) :=
  fun _ _ _ _ h hg hr => h.step (Chg.grown hg) fun k hk e => absurd hk (by have := (hr k e.symm).1; omega)
theorem et_held : ElemT Try.prog 22 29 2 16 := elemT_of Try.underlying22 (by omega) (z := .agg #[.int .i64 0, .int .i64 0]) (by kernel_rfl) rfl
theorem eql_func_nil (fn : Fn) (fi ca : Array Value) (W : World) : (binOp .eql 62 (.func fn fi ca) .nilFunc).run Try.prog W = .ok (.bool false) W := by kernel_rfl
theorem mem_le_sum : ∀ {M : HM} {p : Int × Int}, (∀ p ∈ M, 0 ≤ p.2) → p ∈ M → p.2 ≤ sumM M
  | [], _, _, h => by cases h
  | x :: r, p, h, hp => by
    have h1 := sumM_nonneg (l := r) fun p hp => h p (by simp [hp])
    have h2 := h x (by simp)
    rw [sumM_cons]
    rcases List.mem_cons.1 hp with rfl | hp
    · omega
    · have := mem_le_sum (fun p hp => h p (by simp [hp])) hp
      omega
theorem ofE_live {a : Acc} (ho : a.Ok) (hf : a.Fine) : ofE a.bud a.sp a.M = 0 := by
  unfold Acc.Fine at hf
  refine ofE_ok ho.bud ho.sp (okL_of ho.rise fun p hp => ?_) (by omega)
  have h1 := ho.each p hp
  have h2 := mem_le_sum (fun p hp => by have := ho.each p hp; omega) hp
  have h3 := ho.sum
  exact ⟨by omega, by omega, by omega, by omega⟩
theorem held_b {a : Acc} (ho : a.Ok) : ∀ p ∈ a.M, int64b p.1 ∧ int64b p.2 := fun p hp => by
  have h1 := ho.each p hp
  have h2 := mem_le_sum (fun p hp => by have := ho.each p hp; omega) hp
  have h3 := ho.sum
  exact ⟨⟨by omega, by omega⟩, by omega, by omega⟩
theorem prefix_at {α : Type} {pre L : List α} {y : α} (h : pre ++ [y] <+: L) : L[pre.length]? = some y := by
  obtain ⟨r, rfl⟩ := h
  simp
end Go.Proofs.Ytibhmgeckghoeaa.Ac

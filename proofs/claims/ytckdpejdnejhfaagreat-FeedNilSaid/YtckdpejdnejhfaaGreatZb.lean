/- Joined by program: Regd HoB HoM HpA HoT HoU. -/
import Derived.Test.YtckdpejdnejhfaaGreatZa
import Derived.ChangeMaps5
import Derived.Maps.Own
import Derived.Laws.EntriesVeiled
import Derived.Handy
/- A region that draws its order: what is taken first where the last operations wait for it through others. -/
set_option linter.all false
namespace Go.Proofs.YtckdpejdnejhfaaGreat.Vb
open Go

section
variable {P : Program} {ops : Array Oper} {Q : Exit → Act → World → Prop} {md : Region.Mode} {S : World → Prop} {fins : List Nat}

/-- each of D waits for i, or for another one of D -/
def behindB (md : Region.Mode) (ops : Array Oper) (D : List Nat) (i : Nat) : Bool :=
  D.all fun j => ((ops[j]?).map fun o => o.after.any fun e => Region.binds md e && (decide (e.on = i) || D.contains e.on)).getD false
theorem behindB_spec {D : List Nat} {i j : Nat} {o : Oper} (h : behindB md ops D i = true) (hj : D.contains j = true) (ho : ops[j]? = some o) : ∃ e ∈ o.after, Region.binds md e = true ∧ (e.on = i ∨ D.contains e.on = true) := by
  unfold behindB at h
  have := List.all_eq_true.1 h j (by simpa using hj)
  rw [ho] at this
  obtain ⟨k, hk, h1, h2⟩ : ∃ k, ∃ h : k < o.after.size, Region.binds md o.after[k] = true ∧ (o.after[k].on = i ∨ o.after[k].on ∈ D) := by simpa using this
  exact ⟨_, Array.getElem_mem hk, h1, by simpa using h2⟩

theorem wpAnyF_firstD {i : Nat} {oi : Oper} {v : Value} (D : List Nat) (hi : ops[i]? = some oi) (hsel : ∀ (j : Nat) (o : Oper) cs b, ops[j]? = some o → o.op ≠ .select cs b)
    (hbe : behindB md ops D i = true) (hQ : ∀ c a w, Q (.panic c) (a.put oi.dst v) w → Q (.panic c) a w) :
    ∀ (fuel : Nat) (listed : Array Bool) (a : Act) (w : World),
      (∀ j, D.contains j = true → listed.getD j true = false) →
      (∀ j, fins.contains j = true → D.contains j = true ∨ listed.getD j false = true) →
      (∀ j oj, ops[j]? = some oj → j ≠ i → listed.getD j true = false → (∀ e ∈ oj.after, Region.binds md e = true → e.on ≠ i) → oi.apart ops oj = true) →
      i ∈ Region.ready md ops listed → YieldsIf P ops S oi v a → S w →
      wpAnyF P md ops Q S fins fuel (listed.setIfInBounds i true) (a.put oi.dst v) w → wpAnyF P md ops Q S fins (fuel + 1) listed a w := by
  intro fuel
  induction fuel with
  | zero =>
    intro listed a w _ _ _ hr hy hS H
    refine ⟨fun h => (by rw [h] at hr; cases hr), fun j hj => ?_⟩
    by_cases hji : j = i
    · subst hji; exact hy.wpOp hi hS ⟨fun _ => hS, H⟩
    · have := ready_mono hj hji
      rw [H.1] at this
      cases this
  | succ fuel ih =>
    intro listed a w hD hfd hfree hr hy hS H
    refine ⟨fun h => (by rw [h] at hr; cases hr), fun j hj => ?_⟩
    by_cases hji : j = i
    · subst hji; exact hy.wpOp hi hS ⟨fun _ => hS, H⟩
    · have h1 := H.2 j (ready_mono hj hji)
      obtain ⟨hjun, oj, hoj, hall⟩ := mem_ready.1 hj
      have hun : ∀ k, listed.getD k true = false → listed.getD k false = true → False := fun k h0 h1 => by
        rcases Nat.lt_or_ge k listed.size with h' | h'
        · simp [h'] at h0 h1; rw [h0] at h1; cases h1
        · simp [Array.getElem?_eq_none h'] at h1
      have hnot : ∀ e ∈ oj.after, Region.binds md e = true → e.on ≠ i := fun e he hb heq => hun i (mem_ready.1 hr).1 (heq ▸ hall e he hb)
      have hnD : D.contains j = false := by
        cases hc : D.contains j with
        | false => rfl
        | true =>
          obtain ⟨e, he, hb, heq | heq⟩ := behindB_spec hbe hc hoj
          · exact absurd heq (hnot e he hb)
          · exact (hun e.on (hD _ heq) (hall e he hb)).elim
      have hnf : fins.contains j = false := by
        cases hc : fins.contains j with
        | false => rfl
        | true =>
          rcases hfd j hc with h | h
          · rw [h] at hnD; cases hnD
          · exact (hun j hjun h).elim
      have h2 := wpOp_putIf hoj (hfree j oj hoj hji hjun hnot) (fun cs b => hsel i oi cs b hi) (fun cs b => hsel j oj cs b hoj) hQ hy h1
      have hfree' : ∀ k ok, ops[k]? = some ok → k ≠ i → (listed.setIfInBounds j true).getD k true = false →
          (∀ e ∈ ok.after, Region.binds md e = true → e.on ≠ i) → oi.apart ops ok = true := fun k ok hk hki hun hno => by
        refine hfree k ok hk hki ?_ hno
        by_cases hjk : j = k
        · subst hjk; exact hjun
        · rw [getD_set_ne true hjk] at hun; exact hun
      have hD' : ∀ k, D.contains k = true → (listed.setIfInBounds j true).getD k true = false := fun k hk => by
        have hjk : j ≠ k := by rintro rfl; rw [hk] at hnD; cases hnD
        rw [getD_set_ne true hjk]
        exact hD k hk
      have hfd' : ∀ k, fins.contains k = true → D.contains k = true ∨ (listed.setIfInBounds j true).getD k false = true := fun k hk => by
        rcases hfd k hk with h | h
        · exact .inl h
        · by_cases hjk : j = k
          · subst hjk; exact (hun j hjun h).elim
          · right
            rw [getD_set_ne false hjk]
            exact h
      refine wpOp_mono (fun a' w' h3 => ⟨h3.2.1, ih (listed.setIfInBounds j true) a' w' hD' hfd' hfree' (ready_mono hr (Ne.symm hji)) h3.1 (h3.2.1 hnf) ?_⟩) h2
      rw [Array.setIfInBounds_comm _ _ hji]
      exact h3.2.2

def lateB (md : Region.Mode) (ops : Array Oper) (fins D : List Nat) (i : Nat) (listed : Array Bool) : Bool := behindB md ops D i && fins.all (fun j => D.contains j || listed.getD j false) && D.all fun j => !(listed.getD j true)
theorem wpAnyF_takeD {i : Nat} {oi : Oper} {v : Value} {fuel : Nat} {listed : Array Bool} {a : Act} {w : World} (D : List Nat) (hi : ops[i]? = some oi)
    (hs : Region.noSelect ops = true) (hf : Region.free md ops listed i = true) (hr : (Region.ready md ops listed).contains i = true) (hfin : lateB md ops fins D i listed = true)
    (hQ : ∀ c a w, Q (.panic c) (a.put oi.dst v) w → Q (.panic c) a w) (hy : YieldsIf P ops S oi v a) (hS : S w)
    (h : wpAnyF P md ops Q S fins fuel (listed.setIfInBounds i true) (a.put oi.dst v) w) : wpAnyF P md ops Q S fins (fuel + 1) listed a w := by
  unfold lateB at hfin
  obtain ⟨⟨h1, h2⟩, h3⟩ : (_ ∧ _) ∧ _ := by simpa only [Bool.and_eq_true] using hfin
  refine wpAnyF_firstD D hi (Region.noSelect_spec hs) h1 hQ fuel listed a w (fun j hj => ?_) (fun j hj => ?_) (Region.free_spec hi hf) (by simpa using hr) hy hS h
  · have := List.all_eq_true.1 h3 j (by simpa using hj)
    simpa using this
  · have := List.all_eq_true.1 h2 j (by simpa using hj)
    simpa only [Bool.or_eq_true] using this

theorem tpD (D : List Nat) (i : Nat) {oi : Oper} {os : List Oper} {v : Value} {fuel : Nat} {listed : Array Bool} {a b : Act} {w : World} (hS : S w) (h : wpAnyF P md ops Q S fins fuel (listed.setIfInBounds i true) b w) (hi : ops.toList.drop i = oi :: os := by rfl)
    (hs : Region.noSelect ops = true := by kernel_rfl) (hf : Region.free md ops listed i = true := by kernel_rfl) (hr : (Region.ready md ops listed).contains i = true := by kernel_rfl) (hfin : lateB md ops fins D i listed = true := by kernel_rfl)
    (hQ : ∀ c a w, Q (.panic c) (a.put oi.dst v) w → Q (.panic c) a w := by exact fun _ _ _ h => h) (hw : Region.wanted oi (yielded ops a.tmps) = true := by rfl)
    (hy : ∀ w, S w → (execOp a.eval oi).run P w = .ok (.value v) w := by intro _ _; go_simp; try with_reducible rfl)
    (hb : a.put oi.dst v = b := by first | (simp only [Act.put, pb, pz, ps]; done) | (simp only [Act.put, pb, pz, ps]; rfl) | rfl) : wpAnyF P md ops Q S fins (fuel + 1) listed a w :=
  wpAnyF_takeD D (drop_at hi) hs hf hr hfin hQ (.inl ⟨hw, hy⟩) hS (hb ▸ h)
theorem txD (D : List Nat) (i : Nat) {oi : Oper} {os : List Oper} {v : Value} {fuel : Nat} {listed : Array Bool} {a b : Act} {w : World} (hS : S w) (hy : ∀ w, S w → (execOp a.eval oi).run P w = .ok (.value v) w) (h : wpAnyF P md ops Q S fins fuel (listed.setIfInBounds i true) b w) (hi : ops.toList.drop i = oi :: os := by rfl)
    (hs : Region.noSelect ops = true := by kernel_rfl) (hf : Region.free md ops listed i = true := by kernel_rfl) (hr : (Region.ready md ops listed).contains i = true := by kernel_rfl) (hfin : lateB md ops fins D i listed = true := by kernel_rfl)
    (hQ : ∀ c a w, Q (.panic c) (a.put oi.dst v) w → Q (.panic c) a w := by exact fun _ _ _ h => h) (hw : Region.wanted oi (yielded ops a.tmps) = true := by rfl)
    (hb : a.put oi.dst v = b := by first | (simp only [Act.put, pb, pz, ps]; done) | (simp only [Act.put, pb, pz, ps]; rfl) | rfl) : wpAnyF P md ops Q S fins (fuel + 1) listed a w :=
  wpAnyF_takeD D (drop_at hi) hs hf hr hfin hQ (.inl ⟨hw, hy⟩) hS (hb ▸ h)
theorem tlD {A : World → Prop} (D : List Nat) (i : Nat) {oi : Oper} {os : List Oper} {v : Value} {fuel : Nat} {listed : Array Bool} {a b : Act} {w : World} (hS : S w) (hA : RowKit.Hid (∀ w, S w → A w)) (h : wpAnyF P md ops Q S fins fuel (listed.setIfInBounds i true) b w) (hi : ops.toList.drop i = oi :: os := by rfl)
    (hs : Region.noSelect ops = true := by kernel_rfl) (hf : Region.free md ops listed i = true := by kernel_rfl) (hr : (Region.ready md ops listed).contains i = true := by kernel_rfl) (hfin : lateB md ops fins D i listed = true := by kernel_rfl)
    (hQ : ∀ c a w, Q (.panic c) (a.put oi.dst v) w → Q (.panic c) a w := by exact fun _ _ _ h => h) (hw : Region.wanted oi (yielded ops a.tmps) = true := by rfl)
    (hy : ∀ w, A w → (execOp a.eval oi).run P w = .ok (.value v) w := by intro _ _; go_simp; try with_reducible rfl)
    (hb : a.put oi.dst v = b := by first | (simp only [Act.put, pb, pz, ps]; done) | (simp only [Act.put, pb, pz, ps]; rfl) | rfl) : wpAnyF P md ops Q S fins (fuel + 1) listed a w :=
  wpAnyF_takeD D (drop_at hi) hs hf hr hfin hQ (.inl ⟨hw, fun w hS => hy w (hA.out w hS)⟩) hS (hb ▸ h)

/-- an operation that yields the same at every world, itself among the last -/
theorem wpAnyF_firstW {i : Nat} {oi : Oper} {v : Value} (hi : ops[i]? = some oi) (hsel : ∀ (j : Nat) (o : Oper) cs b, ops[j]? = some o → o.op ≠ .select cs b)
    (hif : fins.contains i = true) (hQ : ∀ c a w, Q (.panic c) (a.put oi.dst v) w → Q (.panic c) a w) :
    ∀ (fuel : Nat) (listed : Array Bool) (a : Act) (w : World),
      (∀ j oj, ops[j]? = some oj → j ≠ i → listed.getD j true = false → (∀ e ∈ oj.after, Region.binds md e = true → e.on ≠ i) → oi.apart ops oj = true) →
      i ∈ Region.ready md ops listed → YieldsIf P ops (fun _ => True) oi v a →
      wpAnyF P md ops Q S fins fuel (listed.setIfInBounds i true) (a.put oi.dst v) w → wpAnyF P md ops Q S fins (fuel + 1) listed a w := by
  intro fuel
  induction fuel with
  | zero =>
    intro listed a w _ hr hy H
    refine ⟨fun h => (by rw [h] at hr; cases hr), fun j hj => ?_⟩
    by_cases hji : j = i
    · subst hji; exact hy.wpOp hi trivial ⟨fun h => (by rw [hif] at h; cases h), H⟩
    · have := ready_mono hj hji
      rw [H.1] at this
      cases this
  | succ fuel ih =>
    intro listed a w hfree hr hy H
    refine ⟨fun h => (by rw [h] at hr; cases hr), fun j hj => ?_⟩
    by_cases hji : j = i
    · subst hji; exact hy.wpOp hi trivial ⟨fun h => (by rw [hif] at h; cases h), H⟩
    · have h1 := H.2 j (ready_mono hj hji)
      obtain ⟨hjun, oj, hoj, hall⟩ := mem_ready.1 hj
      have hun : ∀ k, listed.getD k true = false → listed.getD k false = true → False := fun k h0 h1 => by
        rcases Nat.lt_or_ge k listed.size with h' | h'
        · simp [h'] at h0 h1; rw [h0] at h1; cases h1
        · simp [Array.getElem?_eq_none h'] at h1
      have hnot : ∀ e ∈ oj.after, Region.binds md e = true → e.on ≠ i := fun e he hb heq => hun i (mem_ready.1 hr).1 (heq ▸ hall e he hb)
      have h2 := wpOp_putIf hoj (hfree j oj hoj hji hjun hnot) (fun cs b => hsel i oi cs b hi) (fun cs b => hsel j oj cs b hoj) hQ hy h1
      have hfree' : ∀ k ok, ops[k]? = some ok → k ≠ i → (listed.setIfInBounds j true).getD k true = false →
          (∀ e ∈ ok.after, Region.binds md e = true → e.on ≠ i) → oi.apart ops ok = true := fun k ok hk hki hun hno => by
        refine hfree k ok hk hki ?_ hno
        by_cases hjk : j = k
        · subst hjk; exact hjun
        · rw [getD_set_ne true hjk] at hun; exact hun
      refine wpOp_mono (fun a' w' h3 => ⟨h3.2.1, ih (listed.setIfInBounds j true) a' w' hfree' (ready_mono hr (Ne.symm hji)) h3.1 ?_⟩) h2
      rw [Array.setIfInBounds_comm _ _ hji]
      exact h3.2.2
theorem wpAnyF_takeW {i : Nat} {oi : Oper} {v : Value} {fuel : Nat} {listed : Array Bool} {a : Act} {w : World} (hi : ops[i]? = some oi)
    (hs : Region.noSelect ops = true) (hf : Region.free md ops listed i = true) (hr : (Region.ready md ops listed).contains i = true) (hif : fins.contains i = true)
    (hQ : ∀ c a w, Q (.panic c) (a.put oi.dst v) w → Q (.panic c) a w) (hy : YieldsIf P ops (fun _ => True) oi v a)
    (h : wpAnyF P md ops Q S fins fuel (listed.setIfInBounds i true) (a.put oi.dst v) w) : wpAnyF P md ops Q S fins (fuel + 1) listed a w :=
  wpAnyF_firstW hi (Region.noSelect_spec hs) hif hQ fuel listed a w (Region.free_spec hi hf) (by simpa using hr) hy h
theorem tpW (i : Nat) {oi : Oper} {os : List Oper} {v : Value} {fuel : Nat} {listed : Array Bool} {a b : Act} {w : World} (h : wpAnyF P md ops Q S fins fuel (listed.setIfInBounds i true) b w) (hi : ops.toList.drop i = oi :: os := by rfl)
    (hs : Region.noSelect ops = true := by kernel_rfl) (hf : Region.free md ops listed i = true := by kernel_rfl) (hr : (Region.ready md ops listed).contains i = true := by kernel_rfl) (hfin : fins.contains i = true := by kernel_rfl)
    (hQ : ∀ c a w, Q (.panic c) (a.put oi.dst v) w → Q (.panic c) a w := by exact fun _ _ _ h => h) (hw : Region.wanted oi (yielded ops a.tmps) = true := by rfl)
    (hy : ∀ w, True → (execOp a.eval oi).run P w = .ok (.value v) w := by intro _ _; go_simp; try with_reducible rfl)
    (hb : a.put oi.dst v = b := by first | (simp only [Act.put, pb, pz, ps]; done) | (simp only [Act.put, pb, pz, ps]; rfl) | rfl) : wpAnyF P md ops Q S fins (fuel + 1) listed a w :=
  wpAnyF_takeW (drop_at hi) hs hf hr hfin hQ (.inl ⟨hw, hy⟩) (hb ▸ h)
end
end Go.Proofs.YtckdpejdnejhfaaGreat.Vb

/- House: appends to rows of the house's own. -/
namespace Go.Proofs.YtckdpejdnejhfaaGreat.Ho
open Go.RowKit
open Go.Proofs.YtckdpejdnejhfaaGreat.Vb Go.Proofs.YtckdpejdnejhfaaGreat.Ac

theorem Sl.lit1 {w : World} {g sz : Nat} {t : TypeId} {cs : Array Value} (h : Blk w g t cs) (h3 : cs.size = sz) : Sl w (fun _ => True) (.slice (some ⟨g, 0, none⟩) 1 1) 1 sz cs.toList :=
  ⟨by simpa using h3, some ⟨g, 0, none⟩, 1, rfl, Nat.le_refl _, by unfold maxLen; omega, fun _ => ⟨g, 0, rfl, trivial, h.lt, fun j u hj => by
    rw [show 0 + j = j from by omega]
    exact (h.cell j).trans (by simpa using hj)⟩⟩
section
variable {P : Program} (w : World) {o : Oper} {a : Act} {Q : Exit → Act → World → Prop} (s x : Operand) {t e : TypeId} {sz bytes : Nat}
theorem step_row {ops : Array Oper} {K : Act → World → Prop} {E0 : Prop} (hgd : o.guard = none) (E : ElemT P t e sz bytes)
    (ho : o.op = .call { callee := .builtin .append, args := #[s, x], argTypes := #[t, t] })
    {R R2 : Nat → Prop} (v : Value) (n : Nat) (xs : List Value) (hs : a.eval s = v) (hrow : RowAt w R e sz v n xs)
    (v2 : Value) (m : Nat) (news : List Value) (hx : a.eval x = v2) (hr : Sl w R2 v2 m sz news) (h1 : ∀ u ∈ news, u.oneCell' = true)
    (hbytes : (n + m) * bytes ≤ 140737488355328) (h63 : n + m ≤ maxLen)
    (h : ∀ A' cap' w', RowAt w' (fun b => R b ∨ b = w.heap.size) e sz (.slice A' (n + m) cap') (n + m) (xs ++ news) → Chg (fun b => v.ownBlock = some b) w w' → K (a.put o.dst (.slice A' (n + m) cap')) w') :
    if Region.wanted o (yielded ops a.tmps) = true then Oper.wp P o a w K Q else E0 := by
  have hw : Region.wanted o (yielded ops a.tmps) = true := by simp [Region.wanted, hgd]
  rw [if_pos hw]
  exact wp_app w s x E ho 0 v n xs hs hrow.own R2 v2 m news hx hr h1 hbytes h63 (Nat.zero_le _) fun A' cap' w' h2 h3 h4 => h A' cap' w' (hrow.app h2 h4) ((Chg.grown h3).mono fun b _ e => e.symm)
theorem wpList_row {ops : Array Oper} {rest : List Oper} (hgd : o.guard = none) (E : ElemT P t e sz bytes)
    (ho : o.op = .call { callee := .builtin .append, args := #[s, x], argTypes := #[t, t] })
    {R R2 : Nat → Prop} (v : Value) (n : Nat) (xs : List Value) (hs : a.eval s = v) (hrow : RowAt w R e sz v n xs)
    (v2 : Value) (m : Nat) (news : List Value) (hx : a.eval x = v2) (hr : Sl w R2 v2 m sz news) (h1 : ∀ u ∈ news, u.oneCell' = true)
    (hbytes : (n + m) * bytes ≤ 140737488355328) (h63 : n + m ≤ maxLen)
    (h : ∀ A' cap' w', RowAt w' (fun b => R b ∨ b = w.heap.size) e sz (.slice A' (n + m) cap') (n + m) (xs ++ news) → Chg (fun b => v.ownBlock = some b) w w' → wpList P ops Q rest (a.put o.dst (.slice A' (n + m) cap')) w') : wpList P ops Q (o :: rest) a w :=
  wpList_app w hgd s x E ho 0 v n xs hs hrow.own R2 v2 m news hx hr h1 hbytes h63 (Nat.zero_le _) fun A' cap' w' h2 h3 h4 => h A' cap' w' (hrow.app h2 h4) ((Chg.grown h3).mono fun b _ e => e.symm)
end
end Go.Proofs.YtckdpejdnejhfaaGreat.Ho

/- House: maps to whole numbers, in memory. -/
namespace Go.Proofs.YtckdpejdnejhfaaGreat.Ho
open Go.RowKit
open Go.ChangeMaps (setBlock)
open Go.MapKept (IsKey)
open Go.Proofs.YtckdpejdnejhfaaGreat.Vb Go.Proofs.YtckdpejdnejhfaaGreat.Ac

/-- the map m holds F; keys are spelt by enc -/
def MapK {κ : Type} (d : TypeDesc) (enc : κ → Value) (W : World) (m : Nat) (F : κ → Option Int) : Prop :=
  ∃ es clock, W.heap[m]? = some (.map es clock) ∧ (∀ x ∈ es.toList, ∃ k i, x.key = enc k ∧ x.val = .int .i64 i ∧ F k = some i) ∧ (es.toList.map (·.key)).Nodup ∧ ∀ k i, F k = some i → ∃ x ∈ es.toList, x.key = enc k
section
variable {κ : Type} {P : Program} {d : TypeDesc} {enc : κ → Value} {W W' : World} {m : Nat} {F : κ → Option Int} {mty kt et : TypeId} {X : Nat → Prop}
theorem MapK.lt (h : MapK d enc W m F) : m < W.heap.size := by
  obtain ⟨es, clock, hb, _⟩ := h
  exact (Array.getElem?_eq_some_iff.1 hb).1
theorem MapK.same (h : MapK d enc W m F) (hb : W'.heap[m]? = W.heap[m]?) : MapK d enc W' m F := by
  obtain ⟨es, clock, h1, h2⟩ := h
  exact ⟨es, clock, hb.trans h1, h2⟩
theorem MapK.chg (h : MapK d enc W m F) (hc : Chg X W W') (hm : ¬ X m) : MapK d enc W' m F := h.same (hc.block m h.lt hm)
theorem MapK.grow (h : MapK d enc W m F) (hb : Below W.heap.size W W') : MapK d enc W' m F := h.same (hb.block m h.lt)
theorem MapK.not_cells (h : MapK d enc W m F) {g : Nat} {t : TypeId} {cs : Array Value} (hb : Blk W g t cs) : g ≠ m := by
  obtain ⟨es, clock, h1, _⟩ := h
  rintro rfl
  rw [show W.heap[g]? = _ from hb] at h1
  cases h1
theorem MapK.not_row (h : MapK d enc W m F) {R : Nat → Prop} {e : TypeId} {sz n : Nat} {v : Value} {xs : List Value} (hr : RowAt W R e sz v n xs) {b : Nat} (hb : v.ownBlock = some b) : b ≠ m := by
  obtain ⟨es, clock, h1, _⟩ := h
  rintro rfl
  rcases hr.own.2 with ⟨h, _⟩ | ⟨g, cap, cur, hv, _, hg, _⟩
  · rw [h] at hb; cases hb
  · rw [hv] at hb; cases hb; rw [hg] at h1; cases h1
theorem MapK.made (W : World) : MapK d enc (W.alloc (.map #[] 0)) W.heap.size (fun _ => none) :=
  ⟨#[], 0, heap_alloc_new W _, by simp, by simp, by simp⟩
theorem MapK.find (h : MapK d enc W m F) (hd : ∀ k, IsKey d (enc k)) (hi : ∀ a b, enc a = enc b → a = b) {es : Array MapEntry} {clock : Nat} (hb : W.heap[m]? = some (.map es clock)) (k : κ) :
    ∃ j, Instr.findNow d (enc k) es.toList 0 = some ((F k).map fun i => (j, .int .i64 i)) ∧ ∀ i, F k = some i → ∃ e, es.toList[j]? = some e ∧ e.key = enc k := by
  obtain ⟨es', clock', hb', h1, h2, h3⟩ := h
  rw [hb'] at hb; cases hb
  rcases MapKept.findNow_spec (hd k) es.toList 0 (fun x hx => by obtain ⟨k', i, e, _⟩ := h1 x hx; rw [e]; exact hd k') with ⟨hn, ha⟩ | ⟨j, e, hf, hj, hk⟩
  · cases hF : F k with
    | none => exact ⟨0, hn, fun i h => by cases h⟩
    | some i => obtain ⟨x, hx, e⟩ := h3 k i hF; exact absurd e (ha x hx)
  · obtain ⟨k', i, ek, ev, eF⟩ := h1 e (List.mem_of_getElem? hj)
    have := hi _ _ (hk.symm.trans ek)
    subst this
    refine ⟨j, ?_, fun i' h => ⟨e, hj, hk⟩⟩
    rw [hf, eF, ev]; simp
theorem MapK.look (h : MapK d enc W m F) (hd : ∀ k, IsKey d (enc k)) (hi : ∀ a b, enc a = enc b → a = b) (hm : P.underlying mty = some (.map kt et)) (hk : P.underlying kt = some d) (hz : (zeroValue et).run P W = .ok (.int .i64 0) W) (k : κ) :
    (Instr.lookup mty (.map (some m)) (enc k) true).run P W = .ok (.tuple #[.int .i64 ((F k).getD 0), .bool (F k).isSome]) W ∧
    (Instr.lookup mty (.map (some m)) (enc k) false).run P W = .ok (.int .i64 ((F k).getD 0)) W := by
  obtain ⟨es, clock, hb, _⟩ := id h
  obtain ⟨j, hf, _⟩ := h.find hd hi hb k
  cases hF : F k <;> rw [hF] at hf <;> simp only [Option.map] at hf <;> constructor <;>
    simp [Instr.lookup, run_underlying hm, MapKept.run_getObj_map hb, MapKept.run_checkKey hk (hd k), MapKept.run_findKey hk hf, Result.andThen, hz]
theorem chg_setBlock' {es : Array MapEntry} {clock : Nat} (hb : W.heap[m]? = some (.map es clock)) (o : Obj) : Chg (· = m) W (setBlock W m o) := ⟨rfl, rfl, rfl, by simp [setBlock], fun i _ hi => ChangeMaps.heap_setBlock_other hb o hi⟩
theorem MapK.put [DecidableEq κ] (h : MapK d enc W m F) (hd : ∀ k, IsKey d (enc k)) (hi : ∀ a b, enc a = enc b → a = b) (hm : P.underlying mty = some (.map kt et)) (hk : P.underlying kt = some d) (k : κ) (i : Int) :
    ∃ W', (Instr.mapUpdate mty (.map (some m)) (enc k) (.int .i64 i)).run P W = .ok () W' ∧ MapK d enc W' m (fun x => if x = k then some i else F x) ∧ Chg (· = m) W W' := by
  obtain ⟨es, clock, hb, h1, h2, h3⟩ := id h
  obtain ⟨j, hf, hj⟩ := h.find hd hi hb k
  cases hF : F k with
  | none =>
    rw [hF] at hf; simp only [Option.map] at hf
    refine ⟨setBlock W m (.map (es.push ⟨enc k, .int .i64 i, clock⟩) (clock + 1)), by simp [Instr.mapUpdate, run_underlying hm, MapKept.run_getObj_map hb, MapKept.run_checkKey hk (hd k), MapKept.run_findKey hk hf, MapKept.run_setObj_map _ hb, Result.andThen, setBlock], ?_, chg_setBlock' hb _⟩
    refine ⟨_, _, ChangeMaps.heap_setBlock_same hb _, ?_, ?_, ?_⟩
    · intro x hx
      simp only [Array.toList_push, List.mem_append, List.mem_singleton] at hx
      rcases hx with hx | rfl
      · obtain ⟨k', i', e1, e2, e3⟩ := h1 x hx
        refine ⟨k', i', e1, e2, ?_⟩
        show (if k' = k then some i else F k') = some i'
        rw [if_neg (by rintro rfl; rw [hF] at e3; cases e3)]; exact e3
      · exact ⟨k, i, rfl, rfl, by simp⟩
    · rw [Array.toList_push, List.map_append, List.nodup_append]
      refine ⟨h2, by simp, fun a ha b hb' => ?_⟩
      obtain ⟨x, hx, rfl⟩ := List.mem_map.1 ha
      obtain ⟨k', i', e1, _, e3⟩ := h1 x hx
      have hb2 : b = enc k := by simpa using hb'
      rw [e1, hb2]
      intro e; have := hi _ _ e; subst this; rw [hF] at e3; cases e3
    · intro k' i' hk'
      by_cases e : k' = k
      · subst e; exact ⟨⟨enc k', .int .i64 i, clock⟩, by simp, rfl⟩
      · obtain ⟨x, hx, e1⟩ := h3 k' i' (by simpa [e] using hk')
        exact ⟨x, by simp [hx], e1⟩
  | some i0 =>
    rw [hF] at hf; simp only [Option.map] at hf
    obtain ⟨e, he, hke⟩ := hj i0 hF
    have he' : es[j]? = some e := by simpa using he
    have hks := MapKept.run_keyThatStays (P := P) (w := W) (hd k)
    refine ⟨setBlock W m (.map (es.modify j fun e => { e with key := enc k, val := .int .i64 i }) clock), by simp [Instr.mapUpdate, run_underlying hm, MapKept.run_getObj_map hb, MapKept.run_checkKey hk (hd k), MapKept.run_findKey hk hf, he', hke, hks, MapKept.run_setObj_map _ hb, Result.andThen, setBlock], ?_, chg_setBlock' hb _⟩
    have hkeys : (es.modify j fun e => { e with key := enc k, val := .int .i64 i }).toList.map (·.key) = es.toList.map (·.key) := by
      apply List.ext_getElem?
      intro q
      simp only [List.getElem?_map, Array.getElem?_toList, Array.getElem?_modify]
      by_cases eq : j = q
      · subst eq; simp [he', hke]
      · simp [eq]
    refine ⟨_, _, ChangeMaps.heap_setBlock_same hb _, ?_, by rw [hkeys]; exact h2, ?_⟩
    · intro x hx
      obtain ⟨q, hq⟩ := List.mem_iff_getElem?.1 hx
      simp only [Array.getElem?_toList, Array.getElem?_modify] at hq
      by_cases eq : j = q
      · subst eq
        rw [if_pos rfl, he'] at hq
        simp only [Option.map_some, Option.some.injEq] at hq
        subst hq
        exact ⟨k, i, rfl, rfl, by simp⟩
      · rw [if_neg eq] at hq
        obtain ⟨k', i', e1, e2, e3⟩ := h1 x (by rw [← Array.getElem?_toList] at hq; exact List.mem_of_getElem? hq)
        refine ⟨k', i', e1, e2, ?_⟩
        show (if k' = k then some i else F k') = some i'
        by_cases ek : k' = k
        · subst ek
          exfalso
          have hq' : es.toList[q]? = some x := by simpa using hq
          have hm1 : (es.toList.map (·.key))[q]? = some (enc k') := by rw [List.getElem?_map, hq', ← e1]; rfl
          have hm2 : (es.toList.map (·.key))[j]? = some (enc k') := by rw [List.getElem?_map, he, ← hke]; rfl
          have hl := (List.getElem?_eq_some_iff.1 hm2).1
          exact eq ((List.getElem?_inj hl h2).1 (hm2.trans hm1.symm))
        · rw [if_neg ek]; exact e3
    · intro k' i' hk'
      have : ∃ x ∈ es.toList, x.key = enc k' := by
        by_cases e : k' = k
        · subst e; exact ⟨_, List.mem_of_getElem? he, hke⟩
        · exact h3 k' i' (by simpa [e] using hk')
      obtain ⟨x, hx, e1⟩ := this
      have hmem : enc k' ∈ (es.modify j fun e => { e with key := enc k, val := .int .i64 i }).toList.map (·.key) := by rw [hkeys]; exact List.mem_map.2 ⟨x, hx, e1⟩
      obtain ⟨y, hy, e2⟩ := List.mem_map.1 hmem
      exact ⟨y, hy, e2⟩
theorem MapK.del [DecidableEq κ] (h : MapK d enc W m F) (hd : ∀ k, IsKey d (enc k)) (hi : ∀ a b, enc a = enc b → a = b) (hm : P.underlying mty = some (.map kt et)) (hk : P.underlying kt = some d) (k : κ) (ty : TypeId) (t2 : TypeId) :
    ∃ W', (Builtin.delete_ #[mty, t2] ty #[.map (some m), enc k]).run P W = .ok (.tuple #[]) W' ∧ MapK d enc W' m (fun x => if x = k then none else F x) ∧ Chg (· = m) W W' := by
  obtain ⟨es, clock, hb, h1, h2, h3⟩ := id h
  obtain ⟨j, hf, hj⟩ := h.find hd hi hb k
  cases hF : F k with
  | none =>
    rw [hF] at hf; simp only [Option.map] at hf
    refine ⟨setBlock W m (.map es clock), by simp [Builtin.delete_, run_underlying hm, MapKept.run_getObj_map hb, MapKept.run_checkKey hk (hd k), MapKept.run_findKey hk hf, MapKept.run_setObj_map _ hb, Result.andThen, setBlock], ?_, chg_setBlock' hb _⟩
    refine ⟨_, _, ChangeMaps.heap_setBlock_same hb _, ?_, h2, ?_⟩
    · intro x hx
      obtain ⟨k', i', e1, e2, e3⟩ := h1 x hx
      refine ⟨k', i', e1, e2, ?_⟩
      show (if k' = k then none else F k') = some i'
      rw [if_neg (by rintro rfl; rw [hF] at e3; cases e3)]; exact e3
    · intro k' i' hk'
      by_cases e : k' = k
      · simp [e] at hk'
      · exact h3 k' i' (by simpa [e] using hk')
  | some i0 =>
    rw [hF] at hf; simp only [Option.map] at hf
    obtain ⟨e, he, hke⟩ := hj i0 hF
    refine ⟨setBlock W m (.map (es.eraseIdxIfInBounds j) clock), by simp [Builtin.delete_, run_underlying hm, MapKept.run_getObj_map hb, MapKept.run_checkKey hk (hd k), MapKept.run_findKey hk hf, MapKept.run_setObj_map _ hb, Result.andThen, setBlock], ?_, chg_setBlock' hb _⟩
    have hjl : j < es.toList.length := (List.getElem?_eq_some_iff.1 he).1
    have hl : (es.eraseIdxIfInBounds j).toList = es.toList.eraseIdx j := by
      unfold Array.eraseIdxIfInBounds
      rw [dif_pos (by simpa using hjl)]; simp
    have hpm : es.toList.Perm (e :: es.toList.eraseIdx j) := by
      have h0 := List.perm_middle (a := es.toList[j]) (l₁ := es.toList.take j) (l₂ := es.toList.drop (j + 1))
      rw [← List.eraseIdx_eq_take_drop_succ, show es.toList[j] = e from (List.getElem?_eq_some_iff.1 he).2] at h0
      have h4 : es.toList.take j ++ e :: es.toList.drop (j + 1) = es.toList := by
        rw [← show es.toList[j] = e from (List.getElem?_eq_some_iff.1 he).2, ← List.drop_eq_getElem_cons hjl, List.take_append_drop]
      rwa [h4] at h0
    have hnd : (e.key :: (es.toList.eraseIdx j).map (·.key)).Nodup := by simpa using (hpm.map (·.key)).nodup h2
    refine ⟨_, _, ChangeMaps.heap_setBlock_same hb _, ?_, ?_, ?_⟩
    · rw [hl]
      intro x hx
      obtain ⟨k', i', e1, e2, e3⟩ := h1 x (hpm.symm.subset (.tail _ hx))
      refine ⟨k', i', e1, e2, ?_⟩
      show (if k' = k then none else F k') = some i'
      rw [if_neg ?_]
      · exact e3
      · rintro rfl
        exact (List.nodup_cons.1 hnd).1 (by rw [hke, ← e1]; exact List.mem_map.2 ⟨x, hx, rfl⟩)
    · rw [hl]; exact (List.nodup_cons.1 hnd).2
    · intro k' i' hk'
      by_cases e' : k' = k
      · simp [e'] at hk'
      · obtain ⟨x, hx, e1⟩ := h3 k' i' (by simpa [e'] using hk')
        rw [hl]
        rcases List.mem_cons.1 (hpm.subset hx) with rfl | hx
        · exact absurd (hi _ _ (e1.symm.trans hke)) e'
        · exact ⟨x, hx, e1⟩
end
section
variable {κ : Type}
/-- F tells at which place of the row each one stands -/
def IdxF (ns : List κ) (F : κ → Option Int) : Prop := ∀ k i, F k = some i ↔ ∃ j : Nat, i = j ∧ ns[j]? = some k
def upd [DecidableEq κ] (F : κ → Option Int) (k : κ) (v : Option Int) : κ → Option Int := fun x => if x = k then v else F x
theorem IdxF.nil : IdxF ([] : List κ) (fun _ => none) := fun k i => by simp
theorem IdxF.no {ns : List κ} {F : κ → Option Int} (h : IdxF ns F) (x : κ) : F x = none ↔ x ∉ ns := by
  constructor
  · intro hx hm
    obtain ⟨j, hj⟩ := List.mem_iff_getElem?.1 hm
    have := (h x j).2 ⟨j, rfl, hj⟩
    rw [hx] at this; cases this
  · intro hm
    cases hF : F x with
    | none => rfl
    | some i =>
      obtain ⟨j, _, hj⟩ := (h x i).1 hF
      exact absurd (List.mem_of_getElem? hj) hm
theorem IdxF.at_ {ns : List κ} {F : κ → Option Int} (h : IdxF ns F) {j : Nat} {x : κ} (hj : ns[j]? = some x) : F x = some (j : Int) := (h x j).2 ⟨j, rfl, hj⟩
theorem IdxF.inj {ns : List κ} {F : κ → Option Int} (h : IdxF ns F) {i j : Nat} {x : κ} (hi : ns[i]? = some x) (hj : ns[j]? = some x) : i = j := by
  have := Option.some.inj ((h.at_ hi).symm.trans (h.at_ hj))
  omega
theorem IdxF.snoc [DecidableEq κ] {ns : List κ} {F : κ → Option Int} (h : IdxF ns F) {x : κ} (hx : F x = none) : IdxF (ns ++ [x]) (upd F x (some ns.length)) := by
  intro k i
  unfold upd
  by_cases e : k = x
  · subst e
    rw [if_pos rfl]
    constructor
    · intro hi
      exact ⟨ns.length, by simpa using hi.symm, by simp⟩
    · rintro ⟨j, rfl, hj⟩
      by_cases hl : j < ns.length
      · rw [List.getElem?_append_left hl] at hj
        exact absurd (List.mem_of_getElem? hj) ((h.no k).1 hx)
      · have := (List.getElem?_eq_some_iff.1 hj).1
        simp at this
        simp; omega
  · rw [if_neg e, h k i]
    constructor
    · rintro ⟨j, rfl, hj⟩
      exact ⟨j, rfl, by rw [List.getElem?_append_left (List.getElem?_eq_some_iff.1 hj).1]; exact hj⟩
    · rintro ⟨j, rfl, hj⟩
      by_cases hl : j < ns.length
      · exact ⟨j, rfl, by rwa [List.getElem?_append_left hl] at hj⟩
      · rw [List.getElem?_append_right (by omega)] at hj
        rcases Nat.eq_zero_or_pos (j - ns.length) with h0 | h0
        · rw [h0] at hj; simp at hj; exact absurd hj.symm e
        · rw [List.getElem?_eq_none (by simp; omega)] at hj; cases hj
theorem IdxF.pop [DecidableEq κ] {ns : List κ} {F : κ → Option Int} {x : κ} (h : IdxF (ns ++ [x]) F) : IdxF ns (upd F x none) := by
  intro k i
  unfold upd
  have hlast : (ns ++ [x])[ns.length]? = some x := by simp
  by_cases e : k = x
  · subst e
    rw [if_pos rfl]
    constructor
    · intro hi; cases hi
    · rintro ⟨j, rfl, hj⟩
      have hl := (List.getElem?_eq_some_iff.1 hj).1
      have := h.inj (i := j) (j := ns.length) (by rw [List.getElem?_append_left hl]; exact hj) hlast
      omega
  · rw [if_neg e, h k i]
    constructor
    · rintro ⟨j, rfl, hj⟩
      have hl := (List.getElem?_eq_some_iff.1 hj).1
      simp at hl
      by_cases hl2 : j < ns.length
      · exact ⟨j, rfl, by rwa [List.getElem?_append_left hl2] at hj⟩
      · have : j = ns.length := by omega
        subst this
        rw [hlast] at hj; cases hj; exact absurd rfl e
    · rintro ⟨j, rfl, hj⟩
      exact ⟨j, rfl, by rw [List.getElem?_append_left (List.getElem?_eq_some_iff.1 hj).1]; exact hj⟩
theorem IdxF.swap [DecidableEq κ] {ns ms : List κ} {F : κ → Option Int} (h : IdxF ns F) {i j : Nat} {a b : κ} (hi : ns[i]? = some a) (hj : ns[j]? = some b)
    (hs : ∀ k, ms[k]? = if k = j then some a else if k = i then some b else ns[k]?) : IdxF ms (upd (upd F b (some (i : Int))) a (some (j : Int))) := by
  intro k q
  unfold upd
  by_cases ea : k = a
  · subst ea
    rw [if_pos rfl]
    constructor
    · intro hq; exact ⟨j, by simpa using hq.symm, by rw [hs, if_pos rfl]⟩
    · rintro ⟨l, rfl, hl⟩
      rw [hs] at hl
      by_cases e1 : l = j
      · subst e1; rfl
      · rw [if_neg e1] at hl
        by_cases e2 : l = i
        · subst e2; rw [if_pos rfl] at hl
          have : l = j := h.inj hi (by rw [hj]; exact hl)
          exact absurd this e1
        · rw [if_neg e2] at hl
          exact absurd (h.inj hl hi) e2
  · rw [if_neg ea]
    by_cases eb : k = b
    · subst eb
      rw [if_pos rfl]
      have hij : i ≠ j := by rintro rfl; rw [hi] at hj; cases hj; exact ea rfl
      constructor
      · intro hq; exact ⟨i, by simpa using hq.symm, by rw [hs, if_neg hij, if_pos rfl]⟩
      · rintro ⟨l, rfl, hl⟩
        rw [hs] at hl
        by_cases e1 : l = j
        · rw [if_pos e1] at hl; cases hl; exact absurd rfl ea
        · rw [if_neg e1] at hl
          by_cases e2 : l = i
          · subst e2; rfl
          · rw [if_neg e2] at hl
            exact absurd (h.inj hl hj) e1
    · rw [if_neg eb, h k q]
      constructor
      · rintro ⟨l, rfl, hl⟩
        refine ⟨l, rfl, ?_⟩
        rw [hs, if_neg, if_neg]
        · exact hl
        · rintro rfl; rw [hi] at hl; cases hl; exact ea rfl
        · rintro rfl; rw [hj] at hl; cases hl; exact eb rfl
      · rintro ⟨l, rfl, hl⟩
        refine ⟨l, rfl, ?_⟩
        rw [hs] at hl
        by_cases e1 : l = j
        · rw [if_pos e1] at hl; cases hl; exact absurd rfl ea
        · rw [if_neg e1] at hl
          by_cases e2 : l = i
          · rw [if_pos e2] at hl; cases hl; exact absurd rfl eb
          · rwa [if_neg e2] at hl
end
end Go.Proofs.YtckdpejdnejhfaaGreat.Ho

/- House: heaps, plainly: what one swap on the way up or down leaves. -/
namespace Go.Proofs.YtckdpejdnejhfaaGreat.Ho

section heap
variable {α : Type} {le : α → α → Prop} {f : Nat → α} {n : Nat}
def swF (f : Nat → α) (i j : Nat) : Nat → α := fun k => if k = j then f i else if k = i then f j else f k
def HeapF (le : α → α → Prop) (f : Nat → α) (n : Nat) : Prop := ∀ k, 0 < k → k < n → le (f ((k - 1) / 2)) (f k)
/-- in order but for what stands above j -/
def UpF (le : α → α → Prop) (f : Nat → α) (n j : Nat) : Prop :=
  (∀ k, 0 < k → k < n → k ≠ j → le (f ((k - 1) / 2)) (f k)) ∧ ∀ k, 0 < k → k < n → (k - 1) / 2 = j → 0 < j → le (f ((j - 1) / 2)) (f k)
/-- in order but about i -/
def DnF (le : α → α → Prop) (f : Nat → α) (n i : Nat) : Prop :=
  (∀ k, 0 < k → k < n → k ≠ i → (k - 1) / 2 ≠ i → le (f ((k - 1) / 2)) (f k)) ∧ ∀ k, 0 < k → k < n → (k - 1) / 2 = i → 0 < i → le (f ((i - 1) / 2)) (f k)
theorem swF_j (i j : Nat) : swF f i j j = f i := if_pos rfl
theorem swF_i {i j : Nat} (h : i ≠ j) : swF f i j i = f j := by simp [swF, h]
theorem swF_o {i j k : Nat} (h : k ≠ j) (h2 : k ≠ i) : swF f i j k = f k := by simp [swF, h, h2]
theorem UpF.top (h : UpF le f n 0) : HeapF le f n := fun k h0 hk => h.1 k h0 hk (by omega)
theorem UpF.stop {j : Nat} (h : UpF le f n j) (hj : le (f ((j - 1) / 2)) (f j)) : HeapF le f n := fun k h0 hk => by
  by_cases e : k = j
  · exact e ▸ hj
  · exact h.1 k h0 hk e
theorem DnF.step {i j : Nat} (h : DnF le f n i) (hp : (j - 1) / 2 = i) (hj : 0 < j) (hn : j < n) (hl : le (f j) (f i)) (hs : ∀ k, 0 < k → k < n → (k - 1) / 2 = i → le (f j) (f k)) :
    DnF le (swF f i j) n j ∧ le (swF f i j ((j - 1) / 2)) (swF f i j j) := by
  have hij : i ≠ j := by omega
  refine ⟨⟨fun k h0 hk hkj hpk => ?_, fun k h0 hk hpk _ => ?_⟩, ?_⟩
  · by_cases e : k = i
    · rw [swF_o (k := (k - 1) / 2) (by omega) (by omega), e, swF_i hij]
      exact h.2 j hj hn hp (by omega)
    · rw [swF_o (k := k) hkj e]
      by_cases e3 : (k - 1) / 2 = i
      · rw [e3, swF_i hij]; exact hs k h0 hk e3
      · rw [swF_o hpk e3]; exact h.1 k h0 hk e e3
  · rw [hp, swF_i hij, swF_o (k := k) (by omega) (by omega)]
    have := h.1 k h0 hk (by omega) (by omega)
    rwa [hpk] at this
  · rw [hp, swF_i hij, swF_j]; exact hl
theorem DnF.stop {i : Nat} (h : DnF le f n i) (hs : ∀ k, 0 < k → k < n → (k - 1) / 2 = i → le (f i) (f k)) : UpF le f n i := by
  refine ⟨fun k h0 hk hki => ?_, h.2⟩
  by_cases e : (k - 1) / 2 = i
  · rw [e]; exact hs k h0 hk e
  · exact h.1 k h0 hk hki e
/-- one that stands otherwise -/
theorem HeapF.dn {g : Nat → α} {i : Nat} (tr : ∀ a b c, le a b → le b c → le a c) (h : HeapF le f n) (hg : ∀ k, k ≠ i → k < n → g k = f k) (hn : i < n) : DnF le g n i :=
  ⟨fun k h0 hk hki hp => by rw [hg k hki hk, hg _ hp (by omega)]; exact h k h0 hk,
   fun k h0 hk hp h0i => by
    rw [hg k (by omega) hk, hg _ (by omega) (by omega)]
    have := h k h0 hk
    rw [hp] at this
    exact tr _ _ _ (h i h0i hn) this⟩
theorem HeapF.less (h : HeapF le f n) {m : Nat} (hm : m ≤ n) : HeapF le f m := fun k h0 hk => h k h0 (by omega)
/-- the first is the least -/
theorem HeapF.least (tr : ∀ a b c, le a b → le b c → le a c) (rf : ∀ a, le a a) (h : HeapF le f n) : ∀ k, k < n → le (f 0) (f k) := by
  intro k
  induction k using Nat.strongRecOn with
  | ind k ih =>
    intro hk
    by_cases e : k = 0
    · subst e; exact rf _
    · exact tr _ _ _ (ih ((k - 1) / 2) (by omega) (by omega)) (h k (by omega) hk)
end heap

section lists
variable {α : Type}
/-- two places of a row change theirs -/
def swp (l : List α) (i j : Nat) : List α := match l[i]?, l[j]? with | some a, some b => (l.set i b).set j a | _, _ => l
theorem swp_eq {l : List α} {i j : Nat} (hi : i < l.length) (hj : j < l.length) : swp l i j = (l.set i l[j]).set j l[i] := by simp [swp, hi, hj]
theorem swp_len (l : List α) (i j : Nat) : (swp l i j).length = l.length := by unfold swp; split <;> simp
theorem swp_perm (l : List α) (i j : Nat) : (swp l i j).Perm l := by
  by_cases hi : i < l.length
  · by_cases hj : j < l.length
    · rw [swp_eq hi hj]; exact List.set_set_perm hi hj
    · unfold swp; rw [List.getElem?_eq_none (i := j) (by omega)]; split <;> first | exact List.Perm.refl _ | contradiction
  · unfold swp; rw [List.getElem?_eq_none (i := i) (by omega)]
theorem swp_get {l : List α} {i j : Nat} (hi : i < l.length) (hj : j < l.length) (d : α) : (fun k => (swp l i j).getD k d) = swF (fun k => l.getD k d) i j := by
  funext k
  rw [swp_eq hi hj]
  simp only [swF, List.getD_eq_getElem?_getD, List.getElem?_set, List.length_set]
  by_cases e : j = k
  · subst e; simp [hj, hi]
  · by_cases e2 : i = k
    · subst e2; simp [e, hi, hj, show ¬ i = j from fun h => e h.symm]
    · simp [e, e2, show ¬ k = j from fun h => e h.symm, show ¬ k = i from fun h => e2 h.symm]
end lists
end Go.Proofs.YtckdpejdnejhfaaGreat.Ho

/- House: the calendar in memory; its heap's methods. -/
namespace Go.Proofs.YtckdpejdnejhfaaGreat.Ho
open Go.RowKit
open Go.MapKept (IsKey)
open Go.Proofs.YtckdpejdnejhfaaGreat.Vb Go.Proofs.YtckdpejdnejhfaaGreat.Ac

/-- (tick, number) -/
abbrev Du := Int × Int
def duCells (d : Du) : List Value := [.int .i64 d.1, .int .i64 d.2]
def duAll (l : List Du) : List Value := l.flatMap duCells
theorem duAll_at : ∀ {l : List Du} {k : Nat} {d : Du}, l[k]? = some d → (duAll l)[k * 2]? = some (.int .i64 d.1) ∧ (duAll l)[k * 2 + 1]? = some (.int .i64 d.2)
  | [], _, _, h => by simp at h
  | x :: l, 0, d, h => by
    obtain rfl : x = d := by simpa using h
    exact ⟨rfl, rfl⟩
  | x :: l, k + 1, d, h => by
    have := duAll_at (l := l) (k := k) (d := d) (by simpa using h)
    rw [show (k + 1) * 2 = k * 2 + 2 by omega, show k * 2 + 2 + 1 = (k * 2 + 1) + 2 by omega]
    exact this
theorem duAll_len : ∀ l : List Du, (duAll l).length = l.length * 2
  | [] => rfl
  | x :: l => by
    show ((duAll l).length + 1 + 1 : Nat) = _
    rw [duAll_len l]; simp; omega
theorem duAll_app (l m : List Du) : duAll (l ++ m) = duAll l ++ duAll m := by simp [duAll]
theorem duAll_set : ∀ (l : List Du) (k : Nat) (d : Du), duAll (l.set k d) = ((duAll l).set (k * 2) (.int .i64 d.1)).set (k * 2 + 1) (.int .i64 d.2)
  | [], _, _ => by simp [duAll]
  | x :: l, 0, d => rfl
  | x :: l, k + 1, d => by
    rw [show (k + 1) * 2 = k * 2 + 2 by omega, show k * 2 + 2 + 1 = (k * 2 + 1) + 2 by omega]
    show [_, _] ++ duAll (l.set k d) = _
    rw [duAll_set l k d]; rfl
def leD (a b : Du) : Prop := a.1 < b.1 ∨ (a.1 = b.1 ∧ a.2 ≤ b.2)
instance (a b : Du) : Decidable (leD a b) := inferInstanceAs (Decidable (_ ∨ _))
theorem leD_tr (a b c : Du) (h : leD a b) (k : leD b c) : leD a c := by unfold leD at *; omega
theorem leD_rf (a : Du) : leD a a := by unfold leD; omega
theorem leD_to (a b : Du) : leD a b ∨ leD b a := by unfold leD; omega
/-- a strictly stands ahead of b -/
def ltD (a b : Du) : Bool := decide (¬ leD b a)
theorem ltD_le {a b : Du} (h : ltD a b = true) : leD a b := (leD_to a b).resolve_right (by simpa [ltD] using h)
theorem ltD_not {a b : Du} (h : ltD a b = false) : leD b a := by simpa [ltD] using h
def duOk (d : Du) : Prop := (0 ≤ d.1 ∧ d.1 ≤ 1099511627776) ∧ 0 ≤ d.2 ∧ d.2 ≤ 9223372036854775807

/-- a calendar's memory: l stands in the row -/
structure TickI (W : World) (R : Nat → Prop) (p r g m : Nat) (now : Int) (v : Value) (F : Int → Option Int) (l : List Du) : Prop where
  bp : Blk W p 182 #[.int .i64 now, .pointer (some ⟨r, 0, none⟩), .map (some m)]
  br : Blk W r 202 #[v, .func (.func 103) #[] #[.pointer (some ⟨g, 0, none⟩)]]
  bg : Blk W g 74 #[.pointer (some ⟨p, 0, none⟩)]
  row : RowAt W (fun b => R b ∧ b ≠ p ∧ b ≠ r ∧ b ≠ g) 161 2 v l.length (duAll l)
  map : MapK (.int .i64) (.int .i64) W m F
  idx : IdxF (l.map (·.2)) F
  inR : R p ∧ R r ∧ R g ∧ R m
  ok : ∀ d ∈ l, duOk d
  ne : p ≠ r ∧ p ≠ g ∧ r ≠ g
section
variable {W W' : World} {R R' X : Nat → Prop} {p r g m : Nat} {now : Int} {v : Value} {F : Int → Option Int} {l : List Du}
theorem TickI.chg (h : TickI W R p r g m now v F l) (hc : Chg X W W') (hX : ∀ b, b < W.heap.size → R b → ¬ X b) : TickI W' R p r g m now v F l :=
  ⟨h.bp.chg hc (hX _ h.bp.lt h.inR.1), h.br.chg hc (hX _ h.br.lt h.inR.2.1), h.bg.chg hc (hX _ h.bg.lt h.inR.2.2.1), h.row.chg hc fun b hb hr => hX b hb hr.1, h.map.chg hc (hX _ h.map.lt h.inR.2.2.2), h.idx, h.inR, h.ok, h.ne⟩
theorem TickI.grow (h : TickI W R p r g m now v F l) (hb : Below W.heap.size W W') : TickI W' R p r g m now v F l := h.chg (Chg.of (fun _ => False) hb) fun _ _ _ => id
theorem TickI.mono (h : TickI W R p r g m now v F l) (hR : ∀ b, b < W.heap.size → R b → R' b) : TickI W R' p r g m now v F l :=
  ⟨h.bp, h.br, h.bg, h.row.mono fun b hb hr => ⟨hR b hb hr.1, hr.2⟩, h.map, h.idx, ⟨hR _ h.bp.lt h.inR.1, hR _ h.br.lt h.inR.2.1, hR _ h.bg.lt h.inR.2.2.1, hR _ h.map.lt h.inR.2.2.2⟩, h.ok, h.ne⟩
/-- the kth one's cells -/
theorem TickI.at_ (h : TickI W R p r g m now v F l) {k : Nat} {d : Du} (hk : l[k]? = some d) :
    ∃ q cap, v = .slice (some ⟨q, 0, none⟩) l.length cap ∧ q < W.heap.size ∧ W.cell? ⟨q, k * 2, none⟩ = some (.int .i64 d.1) ∧ W.cell? ⟨q, k * 2 + 1, none⟩ = some (.int .i64 d.2) ∧ W.frozen? ⟨q, k * 2, none⟩ = false ∧ W.frozen? ⟨q, k * 2 + 1, none⟩ = false ∧ l.length ≤ cap := by
  have hl := (List.getElem?_eq_some_iff.1 hk).1
  obtain ⟨q, cap, hv, _, hq, hc⟩ := h.row.ex (by omega)
  have ho := h.row.own
  rw [hv] at ho
  exact ⟨q, cap, hv, hq, (ho.cellAt (k * 2) (by omega)).trans (duAll_at hk).1, (ho.cellAt (k * 2 + 1) (by omega)).trans (duAll_at hk).2, ho.frozenAt _, ho.frozenAt _, hc⟩
end
theorem key_i64 : ∀ k : Int, IsKey (.int .i64) (.int .i64 k) := fun k => by simp [IsKey]
theorem i64_inj : ∀ a b : Int, Value.int .i64 a = .int .i64 b → a = b := fun a b h => by injection h
end Go.Proofs.YtckdpejdnejhfaaGreat.Ho

/- House: the calendar's order; its heap's methods Len, Less, Swap, Push, Pop. -/
namespace Go.Proofs.YtckdpejdnejhfaaGreat.Ho
open Go.RowKit
open Go.MapKept (IsKey)
open Go.Proofs.YtckdpejdnejhfaaGreat.Vb Go.Proofs.YtckdpejdnejhfaaGreat.Ac

def cmpI (a b : Int) : Int := if a < b then -1 else if b < a then 1 else 0
theorem nan64_any (a : Int) (w : World) : Calls Tryz.prog 163 #[.int .i64 a] w fun e w' => e = .returned (.bool false) ∧ w' = w := by
  go_enter Tryz.func163, Tryz.ntmps163
  go_wp2_with fail
  go_ret
  simp
theorem cmp64_any (a b : Int) (w : World) : Calls Tryz.prog 134 #[.int .i64 a, .int .i64 b] w fun e w' => e = .returned (.int .i64 (cmpI a b)) ∧ w' = w := by
  obtain ⟨c, hc⟩ : ∃ c, c = cmpI a b := ⟨_, rfl⟩
  rw [← hc]
  have HC := Lib.hid hc
  clear hc
  by_cases h1 : a < b
  · have HE := Lib.hid (show c = -1 from HC.out.trans (if_pos h1))
    go_enter Tryz.func134, Tryz.ntmps134
    go_wp2_with fail
    refine (nan64_any a _).mono ?_
    rintro e w1 ⟨rfl, rfl⟩
    go_wp2_with fail
    refine (nan64_any b _).mono ?_
    rintro e w1 ⟨rfl, rfl⟩
    go_wp2_with fail
    go_ret
    exact ⟨by rw [HE.out]; rfl, rfl⟩
  · by_cases h2 : b < a
    · have HE := Lib.hid (show c = 1 from HC.out.trans ((if_neg h1).trans (if_pos h2)))
      go_enter Tryz.func134, Tryz.ntmps134
      go_wp2_with fail
      refine (nan64_any a _).mono ?_
      rintro e w1 ⟨rfl, rfl⟩
      go_wp2_with fail
      refine (nan64_any b _).mono ?_
      rintro e w1 ⟨rfl, rfl⟩
      go_wp2_with fail
      go_ret
      exact ⟨by rw [HE.out]; rfl, rfl⟩
    · have HE := Lib.hid (show c = 0 from HC.out.trans ((if_neg h1).trans (if_neg h2)))
      go_enter Tryz.func134, Tryz.ntmps134
      go_wp2_with fail
      refine (nan64_any a _).mono ?_
      rintro e w1 ⟨rfl, rfl⟩
      go_wp2_with fail
      refine (nan64_any b _).mono ?_
      rintro e w1 ⟨rfl, rfl⟩
      go_wp2_with fail
      go_ret
      exact ⟨by rw [HE.out]; rfl, rfl⟩
/-- cmp.Or of two -/
theorem or2_any {g : Nat} {x y : Int} {w : World} (h : Blk w g 3 #[.int .i64 x, .int .i64 y]) : Calls Tryz.prog 133 #[.slice (some ⟨g, 0, none⟩) 2 2] w fun e w' => e = .returned (.int .i64 (if x = 0 then y else x)) ∧ w' = w := by
  have c0 : w.cell? ⟨g, 0, none⟩ = some (.int .i64 x) := h.cell 0
  have c1 : w.cell? ⟨g, 1, none⟩ = some (.int .i64 y) := h.cell 1
  clear h
  by_cases h1 : x = 0
  · subst h1
    rw [if_pos rfl]
    by_cases h2 : y = 0
    · subst h2
      go_enter Tryz.func133, Tryz.ntmps133
      go_wp2_with fail
      go_rounds 3
      go_ret
      exact ⟨rfl, rfl⟩
    · go_enter Tryz.func133, Tryz.ntmps133
      go_wp2_with fail
      go_rounds 3
      go_ret
      exact ⟨rfl, rfl⟩
  · rw [if_neg h1]
    go_enter Tryz.func133, Tryz.ntmps133
    go_wp2_with fail
    go_rounds 3
    go_ret
    exact ⟨rfl, rfl⟩
def ordI (a b : Du) : Int := if cmpI a.1 b.1 = 0 then cmpI a.2 b.2 else cmpI a.1 b.1
theorem ordI_lt (a b : Du) : decide (ordI a b < 0) = ltD a b := by
  unfold ordI cmpI ltD leD
  rw [Bool.eq_iff_iff]
  simp only [decide_eq_true_eq]
  (repeat' split) <;> omega
set_option maxRecDepth 100000 in
set_option maxHeartbeats 2000000 in
theorem order_any (a b : Du) (w : World) : Calls Tryz.prog 111 #[.agg #[.int .i64 a.1, .int .i64 a.2], .agg #[.int .i64 b.1, .int .i64 b.2]] w fun e w' => e = .returned (.int .i64 (ordI a b)) ∧ Below w.heap.size w w' := by
  obtain ⟨c1, hc1⟩ : ∃ c, c = cmpI a.1 b.1 := ⟨_, rfl⟩
  obtain ⟨c2, hc2⟩ : ∃ c, c = cmpI a.2 b.2 := ⟨_, rfl⟩
  have hO : ordI a b = if c1 = 0 then c2 else c1 := by rw [hc1, hc2]; rfl
  have HO := Lib.hid hO
  have HC1 := Lib.hid hc1.symm
  have HC2 := Lib.hid hc2.symm
  clear hO hc1 hc2
  obtain ⟨a1, a2⟩ := a
  obtain ⟨b1, b2⟩ := b
  simp only at HC1 HC2
  go_enter Tryz.func111, Tryz.ntmps111
  obtain ⟨w2, hw2⟩ : ∃ u, u = (w.alloc (.cells #[.int .i64 a1, .int .i64 a2] 161)).alloc (.cells #[.int .i64 b1, .int .i64 b2] 161) := ⟨_, rfl⟩
  have A1 := Lib.hid (show Blk w2 w.heap.size 161 #[.int .i64 a1, .int .i64 a2] by rw [hw2]; exact (Blk.new w _ _).alloc _)
  have B1 := Lib.hid (show Blk w2 (w.heap.size + 1) 161 #[.int .i64 b1, .int .i64 b2] by rw [hw2]; exact Blk.new' _ _ (by simp))
  have W2 := Lib.hid (show Below w.heap.size w w2 by rw [hw2]; exact ((Below.refl _ _).alloc (Nat.le_refl _) _).alloc (by simp) _)
  have k0 : w2.cell? ⟨w.heap.size, 0, none⟩ = some (.int .i64 a1) := A1.out.cell 0
  have k1 : w2.cell? ⟨w.heap.size, 1, none⟩ = some (.int .i64 a2) := A1.out.cell 1
  have k2 : w2.cell? ⟨w.heap.size + 1, 0, none⟩ = some (.int .i64 b1) := B1.out.cell 0
  have k3 : w2.cell? ⟨w.heap.size + 1, 1, none⟩ = some (.int .i64 b2) := B1.out.cell 1
  have l0 := A1.out.lt
  have l1 := B1.out.lt
  go_wp2_with fail
  rw [← hw2]
  clear hw2
  refine wp_region_F (Below w2.heap.size w2) [] (by kernel_rfl) ((Below.refl _ _).drew) (fun hS => ?_)
  refine tp 0 hS ?_
  have qq := Lib.hid fun (w' : World) (hSw : (Below w2.heap.size w2) w') => And.intro ((hSw.cell (p := ⟨w.heap.size, 0, none⟩) l0).trans k0) <| And.intro ((hSw.cell (p := ⟨w.heap.size, 1, none⟩) l0).trans k1) <| And.intro ((hSw.cell (p := ⟨w.heap.size + 1, 0, none⟩) l1).trans k2) <| (hSw.cell (p := ⟨w.heap.size + 1, 1, none⟩) l1).trans k3
  refine tl 1 hS qq ?_
  refine tp 2 hS ?_
  refine tl 3 hS qq ?_
  refine tp 5 hS ?_
  refine tl 6 hS qq ?_
  refine tp 7 hS ?_
  refine tl 8 hS qq ?_
  refine stp 4 fun K hK => ?_
  go_simp
  refine (cmp64_any a1 b1 _).mono ?_
  rintro e w7 ⟨rfl, rfl⟩
  rw [HC1.out]
  refine hK.out _ _ ?_ (fun hS => ?_)
  · exact hS
  clear hK K
  try simp only [Act.put, pb, pz, ps]
  refine stp 9 fun K hK => ?_
  go_simp
  refine (cmp64_any a2 b2 _).mono ?_
  rintro e w7 ⟨rfl, rfl⟩
  rw [HC2.out]
  refine hK.out _ _ ?_ (fun hS => ?_)
  · exact hS
  clear hK K
  try simp only [Act.put, pb, pz, ps]
  refine stp 10 fun K hK => ?_
  go_simp
  refine hK.out _ _ ?_ (fun hS => ?_)
  · exact hS.alloc (by simp) _
  clear hK K
  try simp only [Act.put, pb, pz, ps]
  refine stp 11 fun K hK => ?_
  go_simp
  refine (or2_any (w := (w2.alloc (.cells #[.int .i64 c1, .int .i64 c2] 3)).drew) (g := w2.heap.size) (Blk.new w2 _ _)).mono ?_
  rintro e w7 ⟨rfl, rfl⟩
  rw [← HO.out]
  refine hK.out _ _ ?_ (fun hS => ?_)
  · exact hS
  clear hK K
  try simp only [Act.put, pb, pz, ps]
  refine tp 12 hS ?_
  refine wpAnyF_done (by kernel_rfl) ?_ _
  go_wp2_with fail
  go_ret
  exact ⟨rfl, W2.out.trans ((hS).mono W2.out.size)⟩
end Go.Proofs.YtckdpejdnejhfaaGreat.Ho

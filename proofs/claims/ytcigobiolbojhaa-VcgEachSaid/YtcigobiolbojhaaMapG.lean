/- A map's block whose entries are all good. -/
import Derived.Test.YtcigobiolbojhaaOwn
import Derived.Maps.OwnSet
namespace Go.Proofs.Ytcigobiolbojhaa.Vb
open Go.RowKit
open Go.Maps (Keyed)
open Go.WideElems (Fit)

theorem nodup_le {α : Type} : ∀ (l L : List α), l.Nodup → (∀ x ∈ l, x ∈ L) → l.length ≤ L.length
  | [], _, _, _ => Nat.zero_le _
  | x :: l, L, hn, hs => by
    obtain ⟨s, t, rfl⟩ := List.append_of_mem (hs x (by simp))
    have h1 := List.nodup_cons.1 hn
    have := nodup_le l (s ++ t) h1.2 (fun y hy => by
      have := hs y (by simp [hy])
      simp only [List.mem_append, List.mem_cons] at this ⊢
      rcases this with h | rfl | h
      · exact .inl h
      · exact absurd hy h1.1
      · exact .inr h)
    simp only [List.length_append, List.length_cons] at this ⊢
    omega

/-- Block b is a map (keys of type kt, plain elements of type et) all whose entries are good. -/
def MapG (P : Program) (kt et : TypeId) (w : World) (b : Nat) (Good : Value → Value → Prop) : Prop :=
  ∃ es clock, w.heap[b]? = some (.map es clock) ∧ Fit (H := Unit) P kt (plainElem P et) es clock ∧ ∀ x ∈ es.toList, Good x.key x.val

section
variable {P : Program} {kt et : TypeId} {w w' : World} {b : Nat} {Good : Value → Value → Prop}

theorem MapG.lt (h : MapG P kt et w b Good) : b < w.heap.size := by
  obtain ⟨es, clock, hb, _⟩ := h
  exact (Array.getElem?_eq_some_iff.1 hb).1
theorem MapG.of_block (h : MapG P kt et w b Good) (hb : w'.heap[b]? = w.heap[b]?) : MapG P kt et w' b Good := by
  obtain ⟨es, clock, h1, h2, h3⟩ := h
  exact ⟨es, clock, hb.trans h1, h2, h3⟩
theorem MapG.made (w : World) : MapG P kt et (w.alloc (.map #[] 0)) w.heap.size Good :=
  ⟨#[], 0, (MapKept.heap_alloc w _).1, ⟨by simp, MapKept.stamped_empty 0, by simp⟩, by simp⟩
theorem MapG.grow (h : MapG P kt et w b Good) (hb : Below w.heap.size w w') : MapG P kt et w' b Good := h.of_block (hb.block b h.lt)
theorem MapG.alloc (h : MapG P kt et w b Good) (o : Obj) : MapG P kt et (w.alloc o) b Good := h.of_block (Below.heap_alloc w o b h.lt)
theorem MapG.drew (h : MapG P kt et w b Good) : MapG P kt et w.drew b Good := h
theorem MapG.grown {row : Option Nat} (h : MapG P kt et w b Good) (hg : w.grownBy w' row) (hne : some b ≠ row) : MapG P kt et w' b Good := h.of_block (hg.block b h.lt hne)
theorem MapG.setCell (h : MapG P kt et w b Good) {p : Addr} (hne : b ≠ p.block) (u : Value) : MapG P kt et (w.setCell p u) b Good := h.of_block (Below.heap_setCell w p u b hne)
theorem MapG.not_cells (h : MapG P kt et w b Good) {p : Addr} {v : Value} (hc : w.cell? p = some v) : p.block ≠ b := by
  rintro rfl
  obtain ⟨es, clock, h1, _⟩ := h
  simp [World.cell?, h1] at hc

theorem MapG.look {t : TypeId} {q : IntKind} (h : MapG P kt et w b Good) (K : Keyed P kt) (ht : P.underlying t = some (.map kt et)) (hz : ∀ W, (zeroValue et).run P W = .ok (.int q 0) W)
    {key : Value} {kl : Lit} (hkey : keyOf P kt key = some kl) (c : Bool) :
    (∀ W : World, W.heap[b]? = w.heap[b]? → (Instr.lookup t (.map (some b)) key c).run P W = .ok (if c then .tuple #[.int q 0, .bool false] else .int q 0) W) ∨
    ∃ v, (∀ W : World, W.heap[b]? = w.heap[b]? → (Instr.lookup t (.map (some b)) key c).run P W = .ok (if c then .tuple #[v, .bool true] else v) W) ∧ Good key v := by
  obtain ⟨es, clock, hb, F, hg⟩ := h
  by_cases hin : ∃ e0 ∈ es.toList, e0.key = key
  · obtain ⟨e0, he0, hk0⟩ := hin
    refine .inr ⟨e0.val, fun W hW => ?_, by rw [← hk0]; exact hg e0 he0⟩
    rcases Maps.fit_look c K ht (hz W) (hW.trans hb) F hkey with ⟨_, h2, _⟩ | ⟨e1, y, h1, h2, h3, _⟩
    · exact absurd hk0 (h2 e0 he0)
    · have : e1 = e0 := by
        have hn := F.stamped.2.2
        obtain ⟨i, hi, rfl⟩ := List.getElem_of_mem h1
        obtain ⟨j, hj, rfl⟩ := List.getElem_of_mem he0
        have hij : (es.toList.map (·.key))[i]'(by simpa using hi) = (es.toList.map (·.key))[j]'(by simpa using hj) := by simp only [List.getElem_map]; rw [h2, hk0]
        have hp := List.pairwise_iff_getElem.1 hn
        have : i = j := by
          rcases Nat.lt_trichotomy i j with h | h | h
          · exact absurd hij (hp i j (by simpa using hi) (by simpa using hj) h)
          · exact h
          · exact absurd hij.symm (hp j i (by simpa using hj) (by simpa using hi) h)
        subst this
        rfl
      rw [h3, this]
  · refine .inl fun W hW => ?_
    rcases Maps.fit_look c K ht (hz W) (hW.trans hb) F hkey with ⟨h1, _⟩ | ⟨e1, y, h1, h2, h3, _⟩
    · exact h1
    · exact absurd ⟨e1, h1, h2⟩ hin

theorem MapG.store {t : TypeId} {q : IntKind} (h : MapG P kt et w b Good) (K : Keyed P kt) (ht : P.underlying t = some (.map kt et)) (he : P.underlying et = some (.int q))
    {L : List Value} (hL : ∀ k v, Good k v → k ∈ L) (hl : L.length < maxLen) {key : Value} {kl : Lit} (hkey : keyOf P kt key = some kl) {c : Int} (hw : (Lit.int q c).wf = true) (hgd : Good key (.int q c)) :
    ∃ w', (Instr.mapUpdate t (.map (some b)) key (.int q c)).run P w = .ok () w' ∧ MapG P kt et w' b Good ∧ w.grownBy w' (some b) := by
  obtain ⟨es, clock, hb, F, hg⟩ := h
  have hsz : es.size ≤ L.length := by
    have := nodup_le (es.toList.map (·.key)) L F.stamped.2.2 (fun x hx => by
      obtain ⟨e, he, rfl⟩ := List.mem_map.1 hx
      exact hL _ _ (hg e he))
    simpa using this
  obtain ⟨es', clock', hrun, F', _, _, _, hmem⟩ := Maps.fit_store (R' := plainElem P et) (H := Unit) K ht hb F (by omega) (fun _ _ _ _ hz => hz) hkey (plainElem_int he hw)
  refine ⟨_, hrun, ⟨es', clock', ChangeMaps.heap_setBlock_same hb _, F', fun x hx => ?_⟩, ⟨rfl, rfl, rfl, by simp [ChangeMaps.setBlock], fun i _ hi => ChangeMaps.heap_setBlock_other hb _ (fun e => hi (by rw [e]))⟩⟩
  rcases hmem x hx with ⟨h1, _⟩ | ⟨h1, h2⟩
  · exact hg x h1
  · rw [h1, h2]
    exact hgd
end
end Go.Proofs.Ytcigobiolbojhaa.Vb

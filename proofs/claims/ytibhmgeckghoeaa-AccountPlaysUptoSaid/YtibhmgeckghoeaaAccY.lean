/- Account: scripts that came in; goesOn in one. -/
import Derived.Test.YtibhmgeckghoeaaAccX
import Derived.Test.YtibhmgeckghoeaaAccM
namespace Go.Proofs.Ytibhmgeckghoeaa.Ac
open Go.RowKit Go.Shelf Go.Maps
open Go.Proofs.Ytibhmgeckghoeaa.Vb

theorem goesOn_any {b m n : Nat} {a : Acc} {w : World} {s : St} (h : AccAt w b m n (stepA a s)) (ho : a.Ok) (hf : a.Fine) (hs : s.wf) (hE : stepE a s = 0) :
    Calls Try.prog 29 #[.pointer (some ⟨b, 0, none⟩), .agg s.vals, .agg (told a s.lot), .int .i64 (stepG a s)] w fun e w' => e = .returned (.bool true) ∧ Below w.heap.size w w' := by
  have ho2 := (step_keeps ho hf hs hE).1
  obtain ⟨kind, who, to, lot, coins⟩ := s
  by_cases k1 : kind = 1
  · subst k1; exact goesOn_k1 h ho hf hs ho2 (bringE_zero hE)
  by_cases k2 : kind = 2
  · subst k2; exact goesOn_k2 h ho hf hs ho2 (holdE_ok.1 hE)
  by_cases k3 : kind = 3
  · subst k3; exact goesOn_k3 h ho hf hs ho2
  by_cases k4 : kind = 4
  · subst k4; exact goesOn_k4 h ho hf hs ho2 (payE_zero hE)
  by_cases k5 : kind = 5
  · subst k5; exact goesOn_k5 h ho hf hs ho2 (takeE_zero hE)
  have e1 : stepA a ⟨kind, who, to, lot, coins⟩ = a := by simp [stepA, k1, k2, k3, k4, k5]
  have e2 : stepG a ⟨kind, who, to, lot, coins⟩ = 0 := by simp [stepG, k3]
  rw [e1] at h ho2
  rw [e2]
  exact goesOn_k0 h ho hf hs ho2 k1 k2 k3 k4 k5

def St.cells (s : St) : List Value := s.vals.toList
def scells (l : List St) : List Value := l.flatMap St.cells
theorem scells_at : ∀ (l : List St) (k : Nat) (s : St), l[k]? = some s → ∀ j u, s.cells[j]? = some u → (scells l)[k * 5 + j]? = some u
  | [], k, s, h => by simp at h
  | x :: l, 0, s, h => by
    simp at h
    subst h
    intro j u hu
    have hj : j < x.cells.length := (List.getElem?_eq_some_iff.1 hu).1
    unfold scells
    rw [List.flatMap_cons, Nat.zero_mul, Nat.zero_add, List.getElem?_append_left hj]
    exact hu
  | x :: l, k + 1, s, h => by
    intro j u hu
    have := scells_at l k s (by simpa using h) j u hu
    unfold scells at *
    have hx : x.cells.length = 5 := rfl
    rw [List.flatMap_cons, List.getElem?_append_right (by rw [hx]; omega), hx, show (k + 1) * 5 + j - 5 = k * 5 + j from by omega]
    exact this
/-- the slice v reads as the script l -/
def Steps (w : World) (R : Nat → Prop) (v : Value) (l : List St) : Prop := Sl w R v l.length 5 (scells l) ∧ ∀ s ∈ l, s.wf
theorem Steps.grow {w w' : World} {R : Nat → Prop} {v : Value} {l : List St} (h : Steps w R v l) (hb : Below w.heap.size w w') : Steps w' R v l := ⟨h.1.grow hb, h.2⟩
theorem Steps.at_ {w : World} {R : Nat → Prop} {A : Option Addr} {n c k : Nat} {l : List St} {s : St} (h : Steps w R (.slice A n c) l) (hk : l[k]? = some s) :
    ∃ b off, A = some ⟨b, off, none⟩ ∧ b < w.heap.size ∧ w.cell? ⟨b, off + k * 5, none⟩ = some (.int .i64 s.kind) ∧ w.cell? ⟨b, off + k * 5 + 1, none⟩ = some (.int .i64 s.who) ∧ w.cell? ⟨b, off + k * 5 + 2, none⟩ = some (.int .i64 s.to) ∧
      w.cell? ⟨b, off + k * 5 + 3, none⟩ = some (.int .i64 s.lot) ∧ w.cell? ⟨b, off + k * 5 + 4, none⟩ = some (.int .i64 s.coins) := by
  obtain ⟨⟨_, A', c', hv, _, _, hcs⟩, _⟩ := h
  injection hv with hA _ _
  subst hA
  have hlt := (List.getElem?_eq_some_iff.1 hk).1
  obtain ⟨b, off, hA, _, hlt2, hcc⟩ := hcs (by omega)
  have hat := scells_at l k s hk
  exact ⟨b, off, hA, hlt2, hcc _ _ (hat 0 _ rfl), hcc _ _ (hat 1 _ rfl), hcc _ _ (hat 2 _ rfl), hcc _ _ (hat 3 _ rfl), hcc _ _ (hat 4 _ rfl)⟩
end Go.Proofs.Ytibhmgeckghoeaa.Ac

/- Stats: rows of bits; lent rows. -/
import Derived.Test.YtidejikolcgojaaStR
namespace Go.Proofs.Ytidejikolcgojaa.St
open Go.RowKit Go.Shelf
open Go.Proofs.Ytidejikolcgojaa.Vb Go.Proofs.Ytidejikolcgojaa.Ac
attribute [local go_sem] run_fadd run_fsub run_fmul run_fdiv run_store_float

def bts (l : List Nat) : List Value := l.map fun (x : Nat) => Value.int .u64 (x : Int)
/-- the slice v reads as the words l -/
def Bts (w : World) (R : Nat → Prop) (v : Value) (l : List Nat) : Prop := Sl w R v l.length 1 (bts l) ∧ ∀ x ∈ l, x < bits64
section
variable {w w' : World} {R : Nat → Prop} {v : Value} {l : List Nat}
theorem Bts.grow (h : Bts w R v l) (hb : Below w.heap.size w w') : Bts w' R v l := ⟨h.1.grow hb, h.2⟩
theorem Bts.form (h : Bts w R v l) : ∃ A c, v = .slice A l.length c ∧ l.length ≤ c ∧ c ≤ maxLen := by
  obtain ⟨⟨_, A', c', hv, h1, h2, _⟩, _⟩ := h
  exact ⟨A', c', hv, h1, h2⟩
theorem Bts.at_ {A : Option Addr} {n c k : Nat} {x : Nat} (h : Bts w R (.slice A n c) l) (hk : l[k]? = some x) :
    ∃ b off, A = some ⟨b, off, none⟩ ∧ R b ∧ b < w.heap.size ∧ w.cell? ⟨b, off + k, none⟩ = some (.int .u64 (x : Int)) ∧ x < bits64 := by
  obtain ⟨⟨_, A', c', hv, _, _, hcs⟩, hb⟩ := h
  injection hv with hA _ _
  subst hA
  have hlt := (List.getElem?_eq_some_iff.1 hk).1
  obtain ⟨b, off, hA, hR, hlt2, hcc⟩ := hcs (by omega)
  exact ⟨b, off, hA, hR, hlt2, hcc _ _ (by unfold bts; rw [List.getElem?_map, hk]; rfl), hb x (List.mem_of_getElem? hk)⟩
end
theorem ownL_nil (W : World) (base : Nat) : OwnL W base (.slice none 0 0) [] := ⟨World.ownsRow_nil _ _ _ _, by intro x hx; cases hx⟩
theorem ownL_form {W : World} {base : Nat} {v : Value} {l : List Nat} (h : OwnL W base v l) : ∃ A c, v = .slice A l.length c := own_form h.1
theorem ownL_app {W' : World} {base : Nat} {v' : Value} {l : List Nat} {x : Nat} (h2 : ∀ x ∈ l, x < bits64) (hx : x < bits64) (h : W'.ownsRow base 25 1 v' (l.length + 1) (flts l ++ [.float .f64 x])) : OwnL W' base v' (l ++ [x]) := by
  refine ⟨?_, ?_⟩
  · rw [List.length_append, flts_append]
    exact h
  · intro y hy
    rcases List.mem_append.1 hy with hy | hy
    · exact h2 y hy
    · obtain rfl : y = x := by simpa using hy
      exact hx
end Go.Proofs.Ytidejikolcgojaa.St

/- Stats: turns. (Printed by tools/gen_stl.py.) -/
import Derived.Test.YtidejikolcgojaaStK
import Derived.Laws.Cover3
namespace Go.Proofs.Ytidejikolcgojaa.St
open Go.RowKit Go.Shelf
open Go.Proofs.Ytidejikolcgojaa.Vb Go.Proofs.Ytidejikolcgojaa.Ac
attribute [local go_sem] run_fadd run_fsub run_fmul run_fdiv run_store_float

/-- the numbers at the places from p on, each fourth -/
def everyN (l : List Nat) (p : Nat) : List Nat := (List.range ((l.length + 3 - p) / 4)).map fun i => l.getD (4 * i + p) 0
theorem everyN_length (l : List Nat) (p : Nat) : (everyN l p).length = (l.length + 3 - p) / 4 := by unfold everyN; simp
theorem everyN_at {l : List Nat} {p k x : Nat} (hp : p ≤ 3) (hx : l[4 * k + p]? = some x) : (everyN l p)[k]? = some x := by
  have h := (List.getElem?_eq_some_iff.1 hx).1
  unfold everyN
  rw [List.getElem?_map, List.getElem?_range (by omega)]
  simp [List.getD, hx]
theorem everyN_get {l : List Nat} {p k x : Nat} (hp : p ≤ 3) (h : (everyN l p)[k]? = some x) : l[4 * k + p]? = some x := by
  have hk := (List.getElem?_eq_some_iff.1 h).1
  rw [everyN_length] at hk
  obtain ⟨y, hy⟩ : ∃ y, l[4 * k + p]? = some y := ⟨_, List.getElem?_eq_getElem (by omega)⟩
  rw [everyN_at hp hy] at h
  rw [hy, h]
theorem everyN_snoc {l : List Nat} {p k x : Nat} (hp : p ≤ 3) (hx : l[4 * k + p]? = some x) : (nums (everyN l p)).take (k + 1) = (nums (everyN l p)).take k ++ [cn x] := by
  rw [List.take_add_one, nums_at (everyN_at hp hx)]
  rfl
/-- a row as a complex number -/
def turnS (l : List Nat) (p : Nat) : Fl := sumL (nums (everyN l p))
def turnR (l : List Nat) : Fl := fzero (fsub (turnS l 0) (turnS l 2))
def turnI (l : List Nat) : Fl := fzero (fsub (turnS l 1) (turnS l 3))
end Go.Proofs.Ytidejikolcgojaa.St

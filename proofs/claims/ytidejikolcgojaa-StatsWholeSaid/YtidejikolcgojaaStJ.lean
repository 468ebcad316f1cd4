/- Stats: the document's products, spread, shares, line. (Printed by tools/gen_stj.py.) -/
import Derived.Test.YtidejikolcgojaaStI
namespace Go.Proofs.Ytidejikolcgojaa.St
open Go.RowKit Go.Shelf
open Go.Proofs.Ytidejikolcgojaa.Vb Go.Proofs.Ytidejikolcgojaa.Ac
attribute [local go_sem] run_fadd run_fsub run_fmul run_fdiv run_store_float

/-- a row of the call's own, of some bits of these numbers -/
def OwnF (W : World) (base : Nat) (v : Value) (fs : List Fl) : Prop := ∃ l : List Nat, nums l = fs ∧ (∀ x ∈ l, x < bits64) ∧ W.ownsRow base 25 1 v l.length (flts l)
theorem OwnF.fls {W : World} {base : Nat} {v : Value} {fs : List Fl} (h : OwnF W base v fs) : ∃ l, nums l = fs ∧ Fls W (fun _ => True) v l := by
  obtain ⟨l, h1, h2, h3⟩ := h
  exact ⟨l, h1, (Sl.of_own h3).mono fun _ _ _ => trivial, h2⟩
theorem OwnF.grow {W W' : World} {base : Nat} {v : Value} {fs : List Fl} (h : OwnF W base v fs) (hb : Below W.heap.size W W') : OwnF W' base v fs := by
  obtain ⟨l, h1, h2, h3⟩ := h
  exact ⟨l, h1, h2, own_grow h3 hb⟩
theorem ownF_nil (W : World) (base : Nat) : OwnF W base (.slice none 0 0) [] := ⟨[], rfl, (by intro x hx; cases hx), World.ownsRow_nil _ _ _ _⟩
theorem ownF_form {W : World} {base : Nat} {v : Value} {fs : List Fl} (h : OwnF W base v fs) : ∃ A c, v = .slice A fs.length c := by
  obtain ⟨l, h1, _, h3⟩ := h
  obtain ⟨A, c, rfl⟩ := own_form h3
  exact ⟨A, c, by rw [← h1, nums_length]⟩
/-- one number more -/
theorem ownF_app {W' : World} {base : Nat} {v' : Value} {fs : List Fl} {l : List Nat} {x : Nat} {f : Fl} (h1 : nums l = fs) (h2 : ∀ x ∈ l, x < bits64) (hx : IsF x f) (h : W'.ownsRow base 25 1 v' (l.length + 1) (flts l ++ [.float .f64 x])) : OwnF W' base v' (fs ++ [f]) := by
  refine ⟨l ++ [x], ?_, ?_, ?_⟩
  · unfold nums at *
    rw [List.map_append, h1, List.map_cons, List.map_nil, hx.2]
  · intro y hy
    rcases List.mem_append.1 hy with hy | hy
    · exact h2 y hy
    · obtain rfl : y = x := by simpa using hy
      exact hx.1
  · rw [List.length_append, flts_append]
    exact h

theorem prodL_snoc {x y : List Fl} {a b p q : Fl} {k : Nat} (hp : x[k]? = some p) (hq : y[k]? = some q) : (prodL x a y b).take (k + 1) = (prodL x a y b).take k ++ [fmul (fsub p a) (fsub q b)] := by
  unfold prodL
  rw [List.take_add_one, List.getElem?_zipWith, hp, hq]
  rfl
theorem shareL_snoc {x : List Fl} {s p : Fl} {k : Nat} (hp : x[k]? = some p) : (shareL x s).take (k + 1) = (shareL x s).take k ++ [fmul (fdiv p s) (fdiv p s)] := by
  unfold shareL
  rw [List.take_add_one, List.getElem?_map, hp]
  rfl
end Go.Proofs.Ytidejikolcgojaa.St

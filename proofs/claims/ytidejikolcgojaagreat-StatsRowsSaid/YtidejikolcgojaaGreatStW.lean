/- Stats: insertion, plainly: the document's order is the sort. -/
import Derived.Test.YtidejikolcgojaaGreatStX
namespace Go.Proofs.YtidejikolcgojaaGreat.St

/-- a row with a free place (holding y) ahead of the number k -/
def insY (out : List Nat) (k y : Nat) : List Nat := out.take k ++ y :: out.drop k
theorem insY_length (out : List Nat) (k y : Nat) (hk : k ≤ out.length) : (insY out k y).length = out.length + 1 := by
  unfold insY
  rw [List.length_append, List.length_take, List.length_cons, List.length_drop]
  omega
theorem insY_at {out : List Nat} {k y : Nat} (hk : k ≤ out.length) : (insY out k y)[k]? = some y := by
  unfold insY
  rw [List.getElem?_append_right (by rw [List.length_take]; omega), List.length_take, show k - min k out.length = 0 by omega]
  rfl
theorem insY_below {out : List Nat} {k y j : Nat} (hj : j < k) (hk : k ≤ out.length) : (insY out k y)[j]? = out[j]? := by
  unfold insY
  rw [List.getElem?_append_left (by rw [List.length_take]; omega), List.getElem?_take, if_pos hj]
theorem insY_set (out : List Nat) (k y x : Nat) (hk : k ≤ out.length) : (insY out k y).set k x = insY out k x := by
  unfold insY
  rw [List.set_append_right _ _ (by rw [List.length_take]; omega), List.length_take, show k - min k out.length = 0 by omega]
  rfl
/-- the place moves down -/
theorem insY_down {out : List Nat} {k y z : Nat} (hk : k < out.length) (hz : out[k]? = some z) : (insY out (k + 1) y).set (k + 1) z = insY out k z := by
  rw [insY_set _ _ _ _ (by omega)]
  have hd : out.drop k = z :: out.drop (k + 1) := by
    obtain ⟨h, rfl⟩ := List.getElem?_eq_some_iff.1 hz
    exact List.drop_eq_getElem_cons h
  unfold insY
  rw [hd, List.take_add_one, hz]
  simp
theorem insY_perm (out : List Nat) (k x : Nat) : (insY out k x).Perm (x :: out) := by
  unfold insY
  refine List.perm_middle.trans ?_
  rw [List.take_append_drop]
/-- the place that is sought: all from it on stand behind x, the one ahead of it does not -/
theorem insY_sorted {out : List Nat} {k x : Nat} (hs : out.Pairwise fun a b => keyB a ≤ keyB b) (hb : ∀ j y, k ≤ j → out[j]? = some y → keyB x < keyB y) (ha : ∀ y, 0 < k → out[k - 1]? = some y → ¬ keyB x < keyB y) (hk : k ≤ out.length) : (insY out k x).Pairwise fun a b => keyB a ≤ keyB b := by
  have hlast : ∀ y ∈ out.take k, keyB y ≤ keyB x := by
    intro y hy
    obtain ⟨j, hj, rfl⟩ := List.getElem_of_mem hy
    rw [List.length_take] at hj
    rw [List.getElem_take]
    have h0 : out[k - 1]? = some out[k - 1] := List.getElem?_eq_getElem (by omega)
    have h1 := ha _ (by omega) h0
    by_cases e : j = k - 1
    · subst e; omega
    · have := List.pairwise_iff_getElem.1 hs j (k - 1) (by omega) (by omega) (by omega)
      omega
  unfold insY
  refine List.pairwise_append.2 ⟨hs.sublist (List.take_sublist _ _), List.pairwise_cons.2 ⟨fun y hy => ?_, hs.sublist (List.drop_sublist _ _)⟩, fun a ha' b hb' => ?_⟩
  · obtain ⟨j, hj, rfl⟩ := List.getElem_of_mem hy
    rw [List.length_drop] at hj
    rw [List.getElem_drop]
    have := hb (k + j) _ (by omega) (List.getElem?_eq_getElem (by omega))
    omega
  · rcases List.mem_cons.1 hb' with rfl | hb'
    · exact hlast a ha'
    · obtain ⟨i, hi, rfl⟩ := List.getElem_of_mem ha'
      obtain ⟨j, hj, rfl⟩ := List.getElem_of_mem hb'
      rw [List.length_take] at hi
      rw [List.length_drop] at hj
      rw [List.getElem_take, List.getElem_drop]
      exact List.pairwise_iff_getElem.1 hs i (k + j) (by omega) (by omega) (by omega)
/-- one more number put in its place -/
theorem sort_step {l : List Nat} {j x k : Nat} (hl : ∀ y ∈ l, y < bits64) (hx : l[j]? = some x) (hb : ∀ i y, k ≤ i → (sortB (l.take j))[i]? = some y → keyB x < keyB y) (ha : ∀ y, 0 < k → (sortB (l.take j))[k - 1]? = some y → ¬ keyB x < keyB y) (hk : k ≤ j) : insY (sortB (l.take j)) k x = sortB (l.take (j + 1)) := by
  have hj := (List.getElem?_eq_some_iff.1 hx).1
  refine sortB_uniq (fun y hy => hl y (List.mem_of_mem_take hy)) ?_ (insY_sorted (sortB_sorted _) hb ha (by rw [sortB_length, List.length_take]; omega))
  refine (insY_perm _ _ _).trans ?_
  rw [List.take_add_one, hx]
  exact ((sortB_perm _).cons x).trans (List.perm_append_comm (l₁ := [x]))
end Go.Proofs.YtidejikolcgojaaGreat.St

/- Stats: the document's list of sums, plainly. -/
import Derived.Test.YtidejikolcgojaaGreatSaA
namespace Go.Proofs.YtidejikolcgojaaGreat.St
open Go.RowKit Go.Shelf
open Go.Proofs.YtidejikolcgojaaGreat.Vb Go.Proofs.YtidejikolcgojaaGreat.Ac

/-- coins for a number, in a rising list -/
def addP (M : HM) (n c : Int) : HM := putM M n (IntKind.i64.wrap (atM M n + c))
theorem addS_P (f : Sale → Int) (M : HM) (s : Sale) : addS f M s = addP M (f s) s.coins := rfl
theorem insM_split {n v : Int} {B : HM} (hB : ∀ p, B[0]? = some p → n < p.1) : ∀ {A : HM}, (∀ a ∈ A, a.1 < n) → insM (n, v) (A ++ B) = A ++ (n, v) :: B
  | [], _ => by
    cases B with
    | nil => rfl
    | cons p B =>
      have h := hB p rfl
      show (if n < p.1 then _ else _) = _
      rw [if_pos h]
      rfl
  | a :: A, h => by
    have ha := h a (by simp)
    have ih := insM_split (v := v) hB (A := A) fun x hx => h x (by simp [hx])
    show (if n < a.1 then _ else _) = _
    rw [if_neg (by omega)]
    show a :: insM (n, v) (A ++ B) = _
    rw [ih]
    rfl
theorem spot_split {M : HM} (hr : Rising M) {n : Int} {q : Nat} (hq : q ≤ M.length) (hlt : ∀ i p, i < q → M[i]? = some p → p.1 < n) (hge : ∀ p, M[q]? = some p → n ≤ p.1) : ∀ a ∈ M.take q, a.1 < n := by
  intro a ha
  obtain ⟨i, hi, rfl⟩ := List.getElem_of_mem ha
  rw [List.length_take] at hi
  rw [List.getElem_take]
  exact hlt i _ (by omega) (List.getElem?_eq_getElem (by omega))
theorem at_none {M : HM} {n : Int} (h : ∀ p ∈ M, p.1 ≠ n) : atM M n = 0 := by
  unfold atM
  rw [List.find?_eq_none.2 (fun p hp => by simpa using h p hp)]
theorem drop_gt {M : HM} (hr : Rising M) {q : Nat} {p : Int × Int} (hp : M[q]? = some p) : ∀ x ∈ M.drop (q + 1), p.1 < x.1 := by
  intro x hx
  obtain ⟨hq, rfl⟩ := List.getElem?_eq_some_iff.1 hp
  obtain ⟨i, hi, rfl⟩ := List.getElem_of_mem hx
  rw [List.length_drop] at hi
  rw [List.getElem_drop]
  exact List.pairwise_iff_getElem.1 hr q (q + 1 + i) (by omega) (by omega) (by omega)
/-- the number is there -/
theorem addP_in {M : HM} (hr : Rising M) {n v c : Int} {q : Nat} (hlt : ∀ i p, i < q → M[i]? = some p → p.1 < n) (hp : M[q]? = some (n, v)) : addP M n c = M.set q (n, IntKind.i64.wrap (v + c)) := by
  have hq := (List.getElem?_eq_some_iff.1 hp).1
  have hA := spot_split hr (Nat.le_of_lt hq) hlt (fun p h => by rw [hp] at h; injection h with h; rw [← h]; exact Int.le_refl _)
  have hB := drop_gt hr hp
  have hM : M = M.take q ++ (n, v) :: M.drop (q + 1) := by
    have := List.take_append_drop q M
    rw [List.drop_eq_getElem_cons hq] at this
    have h2 : M[q] = (n, v) := by rw [List.getElem?_eq_getElem hq] at hp; injection hp
    rw [h2] at this
    exact this.symm
  have hat : atM M n = v := by
    have := atM_mem (r := M) (p := (n, v)) (((List.pairwise_map (f := fun p : Int × Int => p.1)).2 hr).imp fun h => Int.ne_of_lt h) (List.mem_of_getElem? hp)
    exact this
  unfold addP putM
  rw [hat]
  have hd : delM M n = M.take q ++ M.drop (q + 1) := by
    conv => lhs; rw [hM]
    unfold delM
    rw [List.filter_append, List.filter_cons]
    simp only [bne_self_eq_false, Bool.false_eq_true, if_false]
    congr 1
    · exact del_none fun p h => Int.ne_of_lt (hA p h)
    · exact del_none fun p h => by have := hB p h; simp at this; omega
  rw [hd, insM_split (fun p h => hB p (List.mem_of_getElem? h)) hA]
  rw [List.set_eq_take_append_cons_drop, if_pos hq]
/-- the number is new -/
theorem addP_new {M : HM} (hr : Rising M) {n c : Int} {q : Nat} (hq : q ≤ M.length) (hlt : ∀ i p, i < q → M[i]? = some p → p.1 < n) (hgt : ∀ p, M[q]? = some p → n < p.1) (hc : int64b c) : addP M n c = M.take q ++ (n, c) :: M.drop q := by
  have hA := spot_split hr hq hlt (fun p h => Int.le_of_lt (hgt p h))
  have hB : ∀ x ∈ M.drop q, n < x.1 := by
    intro x hx
    cases hp : M[q]? with
    | none =>
      have : M.length ≤ q := List.getElem?_eq_none_iff.1 hp
      rw [List.drop_eq_nil_of_le this] at hx
      cases hx
    | some p =>
      have h1 := hgt p hp
      obtain ⟨hq2, rfl⟩ := List.getElem?_eq_some_iff.1 hp
      rw [List.drop_eq_getElem_cons hq2] at hx
      rcases List.mem_cons.1 hx with rfl | hx
      · exact h1
      · have := drop_gt hr hp x hx
        omega
  have hno : ∀ p ∈ M, p.1 ≠ n := by
    intro p hp
    rw [← List.take_append_drop q M] at hp
    rcases List.mem_append.1 hp with hp | hp
    · exact Int.ne_of_lt (hA p hp)
    · have := hB p hp; omega
  unfold addP putM
  rw [at_none hno, del_none hno, Int.zero_add, IntWalk.i64_in c hc]
  conv => lhs; rw [← List.take_append_drop q M]
  refine insM_split (fun p h => hB p ?_) hA
  exact List.mem_of_getElem? h
theorem addP_rising {M : HM} (hr : Rising M) (n c : Int) : Rising (addP M n c) := rising_put _ _ hr
theorem addP_length {M : HM} (n c : Int) : (addP M n c).length ≤ M.length + 1 := putM_length _ _ _
theorem addP_ne {M : HM} (n c : Int) : addP M n c ≠ [] := by
  unfold addP putM
  intro h
  have := insM_length (n, IntKind.i64.wrap (atM M n + c)) (delM M n)
  rw [h] at this
  cases this

def pcells (l : HM) : List Value := l.flatMap fun p => [.int .i64 p.1, .int .i64 p.2]
theorem pcells_length (l : HM) : (pcells l).length = l.length * 2 := by
  unfold pcells
  induction l with
  | nil => rfl
  | cons p l ih => rw [List.flatMap_cons, List.length_append, ih, List.length_cons]; simp; omega
theorem pcells_append (l r : HM) : pcells (l ++ r) = pcells l ++ pcells r := by simp [pcells]
theorem pcells_fst : ∀ (l : HM) (k : Nat) (o : Int × Int), l[k]? = some o → (pcells l)[k * 2]? = some (.int .i64 o.1)
  | [], _, _, h => by simp at h
  | x :: l, 0, o, h => by
    obtain rfl : x = o := by simpa using h
    rfl
  | x :: l, k + 1, o, h => by
    rw [show (k + 1) * 2 = k * 2 + 1 + 1 by omega]
    exact pcells_fst l k o (by simpa using h)
theorem pcells_snd : ∀ (l : HM) (k : Nat) (o : Int × Int), l[k]? = some o → (pcells l)[k * 2 + 1]? = some (.int .i64 o.2)
  | [], _, _, h => by simp at h
  | x :: l, 0, o, h => by
    obtain rfl : x = o := by simpa using h
    rfl
  | x :: l, k + 1, o, h => by
    rw [show (k + 1) * 2 + 1 = k * 2 + 1 + 1 + 1 by omega]
    exact pcells_snd l k o (by simpa using h)
theorem pcells_one (l : HM) : ∀ u ∈ pcells l, u.oneCell' = true := by
  intro u hu
  unfold pcells at hu
  obtain ⟨p, _, hp⟩ := List.mem_flatMap.1 hu
  simp at hp
  rcases hp with rfl | rfl <;> rfl
theorem pcells_set : ∀ (l : HM) (k : Nat) (n v v' : Int), l[k]? = some (n, v) → (pcells l).set (k * 2 + 1) (.int .i64 v') = pcells (l.set k (n, v'))
  | [], _, _, _, _, h => by simp at h
  | x :: l, 0, n, v, v', h => by
    obtain rfl : x = (n, v) := by simpa using h
    rfl
  | x :: l, k + 1, n, v, v', h => by
    have ih := pcells_set l k n v v' (by simpa using h)
    rw [show (k + 1) * 2 + 1 = k * 2 + 1 + 1 + 1 by omega]
    show Value.int .i64 x.1 :: Value.int .i64 x.2 :: (pcells l).set (k * 2 + 1) _ = _
    rw [ih]
    rfl
theorem pcells_take (l : HM) (k : Nat) : (pcells l).take (k * 2) = pcells (l.take k) := by
  conv => lhs; rw [← List.take_append_drop k l, pcells_append]
  by_cases h : k ≤ l.length
  · rw [List.take_append_of_le_length (by rw [pcells_length, List.length_take]; omega), List.take_of_length_le (by rw [pcells_length, List.length_take]; omega)]
  · rw [List.drop_eq_nil_of_le (by omega), List.take_of_length_le]
    · simp [pcells]
    · rw [show pcells [] = [] from rfl, List.append_nil, pcells_length, List.length_take]; omega
theorem pcells_drop (l : HM) (k : Nat) (h : k ≤ l.length) : (pcells l).drop (k * 2) = pcells (l.drop k) := by
  conv => lhs; rw [← List.take_append_drop k l, pcells_append]
  rw [List.drop_append_of_le_length (by rw [pcells_length, List.length_take]; omega), List.drop_of_length_le (by rw [pcells_length, List.length_take]; omega)]
  rfl
end Go.Proofs.YtidejikolcgojaaGreat.St

/- Once: sorted rows of strings; a map's entries gone over, plainly. -/
import Derived.Test.YthkgemaajbjgaaaOnI
import Derived.Test.YthkgemaajbjgaaaLayOn
import Derived.Sort.OwnSorted
import Derived.Sort.KeysCollected
namespace Go.Proofs.Ythkgemaajbjgaaa.On
open Go.RowKit Go.Sort Go.Shelf
open Go.Proofs (encStr)
open Go.Proofs.Ythkgemaajbjgaaa.Vb Go.Proofs.Ythkgemaajbjgaaa.Ac

theorem et_str : ElemT Try.prog 67 9 1 16 := elemT_of Try.underlying67 (by omega) (z := .string ⟨#[]⟩) (by kernel_rfl) rfl
theorem sorts_own {w : World} {base n : Nat} {v : Value} {ss : List (List UInt8)} (hn : n = ss.length) (h : w.ownsRow base 9 1 v n (ss.map encStr)) (hsz : ss.length ≤ 1000000000) :
    Calls Try.prog 34 #[v] w fun e w' => e = .returned (.tuple #[]) ∧ w'.ownsRow base 9 1 v n ((ss.mergeSort leB).map encStr) ∧ Below base w w' := by
  subst hn
  rcases h.2 with ⟨hnil, _⟩ | ⟨g, cap, cur, rfl, hbase, hb, h1, h2, h3, h4⟩
  · have h0 : ss = [] := by
      have := h.1
      have hv := hnil
      subst hv
      rcases h.2 with ⟨_, h⟩ | ⟨g, cap, cur, hv, _⟩
      · simp_all
      · cases hv
    subst h0
    subst hnil
    refine (Any.slices_Sort_string_none on_sort none 0 w).mono ?_
    rintro e w' ⟨rfl, rfl⟩
    exact ⟨rfl, by rw [List.mergeSort_nil]; exact h, Below.refl _ _⟩
  · refine (Any.slices_Sort_string on_sort g 0 cap ss w (holds_of_block hb (by simpa using h4)) (Array.getElem?_eq_some_iff.1 hb).1 (by omega)).mono ?_
    rintro e w' ⟨rfl, n, os, rfl⟩
    refine ⟨rfl, ?_, ?_⟩
    · exact ownsRow_sorted (n := n) (os := os) (ss := ss) (ts := ss.mergeSort leB) (by simp) hbase hb h1 h2 (by simpa using h3)
    · exact (Below.refl base w).grown (grownBy_sorted _) (by have := (Array.getElem?_eq_some_iff.1 hb).1; omega) (fun k e => by cases e; exact hbase)
/-- the entries that were met, and count -/
def met (ov : MapEntry → Bool) (l : List MapEntry) (seen : Array Nat) : List MapEntry := l.filter fun x => seen.contains x.born && ov x
theorem met_other {ov : MapEntry → Bool} {seen : Array Nat} {b : Nat} : ∀ {l : List MapEntry}, b ∉ l.map (·.born) → met ov l (seen.push b) = met ov l seen := by
  intro l h
  unfold met
  refine List.filter_congr fun x hx => ?_
  have : x.born ≠ b := fun e => h (List.mem_map.2 ⟨x, hx, e⟩)
  have h2 : (x.born == b) = false := by simp [this]
  rw [contains_push, h2, Bool.or_false]
theorem met_push {ov : MapEntry → Bool} {seen : Array Nat} {e : MapEntry} (hs : seen.contains e.born = false) : ∀ {l : List MapEntry}, (l.map (·.born)).Nodup → e ∈ l → (met ov l (seen.push e.born)).Perm (met ov l seen ++ if ov e then [e] else [])
  | [], _, h => by cases h
  | x :: l, hn, h => by
    have h1 := List.nodup_cons.1 (by simpa using hn : (x.born :: l.map (·.born)).Nodup)
    rcases List.mem_cons.1 h with rfl | h
    · have e1 : met ov (e :: l) (seen.push e.born) = (if ov e then [e] else []) ++ met ov l (seen.push e.born) := by
        have h3 : ((seen.push e.born).contains e.born && ov e) = ov e := by rw [contains_push]; simp
        simp only [met, List.filter_cons]
        rw [h3]
        cases ov e <;> rfl
      have e2 : met ov (e :: l) seen = met ov l seen := by
        have h3 : (seen.contains e.born && ov e) = false := by rw [hs]; rfl
        simp only [met, List.filter_cons]
        rw [h3]
        rfl
      rw [e1, e2, met_other h1.1]
      exact List.perm_append_comm
    · have hne : x.born ≠ e.born := fun q => h1.1 (List.mem_map.2 ⟨e, h, q.symm⟩)
      have ih := met_push (ov := ov) hs h1.2 h
      have e1 : ∀ s : Array Nat, met ov (x :: l) s = (if seen.contains x.born && ov x then [x] else []) ++ met ov l s ∨ s.contains x.born ≠ seen.contains x.born := by
        intro s
        by_cases q : s.contains x.born = seen.contains x.born
        · left
          simp only [met, List.filter_cons, q]
          split <;> rfl
        · exact .inr q
      rcases e1 seen with q1 | q1
      · rcases e1 (seen.push e.born) with q2 | q2
        · rw [q1, q2, List.append_assoc]
          exact ih.append_left _
        · exact absurd (by rw [contains_push]; simp [hne]) q2
      · exact absurd rfl q1
theorem met_all {ov : MapEntry → Bool} {es : Array MapEntry} {seen : Array Nat} (h : (leftOf es seen).size = 0) : met ov es.toList seen = es.toList.filter ov := by
  unfold met
  refine List.filter_congr fun x hx => ?_
  rw [all_seen es seen h x hx]
  rfl
theorem met_none {ov : MapEntry → Bool} {l : List MapEntry} : met ov l #[] = [] := by simp [met]
end Go.Proofs.Ythkgemaajbjgaaa.On

/- Stats: rows of whole numbers that come in, opened. -/
import Derived.Test.YtidejikolcgojaaLawA
import Derived.Test.YtidejikolcgojaaStZ
namespace Go.Proofs.Ytidejikolcgojaa.St
open Go.RowKit Go.WideShapes Go.ChangeShapes Go.ChangeAt Go.Joins Go.Deep
open Go.Proofs.Ytidejikolcgojaa.Vb

theorem bd_i64' {n : Int} (h : (Lit.int .i64 n).wf = true) : -9223372036854775808 ≤ n ∧ n ≤ 9223372036854775807 := by
  simp [Lit.wf, IntKind.min, IntKind.max, IntKind.signed, IntKind.bits] at h
  omega
set_option maxRecDepth 100000 in
theorem open_nums {H : Type} {enc : TypeId × Value → H} {w : World} {base : Nat} {held : Bool} {r : Reach} {b0 : Nat} {v : Value} {d : DataW H} {p : List MemPlace}
    (hval : Value.okWide Try.prog w r b0 22 v) (h : DataW.Trod enc Try.prog w base (fun _ => true) held 22 v d p) : ∃ l : List Int, Sl w (fun _ => True) v l.length 1 (ints l) := by
  obtain ⟨A0, n0, c0, rfl⟩ := okWide_slice Try.underlying22 hval
  obtain ⟨fuel, h⟩ := h
  rcases open_slice1 Try.underlying22 (by kernel_rfl) h with ⟨hcs, _⟩ | ⟨a, len, cap, m, n, V, D, Pl, hcs, _, hl, hm, hmm, _, hi⟩
  · obtain ⟨rfl, rfl, rfl⟩ : A0 = none ∧ n0 = 0 ∧ c0 = 0 := by simpa [Value.cells] using hcs
    exact ⟨[], ⟨rfl, none, 0, rfl, Nat.le_refl _, Nat.zero_le _, fun h => absurd h (by simp)⟩⟩
  · obtain ⟨rfl, rfl, rfl⟩ : some a = A0 ∧ len = n0 ∧ cap = c0 := by simp [Value.cells] at hcs; exact ⟨hcs.1.symm, hcs.2.1.symm, hcs.2.2.symm⟩
    simp only [if_true] at hmm
    have hmm' := hmm.symm
    subst hmm'
    have each : ∀ i, i < len → ∃ x : Int, V i = .int .i64 x := fun i hlt => by
      obtain ⟨x, e, _, wx⟩ := DataW.trod_int Try.underlying2 (hi i (by omega)).2
      simp at e
      exact ⟨x, e⟩
    haveI : Inhabited Int := ⟨0⟩
    obtain ⟨F, hF⟩ := choose_lt each
    refine ⟨(List.range len).map F, ⟨by simp [ints], some a, cap, by simp, by simpa using hl, hm, fun h0' => ?_⟩⟩
    have h0'' : 0 < len := by simpa using h0'
    obtain ⟨b, off, rfl⟩ := addr_of_cell (w := w) (a := a) (hi 0 (by omega)).1
    refine ⟨b, off, rfl, trivial, World.block_lt_of_cell? w ⟨b, off, none⟩ (u := V 0) (by simpa [Addr.add] using (hi 0 (by omega)).1), fun j u hu => ?_⟩
    have hj : j < len := by simpa [ints] using (List.getElem?_eq_some_iff.1 hu).1
    have : u = V j := by
      unfold ints at hu
      rw [List.getElem?_map, List.getElem?_map, List.getElem?_range hj] at hu
      simp at hu
      rw [← hu, (hF j hj)]
    subst this
    rw [← add_lit']
    exact (hi j (by omega)).1
end Go.Proofs.Ytidejikolcgojaa.St

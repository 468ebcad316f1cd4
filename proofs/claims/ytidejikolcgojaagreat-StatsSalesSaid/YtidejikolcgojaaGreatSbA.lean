/- Stats: what the chapter's rows come to, computed. -/
import Derived.Test.YtidejikolcgojaaGreatSaC
import Derived.Test.YtidejikolcgojaaGreatStV
import Derived.Test.YtidejikolcgojaaGreatStN
import Derived.Test.YtidejikolcgojaaGreatStI
import Derived.Test.YtidejikolcgojaaGreatStX
namespace Go.Proofs.YtidejikolcgojaaGreat.St
open Go.RowKit Go.Shelf
open Go.Proofs.YtidejikolcgojaaGreat.Vb Go.Proofs.YtidejikolcgojaaGreat.Ac

abbrev n1 : Nat := 4607182418800017408
abbrev n2 : Nat := 4611686018427387904
abbrev n3 : Nat := 4613937818241073152
abbrev n4 : Nat := 4616189618054758400
abbrev n5 : Nat := 4617315517961601024
abbrev nm1 : Nat := 13830554455654793216
abbrev nNaN : Nat := 9221120237041090561
abbrev nHalf : Nat := 4602678819172646912
theorem k_sum : fzero (sumL (nums [n1, 6103021453049119613, n1, 15326393489903895421])) = some n2 := by kernel_rfl
theorem k_mean : fzero (meanL [n1, n2]) = some 4609434218613702656 := by kernel_rfl
theorem k_none : fzero (meanL []) = none := by kernel_rfl
theorem k_spread : fzero (spreadL [n1, n3]) = some n1 := by kernel_rfl
theorem k_sort1 : sortB [n4, n1, n2, n3] = [n1, n2, n3, n4] := (sortB_uniq (by decide) (by decide) (by decide)).symm
theorem k_mid : (if midNo nHalf [n4, n1, n2, n3] then none else fzero (midL nHalf [n4, n1, n2, n3])) = some 4612811918334230528 := by
  unfold midL
  rw [k_sort1]
  kernel_rfl
theorem k_okl : okL [n3, nNaN, nm1] = [n3, nm1] := by kernel_rfl
theorem k_sort2 : sortB [n3, nm1] = [nm1, n3] := (sortB_uniq (by decide) (by decide) (by decide)).symm
theorem k_endA : endA [n3, nNaN, nm1] = nm1 := by unfold endA; rw [k_okl, k_sort2]; rfl
theorem k_endB : endB [n3, nNaN, nm1] = n3 := by unfold endB; rw [k_okl, k_sort2]; rfl
theorem k_sort3 : sortB [0, 0, 0, n4] = [0, 0, 0, n4] := (sortB_uniq (by decide) (by decide) (by decide)).symm
theorem k_uneq : (if uneqNo [0, 0, 0, n4] then none else fzero (uneqL [0, 0, 0, n4])) = some 4604930618986332160 := by
  unfold uneqL
  rw [k_sort3]
  kernel_rfl
theorem k_shares : (if [n1, n1, n2] = [] then none else fzero (sharesL [n1, n1, n2])) = some 4600427019358961664 := by
  rw [if_neg (by decide)]
  kernel_rfl
theorem k_fitNo : fitNo [0, n1, n2] [n1, n3, n5] = false := by kernel_rfl
theorem k_fitAt : fzero (fitAt [0, n1, n2] [n1, n3, n5]) = some n1 := by kernel_rfl
theorem k_fitSl : fzero (fitSlope [0, n1, n2] [n1, n3, n5]) = some n2 := by kernel_rfl
theorem k_worth : fzero (worthF (some nHalf) (nums [n1, n2, n4])) = some n3 := by kernel_rfl
theorem k_turnR : turnR [n1, n2, n3, n4] = some 13835058055282163712 := by kernel_rfl
theorem k_turnI : turnI [n1, n2, n3, n4] = some 13835058055282163712 := by kernel_rfl
def kSales : List Sale := [⟨0, 0, 1, 5, 0, 0, 9⟩, ⟨0, 2, 1, 1, 0, 0, 4⟩]
theorem k_of : ofV kSales = #[.int .i64 2, .int .i64 2, .int .i64 1, .int .i64 6, .int .i64 4, .int .i64 9] := by kernel_rfl
theorem isF_lit {r c : Nat} {f : Fl} (h : IsF r f) (hf : f = some c) : r = c := by
  obtain ⟨_, h⟩ := h
  rw [hf] at h
  unfold cn at h
  split at h
  · cases h
  · injection h
theorem isF_none {r : Nat} {f : Fl} (h : IsF r f) (hf : f = none) : isN r = true := by
  obtain ⟨_, h⟩ := h
  rw [hf] at h
  unfold cn at h
  split at h
  · assumption
  · cases h
theorem eq_fl (x y : Nat) (w : World) : (Op.equalIn 9999 27 (.float .f64 x) (.float .f64 y)).run Tryz.prog w = .ok (FloatKind.f64.format.order x y == some .eq) w := by
  rw [show (9999 : Nat) = 9998 + 1 from rfl]
  unfold Op.equalIn
  rw [Sem.run_bind, run_underlying Tryz.underlying27]
  rfl
theorem fls_new (w : World) (l : List Nat) (t : TypeId) (hl : l.length ≤ 1000) (h : ∀ x ∈ l, x < bits64) : Fls (w.alloc (.cells (flts l).toArray t)) (· = w.heap.size) (.slice (some ⟨w.heap.size, 0, none⟩) l.length l.length) l :=
  ⟨by simpa using Sl.new w (flts l).toArray t l.length 1 (by unfold maxLen; omega) (by simp [flts]), h⟩
theorem fls_new' {w : World} (g : Nat) (l : List Nat) (t : TypeId) (hg : g = w.heap.size) (hl : l.length ≤ 1000) (h : ∀ x ∈ l, x < bits64) : Fls (w.alloc (.cells (flts l).toArray t)) (· = g) (.slice (some ⟨g, 0, none⟩) l.length l.length) l := by
  subst hg
  exact fls_new w l t hl h
end Go.Proofs.YtidejikolcgojaaGreat.St

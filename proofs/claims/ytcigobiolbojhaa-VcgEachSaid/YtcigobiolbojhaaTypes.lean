/- The element types' rows; slices.Clone. -/
import Derived.Test.YtcigobiolbojhaaOwn
import Derived.Test.YtcigobiolbojhaaInst2
namespace Go.Proofs.Ytcigobiolbojhaa.Vb
open Go.RowKit

theorem et_off : ElemT Try.prog 41 45 2 16 := elemT_of Try.underlying41 (by omega) (z := .agg #[.int .u32 0, .int .i64 0]) (by kernel_rfl) rfl
theorem et_offs : ElemT Try.prog 22 41 1 24 := elemT_of Try.underlying22 (by omega) (z := .slice none 0 0) (by kernel_rfl) rfl
theorem et_i64 : ElemT Try.prog 34 2 1 8 := elemT_of Try.underlying34 (by omega) (z := .int .i64 0) (by kernel_rfl) rfl
theorem et_int : ElemT Try.prog 33 3 1 8 := elemT_of Try.underlying33 (by omega) (z := .int .i64 0) (by kernel_rfl) rfl

theorem Off.all_one (l : List Off) : ∀ u ∈ Off.all l, u.oneCell' = true := by
  intro u hu
  simp only [Off.all, List.mem_flatMap] at hu
  obtain ⟨o, _, ho⟩ := hu
  simp [Off.cells] at ho
  rcases ho with rfl | rfl <;> rfl

set_option maxHeartbeats 400000 in
theorem clone_off (xs : List Value) (n : Nat) (v : Value) (R : Nat → Prop) (w : World) (hl : Sl w R v n 2 xs) (h1 : ∀ u ∈ xs, u.oneCell' = true) (hb : n * 16 ≤ 140737488355328) :
    Calls Try.prog 115 #[v] w fun e w' => ∃ A' cap', e = .returned (.slice A' n cap') ∧ w'.ownsRow w.heap.size 45 2 (.slice A' n cap') n xs ∧ Below w.heap.size w w' := by
  obtain ⟨hlen, A, cap, rfl, hncap, hcap, hcells⟩ := id hl
  have HS := Lib.hid hl
  clear hl hcells
  have hq := fun (W : World) (a : Option Addr) => Lib.run_eql_slice_nil (P := Try.prog) W 41 45 a n cap 0 0 Try.underlying41
  cases A with
  | none =>
    have hn : n = 0 := by
      obtain ⟨_, A, c, h, _, _, hc⟩ := HS.out
      injection h with hA _ _
      subst hA
      rcases Nat.eq_zero_or_pos n with h0 | h0
      · exact h0
      · obtain ⟨b, off, h, _⟩ := hc h0
        cases h
    subst hn
    have hx : xs = [] := List.eq_nil_of_length_eq_zero (by simpa using hlen)
    subst hx
    go_enter Try.func115, Try.ntmps115
    go_wp2
    go_ret
    exact ⟨none, 0, rfl, World.ownsRow_nil _ _ _ _, Below.refl _ _⟩
  | some ad =>
    clear hlen
    go_enter Try.func115, Try.ntmps115
    go_wp2_with (at_builtin; refine wpList_app _ rfl (.tmp 5) (.tmp 6) et_off rfl w.heap.size (.slice (some ⟨w.heap.size, 0, none⟩) 0 0) 0 [] rfl (World.ownsRow_lit w #[] 0 (Nat.le_refl _) (Nat.zero_le _) rfl) R _ n xs rfl (HS.out.alloc _) h1 (by omega) (by unfold maxLen; omega) (by simp) ?_; intro A' cap' w1 hown hg hloc)
    go_ret
    refine ⟨A', cap', by simp, by simpa using hown, ((Below.refl _ _).alloc (Nat.le_refl _) _).grown hg (by simp) (by simp [Value.ownBlock])⟩
end Go.Proofs.Ytcigobiolbojhaa.Vb

/- Stats: its map of sums; the sales in memory. -/
import Derived.Test.YtidejikolcgojaaGreatStR
import Derived.Test.YtidejikolcgojaaGreatAccO
import Derived.Test.YtidejikolcgojaaGreatRangeX
namespace Go.Proofs.YtidejikolcgojaaGreat.St
open Go.RowKit Go.Shelf Go.Maps
open Go.Proofs.YtidejikolcgojaaGreat.Vb Go.Proofs.YtidejikolcgojaaGreat.Ac
attribute [local go_sem] Oper.semAt_some

theorem rising_keys {M : HM} (h : Rising M) : (M.map (·.1)).Pairwise (· < ·) := List.pairwise_map.2 h
theorem sorted_keys {M : HM} (h : Rising M) {ss : List Int} (hp : ss.Perm (M.map (·.1))) : ss.mergeSort (fun x y => decide (x ≤ y)) = M.map (·.1) := by
  refine List.Perm.eq_of_pairwise (le := fun x y => x ≤ y) (fun a b _ _ h1 h2 => Int.le_antisymm h1 h2) ?_ ?_ ((List.mergeSort_perm _ _).trans hp)
  · have := List.pairwise_mergeSort (le := fun (x y : Int) => decide (x ≤ y)) (fun a b c h1 h2 => by simp at *; omega) (fun a b => by simp; omega) ss
    exact this.imp fun h => by simpa using h
  · exact (rising_keys h).imp fun h => Int.le_of_lt h
def int64b (x : Int) : Prop := -9223372036854775808 ≤ x ∧ x ≤ 9223372036854775807
theorem int_keyed' : Keyed Tryz.prog 3 := Maps.int_keyed Tryz.underlying3
theorem i64wf {x : Int} (h : int64b x) : (Lit.int .i64 x).wf = true := WalkArith.wf_i64 (by unfold int64b at h; omega)
theorem wrap_in (x : Int) : int64b (IntKind.i64.wrap x) := by
  unfold int64b IntKind.wrap
  simp only [IntKind.bits, IntKind.signed, Bool.true_and, ge_iff_le, decide_eq_true_eq]
  split <;> omega
/-- the map of the sums -/
def SumAt (W : World) (m n : Nat) (M : HM) : Prop := W.ownsMap Tryz.prog 3 (plainElem (H := Unit) Tryz.prog 2) m n (dM M)
theorem SumAt.lt {W : World} {m n : Nat} {M : HM} (h : SumAt W m n M) : m < W.heap.size := World.ownsMap.lt h
theorem SumAt.same {W W' : World} {m n : Nat} {M : HM} (h : SumAt W m n M) (hb : W'.heap[m]? = W.heap[m]?) : SumAt W' m n M := by
  obtain ⟨es, clock, h1, h2⟩ := h
  exact ⟨es, clock, hb.trans h1, h2⟩
theorem SumAt.grow {W W' : World} {m n : Nat} {M : HM} (h : SumAt W m n M) (hb : Below W.heap.size W W') : SumAt W' m n M := h.same (hb.block m h.lt)
theorem SumAt.made (W : World) : SumAt (W.alloc (.map #[] 0)) W.heap.size 0 [] := World.ownsMap_made W Tryz.prog 3 _
theorem SumAt.look {W : World} {m n : Nat} {M : HM} (h : SumAt W m n M) {x : Int} (hx : int64b x) :
    (Instr.lookup 100 (.map (some m)) (.int .i64 x) false).run Tryz.prog W = .ok (.int .i64 (atM M x)) W := by
  obtain ⟨c, hrun, hat, _⟩ := World.ownsMap.lookup_int h int_keyed' Tryz.underlying100 Tryz.underlying2 (Tryz.zeroValue2 _) (Maps.keyOf_int_mk Tryz.underlying3 (i64wf hx))
  rw [dM_at] at hat
  exact hrun.trans (by rw [(Lit.int.inj (DataW.lit.inj hat)).2])
theorem SumAt.put {W : World} {m n : Nat} {M : HM} (h : SumAt W m n M) (hn : n < maxLen) {x v : Int} (hx : int64b x) (hv : int64b v) :
    ∃ W', (Instr.mapUpdate 100 (.map (some m)) (.int .i64 x) (.int .i64 v)).run Tryz.prog W = .ok () W' ∧ SumAt W' m (n + 1) (putM M x v) ∧ Chg (· = m) W W' := by
  obtain ⟨W', hrun, h1, h2⟩ := World.ownsMap.update h int_keyed' Tryz.underlying100 hn (Maps.keyOf_int_mk Tryz.underlying3 (i64wf hx)) (plainElem_int Tryz.underlying2 (i64wf hv))
  rw [dM_put] at h1
  exact ⟨W', hrun, h1, (Chg.grown h2).mono fun k _ e => by injection e⟩

theorem keys_any (mb : Option Nat) (W : World) :
    Calls Tryz.prog 91 #[.map mb] W fun e w' => e = .returned (.func (.func 99) #[] #[.pointer (some ⟨W.heap.size, 0, none⟩)]) ∧ w' = W.alloc (.cells #[.map mb] 100) :=
  (callsIn_wide (n := 5)).1 (AnyZI.keys_in st_keysA Fence.wide 5 trivial rfl mb W)
theorem sorts_in (m : Nat) : AnyZI.SortsIn Tryz.prog st_sortedA_ren Fence.wide m :=
  ⟨fun blk off cap ss W hH hblk hsz => callsIn_wide.2 (Any.slices_Sort_int st_sortA blk off cap ss W hH hblk hsz),
   fun p cap W => callsIn_wide.2 (Any.slices_Sort_int_none st_sortA p cap W)⟩
theorem sorted_any {W : World} {g m n : Nat} {M : HM} (hr : Rising M) (hl : M.length ≤ 1099511627776) (hg : W.cell? ⟨g, 0, none⟩ = some (.map (some m))) (hown : SumAt W m n M) :
    Calls Tryz.prog 90 #[.func (.func 99) #[] #[.pointer (some ⟨g, 0, none⟩)]] W fun e w' => ∃ v, e = .returned v ∧ w'.ownsRow W.heap.size 3 1 v M.length ((M.map (·.1)).map (Value.int .i64)) ∧ Below W.heap.size W w' := by
  have hseq : SeqGives Fence.wide 2 Tryz.prog 99 #[.pointer (some ⟨g, 0, none⟩)] encZ (fun ss => ss.Perm (intKeys (dM M))) (Maps.size (dM M)) W :=
    AnyZI.keys_gives (ρ := st_keysA_ren) { st_keysA with } Fence.wide _ trivial rfl (by omega) g m n (dM M) _ (World.block_lt_of_cell? W ⟨g, 0, none⟩ hg) hg hown
  refine (callsIn_wide (n := 5)).1 ((show CallsIn Fence.wide 5 Tryz.prog 90 #[.func (.func 99) #[] #[.pointer (some ⟨g, 0, none⟩)]] W _ from
    AnyZI.sorted_in st_sortedA Fence.wide 5 trivial trivial trivial trivial rfl (by omega) (sorts_in _) (enters_of Tryz.func98 (by kernel_rfl) rfl) 99 #[.pointer (some ⟨g, 0, none⟩)] trivial (enters_of Tryz.func99 (by kernel_rfl) rfl) _ _ (by rw [dM_size]; unfold maxLen; omega) (by rw [dM_size]; omega) W hseq).mono ?_)
  rintro e w' ⟨v, ss, rfl, hS, hrow, _, hb⟩
  rw [dM_keys] at hS
  have hlen : ss.length = M.length := by rw [hS.length_eq]; simp
  rw [sorted_keys hr hS, hlen] at hrow
  exact ⟨v, rfl, hrow, hb⟩
end Go.Proofs.YtidejikolcgojaaGreat.St

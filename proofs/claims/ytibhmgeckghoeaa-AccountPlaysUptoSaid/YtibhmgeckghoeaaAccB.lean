/- Account: maps.Clone, slices.Sorted(maps.Keys), maps.Equal at its map. -/
import Derived.Test.YtibhmgeckghoeaaAccA
namespace Go.Proofs.Ytibhmgeckghoeaa.Ac
open Go.RowKit Go.Shelf Go.Maps
open Go.Proofs.Ytibhmgeckghoeaa.Vb
attribute [local go_sem] Oper.semAt_some

theorem rising_keys {M : HM} (h : Rising M) : (M.map (·.1)).Pairwise (· < ·) := List.pairwise_map.2 h
theorem sorted_keys {M : HM} (h : Rising M) {ss : List Int} (hp : ss.Perm (M.map (·.1))) : ss.mergeSort (fun x y => decide (x ≤ y)) = M.map (·.1) := by
  refine List.Perm.eq_of_pairwise (le := fun x y => x ≤ y) (fun a b _ _ h1 h2 => Int.le_antisymm h1 h2) ?_ ?_ ((List.mergeSort_perm _ _).trans hp)
  · have := List.pairwise_mergeSort (le := fun (x y : Int) => decide (x ≤ y)) (fun a b c h1 h2 => by simp at *; omega) (fun a b => by simp; omega) ss
    exact this.imp fun h => by simpa using h
  · exact (rising_keys h).imp fun h => Int.le_of_lt h

theorem sub_len : ∀ {M N : HM}, Rising M → Rising N → (∀ p ∈ M, p ∈ N) → M.length ≤ N.length ∧ (M.length = N.length → M = N)
  | [], [], _, _, _ => ⟨Nat.le_refl _, fun _ => rfl⟩
  | [], y :: r, _, _, _ => ⟨by simp, fun h => by simp at h⟩
  | x :: l, [], _, _, h => absurd (h x (by simp)) (by simp)
  | x :: l, y :: r, hM, hN, h => by
    obtain ⟨x1, x2⟩ := List.pairwise_cons.1 hM
    obtain ⟨y1, y2⟩ := List.pairwise_cons.1 hN
    have hxy : y.1 ≤ x.1 := by
      rcases List.mem_cons.1 (h x (by simp)) with rfl | hx
      · exact Int.le_refl _
      · exact Int.le_of_lt (y1 x hx)
    have hl : ∀ p ∈ l, p ∈ r := fun p hp => by
      rcases List.mem_cons.1 (h p (by simp [hp])) with rfl | hq
      · have := x1 p hp
        omega
      · exact hq
    obtain ⟨i1, i2⟩ := sub_len x2 y2 hl
    refine ⟨by simpa using i1, fun he => ?_⟩
    rcases List.mem_cons.1 (h x (by simp)) with rfl | hx
    · rw [i2 (by simpa using he)]
    · have hall : ∀ p ∈ x :: l, p ∈ r := fun p hp => by
        rcases List.mem_cons.1 hp with rfl | hp
        · exact hx
        · exact hl p hp
      have := (sub_len (M := x :: l) hM y2 hall).1
      simp at this he
      omega
termination_by M N => N.length

/-- what '==' says of two numbers, as data -/
def litEq : DataW Unit → DataW Unit → Bool
  | .lit (.int _ a), .lit (.int _ b) => decide (a = b)
  | _, _ => false
theorem at_find {N : HM} {k v : Int} (h : N.find? (fun q => q.1 == k) = some (k, v)) : (k, v) ∈ N := List.mem_of_find?_eq_some h
theorem goodD_dM {N : HM} {p : Int × Int} (hN : Rising N) : Lib.goodD litEq (dM N) (encH p) = decide (p ∈ N) := by
  have hf := find_encH p.1 N
  have hhas : Maps.has (dM N) (encH p).1 = (N.find? (fun q => q.1 == p.1)).isSome := by
    show (N.map encH).any (fun q => q.1.sameKey (.int .i64 p.1)) = _
    rw [Bool.eq_iff_iff, List.any_eq_true, ← List.find?_isSome, hf]
    simp
  unfold Lib.goodD
  rw [hhas]
  have hat : (dM N).atKey (encH p).1 .nil = match N.find? (fun q => q.1 == p.1) with | some q => .lit (.int .i64 q.2) | none => .nil := by
    show (dM N).atKey (.int .i64 p.1) .nil = _
    unfold dM DataW.atKey
    simp only []
    rw [hf]
    cases N.find? (fun q => q.1 == p.1) <;> rfl
  rw [hat]
  cases hc : N.find? (fun q => q.1 == p.1) with
  | none =>
    have : p ∉ N := fun hp => by
      have := List.find?_eq_none.1 hc p hp
      simp at this
    simp [this]
  | some q =>
    have hq1 : q.1 = p.1 := by simpa using List.find?_some hc
    have hq := List.mem_of_find?_eq_some hc
    show (true && decide (p.2 = q.2)) = _
    rw [Bool.true_and]
    by_cases he : p.2 = q.2
    · have : p = q := Prod.ext hq1.symm he
      simp [he, this, hq]
    · have hnot : p ∉ N := fun hp => by
        apply he
        obtain ⟨i, hi, hpi⟩ := List.getElem_of_mem hp
        obtain ⟨j, hj, hqj⟩ := List.getElem_of_mem hq
        have hk := rising_keys hN
        rcases Nat.lt_trichotomy i j with h | h | h
        · have := List.pairwise_iff_getElem.1 hN i j hi hj h
          rw [hpi, hqj] at this
          omega
        · subst h
          rw [← hpi, ← hqj]
        · have := List.pairwise_iff_getElem.1 hN j i hj hi h
          rw [hpi, hqj] at this
          omega
      simp [he, hnot]
theorem equalD_dM {M N : HM} (hM : Rising M) (hN : Rising N) : Lib.equalFuncD litEq (dM M) (dM N) = decide (M = N) := by
  unfold Lib.equalFuncD
  rw [dM_size, dM_size]
  have hall : (Lib.entriesD (dM M)).all (Lib.goodD litEq (dM N)) = M.all fun p => decide (p ∈ N) := by
    show (M.map encH).all _ = _
    rw [List.all_map]
    congr 1
    funext p
    exact goodD_dM hN
  rw [hall, Bool.eq_iff_iff]
  simp only [Bool.and_eq_true, decide_eq_true_eq, List.all_eq_true]
  constructor
  · rintro ⟨h1, h2⟩
    exact (sub_len hM hN h2).2 h1
  · rintro rfl
    exact ⟨rfl, fun p hp => hp⟩

theorem neq_lit (W : World) (x y : Value) (xd yd : DataW Unit) (xp yp : List MemPlace) (hx : plainElem Try.prog 2 x = some (xd, xp)) (hy : plainElem Try.prog 2 y = some (yd, yp)) :
    (binOp .neq 2 x y).run Try.prog W = .ok (.bool (!litEq xd yd)) W ∧ ∀ (a b : Operand), (eqGuard .neq 2 a b x y).run Try.prog W = .ok () W := by
  obtain ⟨a, rfl, h1, _⟩ := plainElem_int_inv Try.underlying2 hx
  obtain ⟨b, rfl, h2, _⟩ := plainElem_int_inv Try.underlying2 hy
  obtain rfl : xd = .lit (.int .i64 a) := by simpa using (congrArg Prod.fst h1)
  obtain rfl : yd = .lit (.int .i64 b) := by simpa using (congrArg Prod.fst h2)
  refine ⟨?_, fun _ _ => by rw [eqGuard_at_int]; rfl⟩
  simp [go_sem, litEq, binOp]
  rfl

theorem equal_any {W : World} {b1 b2 m1 m2 n1 n2 : Nat} {a1 a2 : Acc} (h1 : AccAt W b1 m1 n1 a1) (h2 : AccAt W b2 m2 n2 a2) (r1 : Rising a1.M) (r2 : Rising a2.M) :
    Calls Try.prog 39 #[.map (some m1), .map (some m2)] W fun e w' => e = .returned (.bool (decide (a1.M = a2.M))) ∧ Below W.heap.size W w' := by
  refine (show Calls Try.prog 39 #[.map (some m1), .map (some m2)] W _ from
    AnyEq.maps_Equal_opt ac_equalA int_keyed' (plainElem Try.prog 2) (plainElem Try.prog 2) litEq (some m1) (some m2) (dM a1.M) (dM a2.M) W (.inr ⟨m1, n1, rfl, h1.own⟩) (.inr ⟨m2, n2, rfl, h2.own⟩) (.int .i64 0) Try.zeroValue2 (.lit (.int .i64 0)) [] (plainElem_int Try.underlying2 (by decide)) neq_lit).mono ?_
  rintro e w' ⟨rfl, hg⟩
  refine ⟨by rw [equalD_dM r1 r2], ⟨hg.os, hg.tape, hg.output, hg.size, fun k hk => hg.block k hk (by simp)⟩⟩

theorem clone_any {W : World} {b m n : Nat} {a : Acc} (h : AccAt W b m n a) :
    Calls Try.prog 42 #[.map (some m)] W fun e w' => e = .returned (.map (some W.heap.size)) ∧ w'.ownsMap Try.prog 3 (plainElem (H := Unit) Try.prog 2) W.heap.size n (dM a.M) ∧ Below W.heap.size W w' :=
  (show Calls Try.prog 42 #[.map (some m)] W _ from AnyW.maps_Clone_owns ac_cloneA 3 (plainElem (H := Unit) Try.prog 2) m n (dM a.M) W h.own).mono fun _ _ ⟨h1, h2, _, h4⟩ => ⟨h1, h2, h4⟩

theorem keys_any (mb : Option Nat) (W : World) :
    Calls Try.prog 58 #[.map mb] W fun e w' => e = .returned (.func (.func 70) #[] #[.pointer (some ⟨W.heap.size, 0, none⟩)]) ∧ w' = W.alloc (.cells #[.map mb] 65) :=
  (callsIn_wide (n := 5)).1 (AnyZI.keys_in ac_keysA Fence.wide 5 trivial rfl mb W)
theorem sorts_in (m : Nat) : AnyZI.SortsIn Try.prog ac_sortedA_ren Fence.wide m :=
  ⟨fun blk off cap ss W hH hblk hsz => callsIn_wide.2 (Any.slices_Sort_int ac_sortA blk off cap ss W hH hblk hsz),
   fun p cap W => callsIn_wide.2 (Any.slices_Sort_int_none ac_sortA p cap W)⟩
theorem sorted_any {W : World} {g m n : Nat} {M : HM} (hr : Rising M) (hl : M.length ≤ 1099511627776) (hg : W.cell? ⟨g, 0, none⟩ = some (.map (some m))) (hown : W.ownsMap Try.prog 3 (plainElem (H := Unit) Try.prog 2) m n (dM M)) :
    Calls Try.prog 57 #[.func (.func 70) #[] #[.pointer (some ⟨g, 0, none⟩)]] W fun e w' => ∃ v, e = .returned v ∧ w'.ownsRow W.heap.size 3 1 v M.length ((M.map (·.1)).map (Value.int .i64)) ∧ Below W.heap.size W w' := by
  have hseq : SeqGives Fence.wide 2 Try.prog 70 #[.pointer (some ⟨g, 0, none⟩)] encZ (fun ss => ss.Perm (intKeys (dM M))) (Maps.size (dM M)) W :=
    AnyZI.keys_gives (ρ := ac_keysA_ren) { ac_keysA with } Fence.wide _ trivial rfl (by omega) g m n (dM M) _ (World.block_lt_of_cell? W ⟨g, 0, none⟩ hg) hg hown
  refine (callsIn_wide (n := 5)).1 ((show CallsIn Fence.wide 5 Try.prog 57 #[.func (.func 70) #[] #[.pointer (some ⟨g, 0, none⟩)]] W _ from
    AnyZI.sorted_in ac_sortedA Fence.wide 5 trivial trivial trivial trivial rfl (by omega) (sorts_in _) (enters_of Try.func69 (by kernel_rfl) rfl) 70 #[.pointer (some ⟨g, 0, none⟩)] trivial (enters_of Try.func70 (by kernel_rfl) rfl) _ _ (by rw [dM_size]; unfold maxLen; omega) (by rw [dM_size]; omega) W hseq).mono ?_)
  rintro e w' ⟨v, ss, rfl, hS, hrow, _, hb⟩
  rw [dM_keys] at hS
  have hlen : ss.length = M.length := by rw [hS.length_eq]; simp
  rw [sorted_keys hr hS, hlen] at hrow
  exact ⟨v, rfl, hrow, hb⟩
end Go.Proofs.Ytibhmgeckghoeaa.Ac

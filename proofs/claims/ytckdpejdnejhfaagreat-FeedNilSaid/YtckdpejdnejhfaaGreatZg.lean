/- Joined by program: AccP. -/
import Derived.Lib.SlKeysI
import Derived.Lib.SlMapEqual
import Derived.Maps.Views
import Derived.Maps.Own
/- Account: what is held, plainly: a list of lots with coins, by rising lots. -/
set_option linter.all false
namespace Go.Proofs.YtckdpejdnejhfaaGreat.Ac
open Go Go.Maps

abbrev HM := List (Int × Int)
def encH (p : Int × Int) : Lit × DataW Unit := (.int .i64 p.1, .lit (.int .i64 p.2))
def dM (M : HM) : DataW Unit := .map (M.map encH)
def insM (x : Int × Int) : HM → HM
  | [] => [x]
  | y :: r => if x.1 < y.1 then x :: y :: r else y :: insM x r
def delM (M : HM) (k : Int) : HM := M.filter fun p => p.1 != k
def putM (M : HM) (k v : Int) : HM := insM (k, v) (delM M k)
def atM (M : HM) (k : Int) : Int := match M.find? (fun p => p.1 == k) with | some p => p.2 | none => 0
def sumM : HM → Int
  | [] => 0
  | p :: r => p.2 + sumM r
/-- what hold, release and pay do to what is held for a lot -/
def setM (M : HM) (k v : Int) : HM := if v = 0 then delM M k else putM M k v

theorem encH_ins (x : Int × Int) : ∀ M : HM, DataW.insert (encH x) (M.map encH) = (insM x M).map encH
  | [] => rfl
  | y :: r => by
    have ih := encH_ins x r
    simp only [List.map_cons, DataW.insert, insM]
    have hb : ((encH x).1.before (encH y).1) = decide (x.1 < y.1) := rfl
    rw [hb]
    by_cases h : x.1 < y.1
    · simp [h]
    · simp [h, ih]
theorem encH_fil (M : HM) (k : Int) : ((M.map encH).filter fun p => !p.1.sameKey (.int .i64 k)) = (delM M k).map encH := by
  unfold delM
  rw [List.filter_map]
  congr 1
  apply List.filter_congr
  intro p _
  simp [encH, Lit.sameKey, Function.comp, bne]
  by_cases h : p.1 = k <;> simp [h]
theorem dM_put (M : HM) (k v : Int) : (dM M).put (.int .i64 k) (.lit (.int .i64 v)) = dM (putM M k v) := by
  show DataW.map (DataW.insert _ ((M.map encH).filter fun p => !p.1.sameKey (.int .i64 k))) = _
  rw [encH_fil]
  exact congrArg DataW.map (encH_ins (k, v) (delM M k))
theorem dM_del (M : HM) (k : Int) : (dM M).del (.int .i64 k) = dM (delM M k) := by
  show DataW.map ((M.map encH).filter fun p => !p.1.sameKey (.int .i64 k)) = _
  rw [encH_fil]
  rfl
theorem find_encH (k : Int) : ∀ M : HM, (M.map encH).find? (fun p => p.1.sameKey (.int .i64 k)) = (M.find? (fun p => p.1 == k)).map encH
  | [] => rfl
  | y :: r => by
    have ih := find_encH k r
    have hs : (encH y).1.sameKey (.int .i64 k) = (y.1 == k) := by
      simp [encH, Lit.sameKey]
      by_cases h : y.1 = k <;> simp [h]
    simp only [List.map_cons, List.find?_cons, hs]
    cases y.1 == k with
    | true => rfl
    | false => exact ih
theorem dM_at (M : HM) (k : Int) : (dM M).atKey (.int .i64 k) (.lit (.int .i64 0)) = .lit (.int .i64 (atM M k)) := by
  unfold dM DataW.atKey
  simp only []
  rw [find_encH]
  unfold atM
  cases M.find? (fun p => p.1 == k) with
  | none => rfl
  | some p => rfl
theorem dM_keys (M : HM) : intKeys (dM M) = M.map (·.1) := by
  show (M.map encH).map (fun p => intOf p.1) = _
  rw [List.map_map]
  rfl
theorem dM_size (M : HM) : Maps.size (dM M) = M.length := by simp [dM, Maps.size]

theorem insM_perm (x : Int × Int) : ∀ M : HM, (insM x M).Perm (x :: M)
  | [] => List.Perm.refl _
  | y :: r => by
    unfold insM
    split
    · exact List.Perm.refl _
    · exact ((insM_perm x r).cons y).trans (List.Perm.swap x y r)
theorem sumM_cons (x : Int × Int) (M : HM) : sumM (x :: M) = x.2 + sumM M := rfl
theorem sum_perm {l l' : HM} (h : l.Perm l') : sumM l = sumM l' := by
  induction h with
  | nil => rfl
  | cons x _ ih => rw [sumM_cons, sumM_cons, ih]
  | swap x y l => rw [sumM_cons, sumM_cons, sumM_cons, sumM_cons]; omega
  | trans _ _ h1 h2 => exact h1.trans h2
/-- no lot twice, by rising lots -/
def Rising (M : HM) : Prop := M.Pairwise fun p q => p.1 < q.1
theorem del_none {M : HM} {k : Int} (h : ∀ p ∈ M, p.1 ≠ k) : delM M k = M := List.filter_eq_self.2 fun p hp => by simpa using h p hp
theorem sum_del : ∀ {M : HM} (k : Int), Rising M → sumM (delM M k) + atM M k = sumM M
  | [], k, _ => rfl
  | y :: r, k, h => by
    obtain ⟨h1, h2⟩ := List.pairwise_cons.1 h
    by_cases hy : y.1 = k
    · have hn : ∀ p ∈ r, p.1 ≠ k := fun p hp => by have := h1 p hp; omega
      have e1 : delM (y :: r) k = r := by
        have : delM (y :: r) k = delM r k := by simp [delM, hy]
        rw [this, del_none hn]
      have e2 : atM (y :: r) k = y.2 := by simp [atM, List.find?_cons, hy]
      rw [e1, e2, sumM_cons]
      omega
    · have ih := sum_del (M := r) k h2
      have e1 : delM (y :: r) k = y :: delM r k := by simp [delM, hy]
      have e2 : atM (y :: r) k = atM r k := by simp [atM, List.find?_cons, hy]
      rw [e1, e2, sumM_cons, sumM_cons]
      omega
theorem sum_put {M : HM} (k v : Int) (h : Rising M) : sumM (putM M k v) = sumM M - atM M k + v := by
  unfold putM
  rw [sum_perm (insM_perm _ _), sumM_cons]
  have := sum_del k h
  simp only
  omega
theorem sum_set {M : HM} (k v : Int) (h : Rising M) : sumM (setM M k v) = sumM M - atM M k + v := by
  unfold setM
  split
  · have := sum_del k h
    omega
  · exact sum_put k v h
theorem rising_del {M : HM} (k : Int) (h : Rising M) : Rising (delM M k) := h.filter _
theorem rising_ins {x : Int × Int} : ∀ {M : HM}, Rising M → (∀ p ∈ M, p.1 ≠ x.1) → Rising (insM x M)
  | [], _, _ => by simp [insM, Rising]
  | y :: r, h, hn => by
    obtain ⟨h1, h2⟩ := List.pairwise_cons.1 h
    unfold insM
    split
    · rename_i hlt
      refine List.pairwise_cons.2 ⟨fun p hp => ?_, h⟩
      rcases List.mem_cons.1 hp with rfl | hp
      · exact hlt
      · have := h1 p hp
        omega
    · rename_i hlt
      have hy := hn y (by simp)
      refine List.pairwise_cons.2 ⟨fun p hp => ?_, rising_ins h2 (fun p hp => hn p (by simp [hp]))⟩
      rcases List.mem_cons.1 ((insM_perm x r).mem_iff.1 hp) with rfl | hp
      · omega
      · exact h1 p hp
theorem rising_put {M : HM} (k v : Int) (h : Rising M) : Rising (putM M k v) := rising_ins (rising_del k h) fun p hp => by
  have := (List.mem_filter.1 hp).2
  simpa using this
theorem rising_set {M : HM} (k v : Int) (h : Rising M) : Rising (setM M k v) := by
  unfold setM
  split
  · exact rising_del k h
  · exact rising_put k v h
end Go.Proofs.YtckdpejdnejhfaaGreat.Ac

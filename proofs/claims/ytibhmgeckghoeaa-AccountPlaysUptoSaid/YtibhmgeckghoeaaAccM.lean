/- Account: lists of what is held, as Of is handed them. -/
import Derived.Test.YtibhmgeckghoeaaAccL
namespace Go.Proofs.Ytibhmgeckghoeaa.Ac
open Go.RowKit Go.Shelf Go.Maps
open Go.Proofs.Ytibhmgeckghoeaa.Vb
attribute [local go_sem] Oper.semAt_some

abbrev int64b (x : Int) : Prop := -9223372036854775808 ≤ x ∧ x ≤ 9223372036854775807
def hcells (l : HM) : List Value := l.flatMap fun p => [.int .i64 p.1, .int .i64 p.2]
theorem hcells_length (l : HM) : (hcells l).length = l.length * 2 := by
  induction l with
  | nil => rfl
  | cons o l ih => simp only [hcells, List.flatMap_cons, List.length_append] at *; simp [ih]; omega
theorem hcells_fst : ∀ (l : HM) (k : Nat) (o : Int × Int), l[k]? = some o → (hcells l)[k * 2]? = some (.int .i64 o.1)
  | [], k, o, h => by simp at h
  | x :: l, 0, o, h => by simp at h; subst h; rfl
  | x :: l, k + 1, o, h => by
    have := hcells_fst l k o (by simpa using h)
    simp only [hcells, List.flatMap_cons] at *
    rw [show (k + 1) * 2 = k * 2 + 2 from by omega]
    simpa using this
theorem hcells_snd : ∀ (l : HM) (k : Nat) (o : Int × Int), l[k]? = some o → (hcells l)[k * 2 + 1]? = some (.int .i64 o.2)
  | [], k, o, h => by simp at h
  | x :: l, 0, o, h => by simp at h; subst h; rfl
  | x :: l, k + 1, o, h => by
    have := hcells_snd l k o (by simpa using h)
    simp only [hcells, List.flatMap_cons] at *
    rw [show (k + 1) * 2 + 1 = k * 2 + 1 + 2 from by omega]
    simpa using this
theorem hcells_append (l r : HM) : hcells (l ++ r) = hcells l ++ hcells r := by simp [hcells]
theorem hcells_one (l : HM) : ∀ u ∈ hcells l, u.oneCell' = true := by
  intro u hu
  simp only [hcells, List.mem_flatMap] at hu
  obtain ⟨o, _, ho⟩ := hu
  simp at ho
  rcases ho with rfl | rfl <;> rfl

/-- the slice v reads as the list l of what is held -/
def Helds (w : World) (R : Nat → Prop) (v : Value) (l : HM) : Prop := Sl w R v l.length 2 (hcells l) ∧ ∀ p ∈ l, int64b p.1 ∧ int64b p.2
theorem Helds.grow {w w' : World} {R : Nat → Prop} {v : Value} {l : HM} (h : Helds w R v l) (hb : Below w.heap.size w w') : Helds w' R v l := ⟨h.1.grow hb, h.2⟩
theorem Helds.alloc {w : World} {R : Nat → Prop} {v : Value} {l : HM} (h : Helds w R v l) (o : Obj) : Helds (w.alloc o) R v l := ⟨h.1.alloc o, h.2⟩
theorem Helds.nil (w : World) (R : Nat → Prop) : Helds w R (.slice none 0 0) [] := ⟨⟨rfl, none, 0, rfl, Nat.le_refl _, Nat.zero_le _, fun h => absurd h (by decide)⟩, fun p hp => by cases hp⟩

theorem Helds.at_ {w : World} {R : Nat → Prop} {A : Option Addr} {n c k : Nat} {l : HM} {o : Int × Int} (h : Helds w R (.slice A n c) l) (hk : l[k]? = some o) :
    ∃ b off, A = some ⟨b, off, none⟩ ∧ b < w.heap.size ∧ w.cell? ⟨b, off + k * 2, none⟩ = some (.int .i64 o.1) ∧ w.cell? ⟨b, off + k * 2 + 1, none⟩ = some (.int .i64 o.2) := by
  obtain ⟨⟨_, A', c', hv, _, _, hcs⟩, _⟩ := h
  injection hv with hA _ _
  subst hA
  have hlt := (List.getElem?_eq_some_iff.1 hk).1
  obtain ⟨b, off, hA, _, hlt2, hcc⟩ := hcs (by omega)
  exact ⟨b, off, hA, hlt2, hcc _ _ (hcells_fst l k o hk), hcc _ _ (hcells_snd l k o hk)⟩

theorem slBlk {w : World} {g n cap sz : Nat} {t : TypeId} {cs : Array Value} (h : Blk w g t cs) (h1 : n ≤ cap) (h2 : cap ≤ maxLen) (h3 : cs.size = n * sz) : Sl w (fun _ => True) (.slice (some ⟨g, 0, none⟩) n cap) n sz cs.toList :=
  ⟨by simpa using h3, some ⟨g, 0, none⟩, cap, rfl, h1, h2, fun _ => ⟨g, 0, rfl, trivial, h.lt, fun j u hj => by
    rw [show 0 + j = j from by omega]
    exact (h.cell j).trans (by simpa using hj)⟩⟩

/-- may such a list be handed in? -/
def okL : Int → HM → Bool
  | _, [] => true
  | last, p :: r => (decide (last < p.1) && decide (1 ≤ p.2) && decide (coin p.2)) && okL p.1 r
def ofE (bud sp : Int) (l : HM) : Int := if ¬ coin bud ∨ ¬ coin sp ∨ okL (-1) l = false then 2 else if bud - sp < sumM l then 8 else 0
theorem okL_head {last : Int} {p : Int × Int} {r : HM} : okL last (p :: r) = true ↔ last < p.1 ∧ 1 ≤ p.2 ∧ coin p.2 ∧ okL p.1 r = true := by
  simp [okL, and_assoc]
theorem okL_all : ∀ {last : Int} {l : HM}, okL last l = true → Rising l ∧ ∀ p ∈ l, last < p.1 ∧ 1 ≤ p.2 ∧ coin p.2
  | last, [], _ => ⟨List.Pairwise.nil, fun p hp => by cases hp⟩
  | last, x :: r, h => by
    obtain ⟨h1, h2, h3, h4⟩ := okL_head.1 h
    obtain ⟨i1, i2⟩ := okL_all h4
    refine ⟨List.pairwise_cons.2 ⟨fun p hp => (i2 p hp).1, i1⟩, fun p hp => ?_⟩
    rcases List.mem_cons.1 hp with rfl | hp
    · exact ⟨h1, h2, h3⟩
    · have := i2 p hp
      exact ⟨by omega, this.2⟩
theorem okL_of : ∀ {last : Int} {l : HM}, Rising l → (∀ p ∈ l, last < p.1 ∧ 1 ≤ p.2 ∧ coin p.2) → okL last l = true
  | last, [], _, _ => rfl
  | last, x :: r, h, ha => by
    obtain ⟨h1, h2⟩ := List.pairwise_cons.1 h
    obtain ⟨a1, a2, a3⟩ := ha x (by simp)
    exact okL_head.2 ⟨a1, a2, a3, okL_of h2 fun p hp => ⟨h1 p hp, (ha p (by simp [hp])).2⟩⟩
/-- the lot ahead of number k -/
def lastL (l : HM) (k : Nat) : Int := if k = 0 then -1 else match l[k - 1]? with | some p => p.1 | none => -1
theorem okL_step {l : HM} {k : Nat} {p : Int × Int} (h : l[k]? = some p) : okL (lastL l k) (l.drop k) = (decide (lastL l k < p.1) && decide (1 ≤ p.2) && decide (coin p.2) && okL (lastL l (k + 1)) (l.drop (k + 1))) := by
  rw [drop_at h]
  have : lastL l (k + 1) = p.1 := by simp [lastL, h]
  rw [this]
  rfl
theorem lastL_succ {l : HM} {k : Nat} {p : Int × Int} (h : l[k]? = some p) : lastL l (k + 1) = p.1 := by simp [lastL, h]
theorem lastL_b {l : HM} (hl : ∀ p ∈ l, int64b p.1 ∧ int64b p.2) (k : Nat) : int64b (lastL l k) := by
  unfold lastL
  split
  · exact ⟨by omega, by omega⟩
  · split
    · rename_i p hp
      exact (hl p (List.mem_of_getElem? hp)).1
    · exact ⟨by omega, by omega⟩
theorem ins_last : ∀ {M : HM} {p : Int × Int}, (∀ q ∈ M, q.1 < p.1) → insM p M = M ++ [p]
  | [], p, _ => rfl
  | y :: r, p, h => by
    have h1 := h y (by simp)
    have : ¬ p.1 < y.1 := by omega
    simp only [insM, if_neg this, List.cons_append]
    rw [ins_last fun q hq => h q (by simp [hq])]
theorem put_take {l : HM} (hr : Rising l) {k : Nat} {p : Int × Int} (h : l[k]? = some p) : putM (l.take k) p.1 p.2 = l.take (k + 1) := by
  have hlt : ∀ q ∈ l.take k, q.1 < p.1 := by
    intro q hq
    obtain ⟨i, hi, rfl⟩ := List.getElem_of_mem hq
    simp only [List.length_take] at hi
    have hk := (List.getElem?_eq_some_iff.1 h)
    have := List.pairwise_iff_getElem.1 hr i k (by omega) hk.1 (by omega)
    rw [hk.2] at this
    simpa using this
  unfold putM
  rw [del_none fun q hq => by have := hlt q hq; omega, ins_last hlt, List.take_add_one, h]
  rfl
theorem take_snoc {l : HM} {k : Nat} {p : Int × Int} (h : l[k]? = some p) : l.take (k + 1) = l.take k ++ [p] := by
  rw [List.take_add_one, h]; rfl
theorem sum_take {l : HM} {k : Nat} {p : Int × Int} (h : l[k]? = some p) : sumM (l.take (k + 1)) = sumM (l.take k) + p.2 := by
  rw [take_snoc h, sumM_snoc]
theorem sum_take_le {l : HM} (h : ∀ p ∈ l, 0 ≤ p.2) (k : Nat) : 0 ≤ sumM (l.take k) ∧ sumM (l.take k) ≤ sumM l := by
  have e := congrArg sumM (List.take_append_drop k l)
  rw [sumM_append] at e
  have h1 : 0 ≤ sumM (l.drop k) := sumM_nonneg fun p hp => h p (List.mem_of_mem_drop hp)
  have h2 : 0 ≤ sumM (l.take k) := sumM_nonneg fun p hp => h p (List.mem_of_mem_take hp)
  omega
theorem ofE_arg {bud sp : Int} {l : HM} (h : ¬ coin bud ∨ ¬ coin sp ∨ okL (-1) l = false) : ofE bud sp l = 2 := if_pos h
theorem ofE_big {bud sp : Int} {l : HM} (h1 : coin bud) (h2 : coin sp) (h3 : okL (-1) l = true) (h : bud - sp < sumM l) : ofE bud sp l = 8 := by
  unfold ofE
  rw [if_neg (by rintro (h | h | h); exact h h1; exact h h2; rw [h3] at h; cases h), if_pos h]
theorem ofE_ok {bud sp : Int} {l : HM} (h1 : coin bud) (h2 : coin sp) (h3 : okL (-1) l = true) (h : sumM l ≤ bud - sp) : ofE bud sp l = 0 := by
  unfold ofE
  rw [if_neg (by rintro (h | h | h); exact h h1; exact h h2; rw [h3] at h; cases h), if_neg (by omega)]
theorem ofE_zero {bud sp : Int} {l : HM} (h : ofE bud sp l = 0) : coin bud ∧ coin sp ∧ okL (-1) l = true ∧ sumM l ≤ bud - sp := by
  unfold ofE at h
  split at h
  · omega
  · rename_i hn
    split at h
    · omega
    · refine ⟨?_, ?_, ?_, by omega⟩
      · by_cases hc : coin bud
        · exact hc
        · exact absurd (.inl hc) hn
      · by_cases hc : coin sp
        · exact hc
        · exact absurd (.inr (.inl hc)) hn
      · cases ho : okL (-1) l with
        | true => rfl
        | false => exact absurd (.inr (.inr ho)) hn
theorem ofE_fine {bud sp : Int} {l : HM} (hl : ∀ p ∈ l, int64b p.1 ∧ int64b p.2) (h : ofE bud sp l = 0) : (Acc.mk bud sp l).Ok ∧ (Acc.mk bud sp l).Fine := by
  obtain ⟨h1, h2, h3, h4⟩ := ofE_zero h
  obtain ⟨o1, o2⟩ := okL_all h3
  refine ⟨⟨h1, h2, o1, fun p hp => ⟨by have := (o2 p hp).1; omega, (hl p hp).1.2, (o2 p hp).2.1⟩, ?_⟩, ?_⟩
  · show sumM l ≤ _
    have := h1.2
    have := h2.1
    omega
  · show sp + sumM l ≤ bud
    omega
end Go.Proofs.Ytibhmgeckghoeaa.Ac

/- Account: holds for unlike lots in one order and in the other, plainly. -/
import Derived.Test.YtidejikolcgojaaGreatAccP
namespace Go.Proofs.YtidejikolcgojaaGreat.Ac

def coin (x : Int) : Prop := 0 ≤ x ∧ x ≤ 1099511627776
instance (x : Int) : Decidable (coin x) := inferInstanceAs (Decidable (_ ∧ _))
/-- what Hold answers, at an account of which nothing is spent -/
def holdE (bu sp : Int) (M : HM) (lot c : Int) : Int := if lot < 0 ∨ ¬ coin c then 2 else if bu - sp - sumM M + atM M lot < c then 8 else 0
theorem holdE_ok {bu sp : Int} {M : HM} {lot c : Int} : holdE bu sp M lot c = 0 ↔ 0 ≤ lot ∧ coin c ∧ c ≤ bu - sp - sumM M + atM M lot := by
  unfold holdE
  split
  · rename_i h
    constructor
    · intro h0; omega
    · rintro ⟨h1, h2, _⟩
      rcases h with h | h
      · omega
      · exact absurd h2 h
  · rename_i h
    split
    · constructor
      · intro h0; omega
      · rintro ⟨_, _, h3⟩; omega
    · refine ⟨fun _ => ⟨by omega, ?_, by omega⟩, fun _ => rfl⟩
      by_cases hc : coin c
      · exact hc
      · exact absurd (.inr hc) h
/-- what is held behind holds, the last of the list first -/
def heldR : HM → HM
  | [] => []
  | p :: r => setM (heldR r) p.1 p.2
theorem heldR_rising : ∀ r, Rising (heldR r)
  | [] => List.Pairwise.nil
  | p :: r => rising_set _ _ (heldR_rising r)
theorem nz_set {M : HM} (h : ∀ p ∈ M, p.2 ≠ 0) (k v : Int) : ∀ p ∈ setM M k v, p.2 ≠ 0 := by
  unfold setM
  split
  · exact fun p hp => h p (List.mem_filter.1 hp).1
  · rename_i hv
    intro p hp
    rcases List.mem_cons.1 ((insM_perm _ _).mem_iff.1 hp) with rfl | hp
    · exact hv
    · exact h p (List.mem_filter.1 hp).1
theorem heldR_nz : ∀ r, ∀ p ∈ heldR r, p.2 ≠ 0
  | [] => fun p hp => by cases hp
  | p :: r => nz_set (heldR_nz r) _ _
theorem atM_cons (p : Int × Int) (r : HM) (k : Int) : atM (p :: r) k = if p.1 = k then p.2 else atM r k := by
  unfold atM
  by_cases h : p.1 = k
  · simp [List.find?_cons, h]
  · have : (p.1 == k) = false := by simpa using h
    rw [if_neg h, List.find?_cons, this]
theorem at_heldR : ∀ (r : HM) (k : Int), atM (heldR r) k = atM r k
  | [], k => rfl
  | p :: r, k => by
    rw [atM_cons]
    show atM (setM (heldR r) p.1 p.2) k = _
    by_cases h : p.1 = k
    · rw [if_pos h, ← h, at_set_same]
    · rw [if_neg h, at_set_other _ (by omega), at_heldR r k]
theorem atM_none : ∀ {r : HM} {k : Int}, (∀ p ∈ r, p.1 ≠ k) → atM r k = 0
  | [], _, _ => rfl
  | p :: r, k, h => by rw [atM_cons, if_neg (h p (by simp)), atM_none fun q hq => h q (by simp [hq])]
theorem atM_mem : ∀ {r : HM} {p : Int × Int}, (r.map (·.1)).Nodup → p ∈ r → atM r p.1 = p.2
  | q :: r, p, hn, hp => by
    rw [List.map_cons, List.nodup_cons] at hn
    rw [atM_cons]
    rcases List.mem_cons.1 hp with rfl | hp
    · rw [if_pos rfl]
    · rw [if_neg (fun e => hn.1 (by rw [e]; exact List.mem_map.2 ⟨p, hp, rfl⟩))]
      exact atM_mem hn.2 hp
theorem sum_heldR : ∀ {r : HM}, (r.map (·.1)).Nodup → sumM (heldR r) = sumM r
  | [], _ => rfl
  | p :: r, hn => by
    rw [List.map_cons, List.nodup_cons] at hn
    have h1 := sum_set p.1 p.2 (heldR_rising r)
    have h2 : atM (heldR r) p.1 = 0 := by
      rw [at_heldR]
      exact atM_none fun q hq e => hn.1 (by rw [← e]; exact List.mem_map.2 ⟨q, hq, rfl⟩)
    have h3 := sum_heldR hn.2
    show sumM (setM (heldR r) p.1 p.2) = p.2 + sumM r
    omega
theorem atM_reverse {l : HM} (hn : (l.map (·.1)).Nodup) (k : Int) : atM l.reverse k = atM l k := by
  have hn' : (l.reverse.map (·.1)).Nodup := by rw [List.map_reverse]; exact (List.reverse_perm _).nodup_iff.2 hn
  by_cases h : ∃ p ∈ l, p.1 = k
  · obtain ⟨p, hp, rfl⟩ := h
    rw [atM_mem hn hp, atM_mem hn' (List.mem_reverse.2 hp)]
  · rw [atM_none fun p hp e => h ⟨p, hp, e⟩, atM_none fun p hp e => h ⟨p, List.mem_reverse.1 hp, e⟩]
theorem held_reverse {l : HM} (hn : (l.map (·.1)).Nodup) : heldR l.reverse = heldR l :=
  ext_rising (heldR_rising _) (heldR_rising _) (heldR_nz _) (heldR_nz _) fun k => by rw [at_heldR, at_heldR, atM_reverse hn]
theorem sumM_append : ∀ (l r : HM), sumM (l ++ r) = sumM l + sumM r
  | [], r => by simp [sumM]
  | p :: l, r => by
    have := sumM_append l r
    simp only [List.cons_append, sumM_cons]
    omega
theorem sumM_nonneg : ∀ {l : HM}, (∀ p ∈ l, 0 ≤ p.2) → 0 ≤ sumM l
  | [], _ => Int.le_refl _
  | p :: l, h => by
    have := sumM_nonneg (l := l) fun q hq => h q (by simp [hq])
    have := h p (by simp)
    rw [sumM_cons]
    omega
theorem nodup_part {l : HM} (hn : (l.map (·.1)).Nodup) (i : Nat) : ((l.drop i).map (·.1)).Nodup := by
  rw [List.map_drop]
  exact hn.sublist (List.drop_sublist _ _)
theorem take_rev {l : HM} {i : Nat} {p : Int × Int} (h : l[i]? = some p) : (l.take (i + 1)).reverse = p :: (l.take i).reverse := by
  rw [List.take_add_one, h]
  simp
theorem drop_at {l : HM} {i : Nat} {p : Int × Int} (h : l[i]? = some p) : l.drop i = p :: l.drop (i + 1) := by
  have hlt := (List.getElem?_eq_some_iff.1 h).1
  rw [List.drop_eq_getElem_cons hlt]
  rw [List.getElem?_eq_getElem hlt] at h
  injection h with h
  rw [h]
/-- if all holds go in one order, each goes in the other -/
theorem orders_back {bu : Int} (hb : coin bu) {l : HM} (hn : (l.map (·.1)).Nodup) (hall : ∀ (i : Nat) (p : Int × Int), l[i]? = some p → holdE bu 0 (heldR (l.take i).reverse) p.1 p.2 = 0) {i : Nat} {p : Int × Int} (hp : l[i]? = some p) : holdE bu 0 (heldR (l.drop (i + 1))) p.1 p.2 = 0 := by
  have hc : ∀ q ∈ l, 0 ≤ q.1 ∧ coin q.2 := fun q hq => by
    obtain ⟨j, hj⟩ := List.mem_iff_getElem?.1 hq
    have := holdE_ok.1 (hall j q hj)
    exact ⟨this.1, this.2.1⟩
  -- all of it is within the budget
  have htot : sumM l ≤ bu := by
    obtain ⟨j, hj⟩ : ∃ j, j + 1 = l.length := ⟨l.length - 1, by have := (List.getElem?_eq_some_iff.1 hp).1; omega⟩
    obtain ⟨q, hq⟩ : ∃ q, l[j]? = some q := ⟨_, List.getElem?_eq_getElem (by omega)⟩
    have h1 := (holdE_ok.1 (hall j q hq)).2.2
    have hlt : l = l.take j ++ [q] := by
      have := List.take_append_drop j l
      rw [drop_at hq, List.drop_eq_nil_of_le (by omega)] at this
      exact this.symm
    have hnt : ((l.take j).reverse.map (·.1)).Nodup := by
      rw [List.map_reverse, (List.reverse_perm _).nodup_iff, List.map_take]
      exact hn.sublist (List.take_sublist _ _)
    have hs := sum_heldR hnt
    have hrev : sumM (l.take j).reverse = sumM (l.take j) := sum_perm (List.reverse_perm _)
    have hat : atM (heldR (l.take j).reverse) q.1 = 0 := by
      rw [at_heldR]
      refine atM_none fun x hx e => ?_
      rw [hlt, List.map_append, List.nodup_append] at hn
      exact hn.2.2 x.1 (List.mem_map.2 ⟨x, List.mem_reverse.1 hx, rfl⟩) q.1 (by simp) e
    have hsum : sumM l = sumM (l.take j) + q.2 := by
      have e := congrArg sumM hlt
      rw [sumM_append] at e
      simp [sumM] at e
      omega
    omega
  have hpm := List.mem_of_getElem? hp
  have hsd := sum_heldR (nodup_part hn (i + 1))
  have hat : atM (heldR (l.drop (i + 1))) p.1 = 0 := by
    rw [at_heldR]
    refine atM_none fun x hx e => ?_
    have := nodup_part hn i
    rw [drop_at hp, List.map_cons, List.nodup_cons] at this
    exact this.1 (by rw [← e]; exact List.mem_map.2 ⟨x, hx, rfl⟩)
  have hsplit : sumM l = sumM (l.take i) + (p.2 + sumM (l.drop (i + 1))) := by
    have := congrArg sumM (List.take_append_drop i l)
    rw [sumM_append, drop_at hp, sumM_cons] at this
    omega
  have h0 : 0 ≤ sumM (l.take i) := sumM_nonneg fun q hq => (hc q (List.mem_of_mem_take hq)).2.1
  exact holdE_ok.2 ⟨(hc p hpm).1, (hc p hpm).2, by omega⟩
end Go.Proofs.YtidejikolcgojaaGreat.Ac

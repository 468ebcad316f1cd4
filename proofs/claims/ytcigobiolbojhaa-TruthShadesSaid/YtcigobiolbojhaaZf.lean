/- Joined by program: PlainS Raised Single Low Core1 Core2. -/
import Derived.Test.YtcigobiolbojhaaZe
import Derived.Test.YtcigobiolbojhaaZd
/- Plain: of one good, each buyer offering at most once, the costs' rule is the sealed one. -/
namespace Go.Proofs.Ytcigobiolbojhaa.Vb

def One (bs : List (List Off)) : Prop := ∀ l ∈ bs, l.length ≤ 1 ∧ ∀ o ∈ l, o.g = 1 ∧ 1 ≤ o.c ∧ o.c ≤ 1099511627776
theorem One.tail {l : List Off} {bs : List (List Off)} (h : One (l :: bs)) : One bs := fun x hx => h x (by simp [hx])
theorem One.offer {bs : List (List Off)} (h : One bs) : ∀ l ∈ bs, ∀ o ∈ l, Offer1 o := fun l hl o ho => by
  obtain ⟨h1, h2, h3⟩ := (h l hl).2 o ho
  exact ⟨by omega, by omega, h2, h3⟩
theorem One.W0 {bs : List (List Off)} (h : One bs) : W bs 0 = 0 := W_zero bs h.offer
theorem one_list {l : List Off} (h : l.length ≤ 1) : l = [] ∨ ∃ o, l = [o] := by
  rcases l with _ | ⟨o, _ | ⟨p, l⟩⟩
  · exact .inl rfl
  · exact .inr ⟨o, rfl⟩
  · simp at h
theorem W_nil1 (bs : List (List Off)) (f : Nat) : W ([] :: bs) f = W bs f := rfl
theorem W_one1 {bs : List (List Off)} {o : Off} (h : One ([o] :: bs)) : W ([o] :: bs) 1 = max (W bs 1) o.c := by
  have hg := ((h [o] (by simp)).2 o (by simp)).1
  have h0 := h.tail.W0
  simp only [W, List.foldl_cons, List.foldl_nil, stepO, hg]
  have h1 : andNot 1 1 = 0 := by decide
  rw [h1, if_pos rfl, h0]
  omega
theorem pick_nil (g : Nat → Int) (f : Nat) (left : Int) : pickN g f left [] = (-1, f) := rfl
theorem choose_zero : ∀ {bs : List (List Off)}, One bs → ∀ {i : Nat} {x : Int}, (choose bs 0)[i]? = some x → x = -1
  | [], _, i, x, h => by simp [choose] at h
  | l :: bs, ho, i, x, h => by
    have hp : pickN (W bs) 0 (W (l :: bs) 0) l = (-1, 0) := pickN_none fun j o _ hj => by
      obtain ⟨hg, _⟩ := (ho l (by simp)).2 o (List.mem_of_getElem? hj)
      simp [pickB, hg]
      intro h; exact absurd h (by decide)
    simp only [choose, hp] at h
    cases i with
    | zero => simpa using h.symm
    | succ i => exact choose_zero ho.tail (by simpa using h)
theorem choose_one {bs : List (List Off)} {o : Off} (h : One ([o] :: bs)) : choose ([o] :: bs) 1 = if W bs 1 ≤ o.c then 0 :: choose bs 0 else -1 :: choose bs 1 := by
  have hg := ((h [o] (by simp)).2 o (by simp)).1
  have h1 : andNot 1 1 = 0 := by decide
  simp only [choose]
  rw [W_one1 h]
  by_cases hle : W bs 1 ≤ o.c
  · rw [if_pos hle]
    have hp : pickN (W bs) 1 (max (W bs 1) o.c) [o] = (0, 0) := by
      rw [pickN_some (k := 0) (o := o) rfl]
      · rw [hg, h1]; rfl
      · simp only [pickB, hg, h1, h.tail.W0, Bool.and_eq_true, decide_eq_true_eq, true_and]; omega
      · intro j x hj; omega
    rw [hp]
  · rw [if_neg hle]
    have hp : pickN (W bs) 1 (max (W bs 1) o.c) [o] = (-1, 1) := pickN_none fun j x hj hx => by
      have : x = o := by
        cases j with
        | zero => simpa using hx.symm
        | succ j => simp at hx
      subst this
      simp only [pickB, hg, h1, h.tail.W0, Bool.and_eq_false_iff, decide_eq_false_iff_not]
      right; omega
    rw [hp]
theorem mx_ge : ∀ {bs : List (List Off)}, One bs → ∀ {i : Nat} {o : Off}, bs[i]? = some [o] → o.c ≤ W bs 1
  | [], _, i, o, h => by simp at h
  | l :: bs, ho, 0, o, h => by
    simp at h; subst h
    rw [W_one1 ho]; omega
  | l :: bs, ho, i + 1, o, h => by
    have ih := mx_ge ho.tail (by simpa using h)
    rcases one_list (ho l (by simp)).1 with rfl | ⟨p, rfl⟩
    · rw [W_nil1]; exact ih
    · rw [W_one1 ho]; omega
theorem mx_le : ∀ {bs : List (List Off)} {c : Int}, One bs → 0 ≤ c → (∀ (i : Nat) (o : Off), bs[i]? = some [o] → o.c ≤ c) → W bs 1 ≤ c
  | [], c, _, h0, _ => h0
  | l :: bs, c, ho, h0, h => by
    have ih := mx_le ho.tail h0 (fun i o hi => h (i + 1) o (by simpa using hi))
    rcases one_list (ho l (by simp)).1 with rfl | ⟨p, rfl⟩
    · rw [W_nil1]; exact ih
    · rw [W_one1 ho]
      have := h 0 p rfl
      omega

/-- buyer i has the first of the greatest -/
def Win (bs : List (List Off)) (i : Nat) (c : Int) : Prop := (∃ o, bs[i]? = some [o] ∧ o.c = c) ∧ (∀ (j : Nat) (o : Off), j < i → bs[j]? = some [o] → o.c < c) ∧ ∀ (j : Nat) (o : Off), bs[j]? = some [o] → o.c ≤ c
theorem Win.uniq {bs : List (List Off)} {i j : Nat} {c d : Int} (h : Win bs i c) (k : Win bs j d) : i = j ∧ c = d := by
  obtain ⟨⟨o, ho, hc⟩, h1, h2⟩ := h
  obtain ⟨⟨p, hp, hd⟩, k1, k2⟩ := k
  have e1 := h2 j p hp
  have e2 := k2 i o ho
  have : c = d := by omega
  refine ⟨?_, this⟩
  rcases Nat.lt_trichotomy i j with h | h | h
  · have := k1 i o h ho; omega
  · exact h
  · have := h1 j p h hp; omega
theorem Win.mx {bs : List (List Off)} {i : Nat} {c : Int} (ho : One bs) (h : Win bs i c) : W bs 1 = c := by
  obtain ⟨⟨o, h1, rfl⟩, _, h3⟩ := h
  have := ((ho [o] (List.mem_of_getElem? h1)).2 o (by simp)).2.1
  exact Int.le_antisymm (mx_le ho (by omega) h3) (mx_ge ho h1)
theorem Win.cons_nil {bs : List (List Off)} {i : Nat} {c : Int} : Win ([] :: bs) (i + 1) c ↔ Win bs i c := by
  constructor
  · rintro ⟨⟨o, h1, h2⟩, h3, h4⟩
    exact ⟨⟨o, by simpa using h1, h2⟩, fun j p hj hp => h3 (j + 1) p (by omega) (by simpa using hp), fun j p hp => h4 (j + 1) p (by simpa using hp)⟩
  · rintro ⟨⟨o, h1, h2⟩, h3, h4⟩
    refine ⟨⟨o, by simpa using h1, h2⟩, fun j p hj hp => ?_, fun j p hp => ?_⟩
    · cases j with
      | zero => simp at hp
      | succ j => exact h3 j p (by omega) (by simpa using hp)
    · cases j with
      | zero => simp at hp
      | succ j => exact h4 j p (by simpa using hp)
/-- who is chosen has the first of the greatest -/
theorem choose_win : ∀ {bs : List (List Off)}, One bs → ∀ {i : Nat} {x : Int}, (choose bs 1)[i]? = some x → (0 ≤ x ↔ ∃ c, Win bs i c)
  | [], _, i, x, h => by simp [choose] at h
  | l :: bs, ho, i, x, h => by
    rcases one_list (ho l (by simp)).1 with rfl | ⟨o, rfl⟩
    · have hc : choose ([] :: bs) 1 = -1 :: choose bs 1 := rfl
      rw [hc] at h
      cases i with
      | zero =>
        simp at h
        subst h
        constructor
        · intro h; omega
        · rintro ⟨c, ⟨o, h1, _⟩, _⟩; simp at h1
      | succ i =>
        rw [choose_win ho.tail (by simpa using h)]
        exact ⟨fun ⟨c, hc⟩ => ⟨c, Win.cons_nil.2 hc⟩, fun ⟨c, hc⟩ => ⟨c, Win.cons_nil.1 hc⟩⟩
    · rw [choose_one ho] at h
      have ho1 := ((ho [o] (by simp)).2 o (by simp)).2.1
      by_cases hle : W bs 1 ≤ o.c
      · rw [if_pos hle] at h
        cases i with
        | zero =>
          simp at h
          subst h
          refine ⟨fun _ => ⟨o.c, ⟨o, rfl, rfl⟩, fun j p hj => by omega, fun j p hp => ?_⟩, fun _ => by omega⟩
          cases j with
          | zero => simp at hp; subst hp; omega
          | succ j =>
            have := mx_ge ho.tail (i := j) (o := p) (by simpa using hp)
            omega
        | succ i =>
          have := choose_zero ho.tail (i := i) (x := x) (by simpa using h)
          subst this
          refine ⟨fun h => by omega, fun ⟨c, ⟨p, hp, hpc⟩, h3, _⟩ => ?_⟩
          have h1 := h3 0 o (by omega) rfl
          have h2 := mx_ge ho.tail (i := i) (o := p) (by simpa using hp)
          omega
      · rw [if_neg hle] at h
        cases i with
        | zero =>
          simp at h
          subst h
          refine ⟨fun h => by omega, fun ⟨c, ⟨p, hp, hpc⟩, h3, h4⟩ => ?_⟩
          simp at hp
          subst hp
          have : W bs 1 ≤ c := mx_le ho.tail (by omega) (fun j q hq => h4 (j + 1) q (by simpa using hq))
          omega
        | succ i =>
          rw [choose_win ho.tail (by simpa using h)]
          constructor
          · rintro ⟨c, hw⟩
            have hm := hw.mx ho.tail
            obtain ⟨⟨p, h1, h2⟩, h3, h4⟩ := hw
            refine ⟨c, ⟨p, by simpa using h1, h2⟩, fun j q hj hq => ?_, fun j q hq => ?_⟩
            · cases j with
              | zero => simp at hq; subst hq; omega
              | succ j => exact h3 j q (by omega) (by simpa using hq)
            · cases j with
              | zero => simp at hq; subst hq; omega
              | succ j => exact h4 j q (by simpa using hq)
          · rintro ⟨c, ⟨p, h1, h2⟩, h3, h4⟩
            exact ⟨c, ⟨p, by simpa using h1, h2⟩, fun j q hj hq => h3 (j + 1) q (by omega) (by simpa using hq), fun j q hq => h4 (j + 1) q (by simpa using hq)⟩

theorem bestK_nil {floor but : Int} {l : List Sec} : ∀ {k : Nat}, k ≤ l.length → bestK floor but l k = none → ∀ (i : Nat) (s : Sec), i < k → (i : Int) ≠ but → l[i]? = some s → s.c < floor
  | 0, _, _, i, s, hi, _, _ => by omega
  | k + 1, hk, h, i, s, hi, hne, hs => by
    obtain ⟨t, ht⟩ : ∃ s, l[k]? = some s := ⟨_, List.getElem?_eq_getElem (by omega)⟩
    rw [bestK_succ ht, bstep] at h
    split at h
    · cases h
    · rename_i hc
      rcases Nat.lt_or_ge i k with hik | hik
      · exact bestK_nil (by omega) h i s hik hne hs
      · obtain rfl : i = k := by omega
        have e : t = s := Option.some.inj (ht.symm.trans hs)
        subst e
        rw [h] at hc
        simp only [beats, Bool.and_eq_true, decide_eq_true_eq, not_and] at hc
        rcases Int.lt_or_le t.c floor with h6 | h6
        · exact h6
        · exact absurd trivial (hc ⟨hne, h6⟩)
/-- what the best of the first k is -/
theorem bestK_some {floor but : Int} {l : List Sec} : ∀ {k j : Nat} {c : Int}, k ≤ l.length → bestK floor but l k = some (j, c) → (j : Int) ≠ but ∧ floor ≤ c ∧ (∃ s, l[j]? = some s ∧ s.c = c) ∧ (∀ (i : Nat) (s : Sec), i < j → (i : Int) ≠ but → floor ≤ s.c → l[i]? = some s → s.c < c) ∧ ∀ (i : Nat) (s : Sec), i < k → (i : Int) ≠ but → l[i]? = some s → s.c ≤ c
  | 0, j, c, _, h => by simp [bestK] at h
  | k + 1, j, c, hk, h => by
    obtain ⟨s, hs⟩ : ∃ s, l[k]? = some s := ⟨_, List.getElem?_eq_getElem (by omega)⟩
    rw [bestK_succ hs, bstep] at h
    split at h
    · rename_i hc
      simp only [Option.some.injEq, Prod.mk.injEq] at h
      obtain ⟨rfl, rfl⟩ := h
      simp only [Bool.and_eq_true, decide_eq_true_eq] at hc
      obtain ⟨⟨h1, h2⟩, h3⟩ := hc
      cases hb : bestK floor but l k with
      | none =>
        have hn : ∀ (i : Nat) (t : Sec), i < k → (i : Int) ≠ but → l[i]? = some t → t.c < floor := bestK_nil (by omega) hb
        exact ⟨h1, h2, ⟨s, hs, rfl⟩, fun i t hi hne hf ht => by have := hn i t hi hne ht; omega, fun i t hi hne ht => by
          rcases Nat.lt_or_ge i k with h | h
          · have := hn i t h hne ht; omega
          · obtain rfl : i = k := by omega
            rw [hs] at ht; cases ht; omega⟩
      | some p =>
        obtain ⟨j0, c0⟩ := p
        rw [hb] at h3
        simp only [beats, decide_eq_true_eq] at h3
        obtain ⟨_, _, _, _, h5⟩ := bestK_some (by omega) hb
        exact ⟨h1, h2, ⟨s, hs, rfl⟩, fun i t hi hne _ ht => by have := h5 i t hi hne ht; omega, fun i t hi hne ht => by
          rcases Nat.lt_or_ge i k with h | h
          · have := h5 i t h hne ht; omega
          · obtain rfl : i = k := by omega
            rw [hs] at ht; cases ht; omega⟩
    · rename_i hc
      obtain ⟨h1, h2, h3, h4, h5⟩ := bestK_some (by omega) h
      refine ⟨h1, h2, h3, h4, fun i t hi hne ht => ?_⟩
      rcases Nat.lt_or_ge i k with hik | hik
      · exact h5 i t hik hne ht
      · obtain rfl : i = k := by omega
        rw [hs] at ht
        cases ht
        rw [h] at hc
        simp only [beats, Bool.and_eq_true, decide_eq_true_eq, not_and] at hc
        rcases Int.lt_or_le s.c floor with h6 | h6
        · omega
        · have := hc ⟨hne, h6⟩; omega
theorem bestK_none' {floor but : Int} {l : List Sec} {k : Nat} (hk : k ≤ l.length) (h : bestK floor but l k = none) : ∀ (i : Nat) (s : Sec), i < k → (i : Int) ≠ but → l[i]? = some s → s.c < floor := bestK_nil hk h

/-- the bids of the first k buyers -/
def bidsTo (bs : List (List Off)) : Nat → List Sec
  | 0 => []
  | k + 1 => match bs[k]? with | some [o] => bidsTo bs k ++ [⟨k, o.c⟩] | _ => bidsTo bs k
theorem bidsTo_mem {bs : List (List Off)} : ∀ {k : Nat} {s : Sec}, s ∈ bidsTo bs k ↔ ∃ (i : Nat) (o : Off), i < k ∧ bs[i]? = some [o] ∧ s = ⟨i, o.c⟩
  | 0, s => by simp [bidsTo]
  | k + 1, s => by
    simp only [bidsTo]
    split
    · rename_i o ho
      rw [List.mem_append, bidsTo_mem]
      constructor
      · rintro (⟨i, p, h1, h2, h3⟩ | h)
        · exact ⟨i, p, by omega, h2, h3⟩
        · simp at h; exact ⟨k, o, by omega, ho, h⟩
      · rintro ⟨i, p, h1, h2, h3⟩
        rcases Nat.lt_or_ge i k with h | h
        · exact .inl ⟨i, p, h, h2, h3⟩
        · obtain rfl : i = k := by omega
          rw [ho] at h2
          simp at h2
          subst h2
          exact .inr (by simp [h3])
    · rename_i hno
      rw [bidsTo_mem]
      constructor
      · rintro ⟨i, p, h1, h2, h3⟩; exact ⟨i, p, by omega, h2, h3⟩
      · rintro ⟨i, p, h1, h2, h3⟩
        refine ⟨i, p, ?_, h2, h3⟩
        rcases Nat.lt_or_ge i k with h | h
        · exact h
        · obtain rfl : i = k := by omega
          exact absurd h2 (hno p)
theorem bidsTo_sorted (bs : List (List Off)) : ∀ k, (bidsTo bs k).Pairwise (fun s t => s.b < t.b)
  | 0 => by simp [bidsTo]
  | k + 1 => by
    simp only [bidsTo]
    split
    · refine List.pairwise_append.2 ⟨bidsTo_sorted bs k, by simp, fun s hs t ht => ?_⟩
      obtain ⟨i, o, h1, _, rfl⟩ := bidsTo_mem.1 hs
      simp at ht
      subst ht
      simp only
      omega
    · exact bidsTo_sorted bs k
theorem bidsTo_len (bs : List (List Off)) : ∀ k, (bidsTo bs k).length ≤ k
  | 0 => by simp [bidsTo]
  | k + 1 => by
    have := bidsTo_len bs k
    simp only [bidsTo]
    split
    · simp; omega
    · omega
theorem sorted_idx {l : List Sec} (h : l.Pairwise (fun s t => s.b < t.b)) {i j : Nat} {s t : Sec} (hi : l[i]? = some s) (hj : l[j]? = some t) : i < j ↔ s.b < t.b := by
  obtain ⟨h1, rfl⟩ := List.getElem?_eq_some_iff.1 hi
  obtain ⟨h2, rfl⟩ := List.getElem?_eq_some_iff.1 hj
  have hp := List.pairwise_iff_getElem.1 h
  constructor
  · intro hij; exact hp i j h1 h2 hij
  · intro hlt
    rcases Nat.lt_trichotomy i j with h' | h' | h'
    · exact h'
    · subst h'; omega
    · have := hp j i h2 h1 h'; omega

/-- the two rules agree -/
theorem single_plain {bs : List (List Off)} (ho : One bs) (hi : instE 1 bs = 0) : ∀ (i : Nat) (x : Int), (bestC 1 bs)[i]? = some x →
    match bestK 0 (-1) (bidsTo bs bs.length) (bidsTo bs bs.length).length with
    | none => x < 0
    | some (j, _) => (0 ≤ x ↔ ((((bidsTo bs bs.length)[j]?.map (·.b)).getD 0) = (i : Int))) ∧ (0 ≤ x → payAt 1 bs i x = nextC 0 (bidsTo bs bs.length) j) := by
  intro i x hx
  have hall : allOf 1 = 1 := by decide
  have hx' : (choose bs 1)[i]? = some x := by
    have := hx
    unfold bestC at this
    rwa [hall] at this
  have hwin := choose_win ho hx'
  have hlt : i < bs.length := by
    have := (List.getElem?_eq_some_iff.1 hx').1
    rwa [choose_length] at this
  have hsort := bidsTo_sorted bs bs.length
  have hmem : ∀ (q : Nat) (o : Off), bs[q]? = some [o] → ∃ p : Nat, (bidsTo bs bs.length)[p]? = some (⟨(q : Int), o.c⟩ : Sec) := fun q o hq =>
    List.getElem?_of_mem ((bidsTo_mem (s := ⟨(q : Int), o.c⟩)).2 ⟨q, o, (List.getElem?_eq_some_iff.1 hq).1, hq, rfl⟩)
  cases hb : bestK 0 (-1) (bidsTo bs bs.length) (bidsTo bs bs.length).length with
  | none =>
    simp only
    rcases Int.lt_or_le x 0 with h | h
    · exact h
    · obtain ⟨c, ⟨o, h1, h2⟩, _⟩ := hwin.1 h
      obtain ⟨p, hp⟩ := hmem i o h1
      have : o.c < 0 := bestK_none' (Nat.le_refl _) hb p _ (List.getElem?_eq_some_iff.1 hp).1 (by omega) hp
      have := ((ho [o] (List.mem_of_getElem? h1)).2 o (by simp)).2.1
      omega
  | some p =>
    obtain ⟨j, c⟩ := p
    simp only
    obtain ⟨_, _, ⟨s, hs, hsc⟩, hfirst, hmax⟩ := bestK_some (Nat.le_refl _) hb
    obtain ⟨q, o, hq, hqo, hsq⟩ := bidsTo_mem.1 (List.mem_of_getElem? hs)
    have hW : Win bs q c := by
      refine ⟨⟨o, hqo, by rw [← hsc, hsq]⟩, fun r t hr ht => ?_, fun r t ht => ?_⟩
      · obtain ⟨p, hp⟩ := hmem r t ht
        have hpj : p < j := (sorted_idx hsort hp hs).2 (by rw [hsq]; simp only; omega)
        have := ((ho [t] (List.mem_of_getElem? ht)).2 t (by simp)).2.1
        exact hfirst p _ hpj (by omega) (by simp only; omega) hp
      · obtain ⟨p, hp⟩ := hmem r t ht
        exact hmax p _ (List.getElem?_eq_some_iff.1 hp).1 (by omega) hp
    have hsb : (((bidsTo bs bs.length)[j]?.map (·.b)).getD 0) = (q : Int) := by rw [hs, hsq]; rfl
    rw [hsb]
    have hiff : 0 ≤ x ↔ (q : Int) = (i : Int) := by
      rw [hwin]
      constructor
      · rintro ⟨d, hd⟩; have := (hW.uniq hd).1; omega
      · intro h
        have : q = i := by omega
        subst this
        exact ⟨c, hW⟩
    refine ⟨hiff, fun h0 => ?_⟩
    have hqi : q = i := by have := hiff.1 h0; omega
    subst hqi
    -- what it pays is what the others have
    obtain ⟨x0, rfl⟩ : ∃ x0 : Nat, x = (x0 : Int) := ⟨x.toNat, by omega⟩
    rcases choose_get _ _ _ _ hx' with hm1 | ⟨j0, l0, o0, hj0, hl0, ho0⟩
    · omega
    · rw [hqo] at hl0
      have hl0' := (Option.some.inj hl0).symm
      subst hl0'
      have hj00 : j0 = 0 := by
        cases j0 with
        | zero => rfl
        | succ j0 => simp at ho0
      subst hj00
      simp at ho0
      subst ho0
      unfold payAt
      rw [if_neg (by omega), hj0, coinAt_some hqo (show [o][0]? = some o from rfl), hall, hW.mx ho]
      have hwo : woW 1 bs (q : Int) = W (bs.set q []) 1 := by
        unfold woW
        rw [if_pos (instE_withE hi hlt), hall]
        rfl
      have hoc : o.c = c := by rw [← hsc, hsq]
      rw [hwo, hoc]
      have hos : One (bs.set q []) := fun l hl => by
        rcases List.mem_or_eq_of_mem_set hl with h | rfl
        · exact ho l h
        · simp
      have hsame : ∀ (r : Nat) (t : Off), (bs.set q [])[r]? = some [t] ↔ r ≠ q ∧ bs[r]? = some [t] := fun r t => by
        rw [List.getElem?_set]
        by_cases hr : q = r
        · subst hr; simp [hlt]
        · simp [hr]; intro _ e; exact hr e.symm
      have hne : ∀ {p : Nat} {u : Sec}, (bidsTo bs bs.length)[p]? = some u → p ≠ j → u.b ≠ (q : Int) := fun {p u} hp hpj e => by
        have h1 := sorted_idx hsort hp hs
        have h2 := sorted_idx hsort hs hp
        rw [hsq] at h1 h2
        simp only at h1 h2
        omega
      have hgoal : W (bs.set q []) 1 = nextC 0 (bidsTo bs bs.length) j := by
        unfold nextC
        cases hb2 : bestK 0 (j : Int) (bidsTo bs bs.length) (bidsTo bs bs.length).length with
        | none =>
          simp only
          refine Int.le_antisymm (mx_le hos (Int.le_refl _) fun r t ht => ?_) (W_nonneg _ _)
          obtain ⟨hrq, hrt⟩ := (hsame r t).1 ht
          obtain ⟨p, hp⟩ := hmem r t hrt
          have hpj : (p : Int) ≠ (j : Int) := fun e => by
            have : p = j := by omega
            subst this
            rw [hs] at hp
            cases hp
            simp at hsq
            omega
          have : t.c < 0 := bestK_none' (Nat.le_refl _) hb2 p _ (List.getElem?_eq_some_iff.1 hp).1 hpj hp
          omega
        | some p2 =>
          obtain ⟨j2, c2⟩ := p2
          simp only
          obtain ⟨hj2, hf2, ⟨s2, hs2, hsc2⟩, _, hmax2⟩ := bestK_some (Nat.le_refl _) hb2
          obtain ⟨q2, o2, hq2, hqo2, hsq2⟩ := bidsTo_mem.1 (List.mem_of_getElem? hs2)
          have hq2q : q2 ≠ q := fun e => hne hs2 (by omega) (by rw [hsq2]; simp only; omega)
          refine Int.le_antisymm (mx_le hos hf2 fun r t ht => ?_) ?_
          · obtain ⟨hrq, hrt⟩ := (hsame r t).1 ht
            obtain ⟨p, hp⟩ := hmem r t hrt
            have hpj : (p : Int) ≠ (j : Int) := fun e => by
              have : p = j := by omega
              subst this
              rw [hs] at hp
              cases hp
              simp at hsq
              omega
            exact hmax2 p _ (List.getElem?_eq_some_iff.1 hp).1 hpj hp
          · have := mx_ge hos ((hsame q2 o2).2 ⟨hq2q, hqo2⟩)
            rw [← hsc2, hsq2]
            exact this
      rw [hgoal]
      omega
end Go.Proofs.Ytcigobiolbojhaa.Vb

/- Law 17's own: raised. -/
namespace Go.Proofs.Ytcigobiolbojhaa.Vb
open Go.RowKit

theorem badB_raise {all : Nat} {o : Off} {more : Int} (h : badB all o = false) (h1 : 0 ≤ more) (h2 : o.c + more ≤ 1099511627776) : badB all ⟨o.g, o.c + more⟩ = false := by
  simp only [badB, Bool.or_eq_false_iff, beq_eq_false_iff_ne, Bool.not_eq_false', beq_iff_eq, decide_eq_false_iff_not] at h ⊢
  obtain ⟨⟨⟨a, b⟩, c⟩, d⟩ := h
  exact ⟨⟨⟨a, b⟩, by omega⟩, by omega⟩
theorem raiseL_len (l : List Off) (n : Nat) (more : Int) : (raiseL l n more).length = l.length := by simp [raiseL]
theorem checkE_raise {n : Int} {l : List Off} {j : Nat} {o : Off} {more : Int} (h : checkE n l = 0) (ho : l[j]? = some o) (h1 : 0 ≤ more) (h2 : o.c + more ≤ 1099511627776) : checkE n (raiseL l j more) = 0 := by
  unfold checkE at h ⊢
  by_cases hn : n < 1 ∨ 10 < n
  · rw [if_pos hn] at h; cases h
  · rw [if_neg hn] at h ⊢
    by_cases h8 : 8 < l.length
    · rw [if_pos h8] at h; cases h
    · rw [if_neg h8] at h
      rw [if_neg (by rw [raiseL_len]; exact h8)]
      cases hb : badAt (2 ^ n.toNat - 1) l with
      | some k => rw [hb] at h; cases h
      | none =>
        have hall := (badAt_none_iff _ l).1 hb
        have : badAt (2 ^ n.toNat - 1) (raiseL l j more) = none := (badAt_none_iff _ _).2 fun x hx => by
          obtain ⟨i, hi⟩ := List.getElem?_of_mem hx
          rw [raiseL_get] at hi
          cases hl : l[i]? with
          | none => rw [hl] at hi; cases hi
          | some y =>
            rw [hl] at hi
            simp only [Option.map_some, Option.some.injEq] at hi
            by_cases hij : i = j
            · subst hij
              rw [ho] at hl
              have hl' := Option.some.inj hl
              subst hl'
              rw [if_pos rfl] at hi
              subst hi
              exact badB_raise (hall o (List.mem_of_getElem? ho)) h1 h2
            · rw [if_neg hij] at hi
              subst hi
              exact hall y (List.mem_of_getElem? hl)
        rw [this]
theorem withE_in {n : Int} {bs : List (List Off)} {b : Nat} {l : List Off} (h : instE n bs = 0) (hb : b < bs.length) : withE n bs (b : Int) l = checkE n l := by
  unfold withE
  rw [if_neg (by simpa using h), if_neg (by omega)]
theorem raise_set {bs : List (List Off)} {b j : Nat} {l : List Off} {more : Int} (hl : bs[b]? = some l) : bs.set b (raiseL l j more) = raiseB bs b j more := by
  apply List.ext_getElem?
  intro i
  unfold raiseB
  rw [List.getElem?_set, List.getElem?_modify]
  have hlt := (List.getElem?_eq_some_iff.1 hl).1
  by_cases h : b = i
  · subst h
    rw [hl]
    simp [hlt]
  · cases bs[i]? <;> simp [h]
theorem raise_costs {n : Int} {bs : List (List Off)} {b j : Nat} {l : List Off} {o : Off} {more : Int} (hm : 0 < more) (hi : instE n bs = 0) (hi' : instE n (raiseB bs b j more) = 0) (hc : (bestC n bs)[b]? = some (j : Int)) (hl : bs[b]? = some l) (ho : l[j]? = some o) :
    W (raiseB bs b j more) (allOf n) = W bs (allOf n) + more ∧ (bestC n (raiseB bs b j more))[b]? = some (j : Int) ∧ (paysC n (raiseB bs b j more))[b]? = (paysC n bs)[b]? := by
  obtain ⟨h1, h2⟩ := choose_raise hm bs b (allOf n) j l o hc hl ho
  have hlt := (List.getElem?_eq_some_iff.1 hl).1
  refine ⟨h1, h2, ?_⟩
  have hl' : (raiseB bs b j more)[b]? = some (raiseL l j more) := by unfold raiseB; rw [List.getElem?_modify, hl]; simp
  have ho' : (raiseL l j more)[j]? = some ⟨o.g, o.c + more⟩ := by rw [raiseL_get, ho]; simp
  rw [paysC_get h2, paysC_get hc]
  unfold payAt
  rw [if_neg (by omega), if_neg (by omega), coinAt_some hl ho, coinAt_some hl' ho', h1]
  have hset : (raiseB bs b j more).set b [] = bs.set b [] := by
    rw [← raise_set hl, List.set_set]
  unfold woW
  rw [if_pos (instE_withE hi hlt), if_pos (instE_withE hi' (by unfold raiseB; simpa using hlt)), Int.toNat_natCast, hset]
  simp only
  congr 1
  omega

set_option maxHeartbeats 1600000 in
theorem all_raise {l : List Off} {j : Nat} {o : Off} {more : Int} (ho : l[j]? = some o) : (Off.all l).set (j * 2 + 1) (.int .i64 (o.c + more)) = Off.all (raiseL l j more) := by
  induction l generalizing j with
  | nil => simp at ho
  | cons x l ih =>
    cases j with
    | zero => simp at ho; subst ho; rfl
    | succ j =>
      have := ih (j := j) (by simpa using ho)
      have e : raiseL (x :: l) (j + 1) more = x :: raiseL l j more := rfl
      rw [e]
      simp only [Off.all, List.flatMap_cons, Off.cells] at this ⊢
      rw [show (j + 1) * 2 + 1 = j * 2 + 1 + 2 from by omega]
      simp only [List.cons_append, List.nil_append, List.set_cons_succ, this]

set_option maxRecDepth 100000 in
set_option maxHeartbeats 3200000 in
/-- how raised comes out where nothing is raised -/
theorem raised_no (n : Int) (bs : List (List Off)) (buyer more : Int) (W0 : Int) (vx cv pv : Value) (R R1 : Nat → Prop) (w : World) (hl : Buys w R vx bs) (hc : Sl w R1 cv bs.length 1 (ints (bestC n bs))) (_ : bs.length ≤ 40)
    (hno : buyer < 0 ∨ (bs.length : Int) ≤ buyer ∨ (∃ c, (bestC n bs)[buyer.toNat]? = some c ∧ c < 0) ∨ more < 1 ∨ 1000000 < more) :
    Calls Try.prog 34 #[.agg #[.int .i64 n, vx], .agg #[cv, .int .i64 W0, pv], .int .i64 buyer, .int .i64 more] w fun e w' => e = .returned (.bool true) ∧ Below w.heap.size w w' := by
  obtain ⟨_, ⟨_, A, cap, rfl, _⟩, _⟩ := id hl
  obtain ⟨_, CA, cc, rfl, _⟩ := id hc
  have HC := Lib.hid hc
  have hB2 := Lib.hid (((Below.refl w.heap.size w).alloc (Nat.le_refl _) (.cells #[.int .i64 n, .slice A bs.length cap] 24)).alloc (by simp) (.cells #[.slice CA bs.length cc, .int .i64 W0, pv] 36))
  clear hl hc
  by_cases h0 : buyer < 0
  · clear hno
    go_enter Try.func34, Try.ntmps34
    go_wp2
    go_ret
    exact ⟨rfl, hB2.out⟩
  · by_cases h1 : (bs.length : Int) ≤ buyer
    · clear hno
      go_enter Try.func34, Try.ntmps34
      go_wp2
      go_ret
      exact ⟨rfl, hB2.out⟩
    · obtain ⟨b, rfl⟩ := Int.eq_ofNat_of_zero_le (show 0 ≤ buyer by omega)
      rw [Int.toNat_natCast] at hno
      have hb : b < bs.length := by omega
      have hb' : ¬ bs.length ≤ b := by omega
      obtain ⟨bc, oc, c, rfl, _, hcb, hcell⟩ := HC.out.int_at hb
      rw [hcb] at hno
      have hcell' := cellAlloc (cellAlloc hcell (.cells #[.int .i64 n, .slice A bs.length cap] 24)) (.cells #[.slice (some ⟨bc, oc, none⟩) bs.length cc, .int .i64 W0, pv] 36)
      have hno' : c < 0 ∨ more < 1 ∨ 1000000 < more := by
        rcases hno with h | h | ⟨c', h, h'⟩ | h | h
        · omega
        · omega
        · injection h with h; subst h; exact .inl h'
        · exact .inr (.inl h)
        · exact .inr (.inr h)
      clear hno hcb hcell h0 h1 hb'
      by_cases h2 : c < 0
      · clear hno'
        go_enter Try.func34, Try.ntmps34
        go_wp2
        go_ret
        exact ⟨rfl, hB2.out⟩
      · by_cases h3 : more < 1
        · clear hno'
          go_enter Try.func34, Try.ntmps34
          go_wp2
          go_ret
          exact ⟨rfl, hB2.out⟩
        · have h4 : 1000000 < more := by omega
          clear hno'
          go_enter Try.func34, Try.ntmps34
          go_wp2
          go_ret
          exact ⟨rfl, hB2.out⟩

set_option maxRecDepth 100000 in
set_option maxHeartbeats 3200000 in
theorem raised_yes (n : Int) (bs : List (List Off)) (b : Nat) (more : Int) (j : Nat) (l : List Off) (o : Off) (vx cv pv : Value) (R R1 R2 : Nat → Prop) (w : World) (hl : Buys w R vx bs) (hi : instE n bs = 0)
    (hc : Sl w R1 cv bs.length 1 (ints (bestC n bs))) (hp : Sl w R2 pv bs.length 1 (ints (paysC n bs))) (hb : b < bs.length) (hcb : (bestC n bs)[b]? = some (j : Int)) (hlb : bs[b]? = some l) (ho : l[j]? = some o) (hm1 : 1 ≤ more) (hm2 : more ≤ 1000000) :
    Calls Try.prog 34 #[.agg #[.int .i64 n, vx], .agg #[cv, .int .i64 (W bs (allOf n)), pv], .int .i64 (b : Int), .int .i64 more] w fun e w' => e = .returned (.bool true) ∧ Below w.heap.size w w' := by
  have HB := Lib.hid hl
  have HCV := Lib.hid hc
  have HPV := Lib.hid hp
  have HI := Lib.hid hi
  have hbl := (instE_zero hi).2.2.1
  have hl8 := (instE_zero hi).2.2.2.1 l (List.mem_of_getElem? hlb)
  have hlen := List.getElem?_eq_some_iff.1 ho |>.1
  obtain ⟨vs, ⟨hvl, A, cap, rfl, hncap, hcap, hcells⟩, hvs⟩ := id hl
  obtain ⟨_, CA, cc, rfl, _⟩ := id hc
  obtain ⟨_, PA, pc, rfl, _⟩ := id hp
  obtain ⟨bq, off, rfl, _, hbq, hcs⟩ := hcells (by omega)
  obtain ⟨u, hu, hol⟩ := hvs b l hlb
  have hcu := hcs _ _ hu
  obtain ⟨⟨_, A1, cap1, rfl, _⟩, _⟩ := id hol
  obtain ⟨bc, oc, c, rfl, hbc, hcb', hcell⟩ := hc.int_at hb
  rw [hcb] at hcb'
  have hcc := (Option.some.inj hcb').symm
  subst hcc
  have HOL := Lib.hid hol
  have HCU := Lib.hid hcu
  have HCE := Lib.hid hcell
  obtain ⟨hof, ho0, ho1⟩ := HOL.out.2 o (List.mem_of_getElem? ho)
  have hok := ((okb_of (buys_wf hl) hi).1.offer hlb ho).2.2
  obtain ⟨hok1, hok2⟩ := hok
  have HO := Lib.hid ho
  have HLB := Lib.hid hlb
  have HCB := Lib.hid hcb
  have hbi : ¬ (bs.length : Int) ≤ (b : Int) := by omega
  have hbn : ¬ bs.length ≤ b := by omega
  have e1 : (0 : Int) ≤ (b : Int) := by omega
  have e2 : (b : Int) < (bs.length : Int) := by omega
  have e3 : (0 : Int) ≤ (j : Int) := by omega
  have e4 : (j : Int) < (l.length : Int) := by omega
  have hm3 : ¬ more < 1 := by omega
  have hm4 : ¬ 1000000 < more := by omega
  -- the world behind the two boxes
  have hX := (Blk.new w 24 #[.int .i64 n, .slice (some ⟨bq, off, none⟩) bs.length cap]).alloc (.cells #[.slice (some ⟨bc, oc, none⟩) bs.length cc, .int .i64 (W bs (allOf n)), .slice PA bs.length pc] 36)
  have hP : Blk ((w.alloc (.cells #[.int .i64 n, .slice (some ⟨bq, off, none⟩) bs.length cap] 24)).alloc (.cells #[.slice (some ⟨bc, oc, none⟩) bs.length cc, .int .i64 (W bs (allOf n)), .slice PA bs.length pc] 36)) (w.heap.size + 1) 36 #[.slice (some ⟨bc, oc, none⟩) bs.length cc, .int .i64 (W bs (allOf n)), .slice PA bs.length pc] := Blk.new' _ _ (by simp)
  have hB0 : Below w.heap.size w ((w.alloc (.cells #[.int .i64 n, .slice (some ⟨bq, off, none⟩) bs.length cap] 24)).alloc (.cells #[.slice (some ⟨bc, oc, none⟩) bs.length cc, .int .i64 (W bs (allOf n)), .slice PA bs.length pc] 36)) := ((Below.refl _ _).alloc (Nat.le_refl _) _).alloc (by simp) _
  have HX := Lib.hid hX
  have HP := Lib.hid hP
  have HB0 := Lib.hid hB0
  have d1 := (hB0.cell (p := ⟨bq, off + b, none⟩) hbq).trans hcu
  have d2 := (hB0.cell (p := ⟨bc, oc + b, none⟩) hbc).trans hcell
  have d3 := cellAlloc d1 (.cells #[] 45)
  have z1 : decide ((b : Int) < 0) = false := by simp
  have z2 : decide ((j : Int) < 0) = false := by simp
  have hown0 : (((w.alloc (.cells #[.int .i64 n, .slice (some ⟨bq, off, none⟩) bs.length cap] 24)).alloc (.cells #[.slice (some ⟨bc, oc, none⟩) bs.length cc, .int .i64 (W bs (allOf n)), .slice PA bs.length pc] 36)).alloc (.cells #[] 45)).ownsRow (w.heap.size + 2) 45 2 (.slice (some ⟨w.heap.size + 1 + 1, 0, none⟩) 0 0) 0 [] := by
    have h := own_empty ((w.alloc (.cells #[.int .i64 n, .slice (some ⟨bq, off, none⟩) bs.length cap] 24)).alloc (.cells #[.slice (some ⟨bc, oc, none⟩) bs.length cc, .int .i64 (W bs (allOf n)), .slice PA bs.length pc] 36)) (base := w.heap.size + 2) (by simp) 45 2
    simpa using h
  have HOWN0 := Lib.hid hown0
  clear hl hc hp hi hcells hvs hcs hu hol hcu hcell hX hP hB0 ho hlb hcb hcb' hvl hcap hown0
  go_enter Try.func34, Try.ntmps34
  go_wp2_with (
    at_builtin
    go_must (
      refine wpList_app _ rfl (.tmp 40) (.tmp 45) et_off rfl (w.heap.size + 2) (.slice (some ⟨w.heap.size + 1 + 1, 0, none⟩) 0 0) 0 [] rfl HOWN0.out R _ l.length (Off.all l) rfl ((HOL.out.grow HB0.out).1.alloc _) (Off.all_one l) (by omega) (by unfold maxLen; omega) (by simp) ?_
      intro A2 c2 w1 hown hg hloc
      rw [Nat.zero_add, List.nil_append] at hown
      rw [Nat.zero_add]
      obtain ⟨gA, ck, hform, hgA, hgA2⟩ := World.ownsRow.form hown (by omega)
      injection hform with hA _ hc2
      subst hA hc2
      have hB1 := (HB0.out.alloc (by simp; omega) (.cells #[] 45)).grown hg (by simp; omega) (fun g e => by simp [Value.ownBlock] at e; omega)
      have hX1 := (HX.out.alloc (.cells #[] 45)).grown hg (by simp [Value.ownBlock]; omega)
      have hP1 := (HP.out.alloc (.cells #[] 45)).grown hg (by simp [Value.ownBlock])
      have x0 : w1.cell? ⟨w.heap.size, 0, none⟩ = some (.int .i64 n) := hX1.cell 0
      have x1 : w1.cell? ⟨w.heap.size, 1, none⟩ = some (.slice (some ⟨bq, off, none⟩) bs.length cap) := hX1.cell 1
      have p0 : w1.cell? ⟨w.heap.size + 1, 0, none⟩ = some (.slice (some ⟨bc, oc, none⟩) bs.length cc) := hP1.cell 0
      have d4 := (hB1.cell (p := ⟨bc, oc + b, none⟩) hbc).trans HCE.out
      have hoc := hown.cellAt (j * 2 + 1) (by omega)
      rw [Off.all_snd l j o HO.out] at hoc
      have hof1 := hown.frozenAt (j * 2 + 1)
      have hst := (hown.stored (j * 2 + 1) (.int .i64 (o.c + more)))
      have hwr : IntKind.i64.wrap (o.c + more) = o.c + more := IntWalk.i64_in _ (by omega)
      have HST := Lib.hid hst.1
      have HB1 := Lib.hid hB1
      have HX1 := Lib.hid hX1
      have HP1 := Lib.hid hP1
      have HOW := Lib.hid hown
      clear hown hg hloc hst hB1 hX1 hP1 d1 d2 d3
      have x0' : (w1.setCell ⟨gA, j * 2 + 1, none⟩ (.int .i64 (o.c + more))).cell? ⟨w.heap.size, 0, none⟩ = some (.int .i64 n) := (HX1.out.far (p := ⟨gA, j * 2 + 1, none⟩) (by simp; omega) (.int .i64 (o.c + more))).cell 0
      have x1' : (w1.setCell ⟨gA, j * 2 + 1, none⟩ (.int .i64 (o.c + more))).cell? ⟨w.heap.size, 1, none⟩ = some (.slice (some ⟨bq, off, none⟩) bs.length cap) := (HX1.out.far (p := ⟨gA, j * 2 + 1, none⟩) (by simp; omega) (.int .i64 (o.c + more))).cell 1))
  have hoff : Offs (w1.setCell ⟨gA, j * 2 + 1, none⟩ (.int .i64 (o.c + more))) (fun _ => True) (.slice (some ⟨gA, 0, none⟩) l.length c2) (raiseL l j more) := by
    have h := HST.out
    rw [all_raise HO.out] at h
    refine ⟨by rw [raiseL_len]; exact (Sl.of_own h).mono fun _ _ _ => trivial, fun x hx => ?_⟩
    obtain ⟨i, hi⟩ := List.getElem?_of_mem hx
    rw [raiseL_get] at hi
    cases hl : l[i]? with
    | none => rw [hl] at hi; cases hi
    | some y =>
      rw [hl] at hi
      simp only [Option.map_some, Option.some.injEq] at hi
      have hy := HOL.out.2 y (List.mem_of_getElem? hl)
      split at hi
      · rename_i hij
        subst hij
        rw [HO.out] at hl
        have hl' := Option.some.inj hl
        subst hl'
        subst hi
        exact ⟨hy.1, by show -9223372036854775808 ≤ o.c + more; omega, by show o.c + more ≤ 9223372036854775807; omega⟩
      · subst hi
        exact hy
  have HOFF := Lib.hid hoff
  have HBS := Lib.hid (HB1.out.setCell (p := ⟨gA, j * 2 + 1, none⟩) (by simp; omega) (.int .i64 (o.c + more)))
  have hset := raise_set (more := more) (j := j) HLB.out
  have HSET := Lib.hid hset
  have hgc : (w1.setCell ⟨gA, j * 2 + 1, none⟩ (.int .i64 (o.c + more))).cell? ⟨gA, j * 2 + 1, none⟩ = some (.int .i64 (o.c + more)) := World.cell?_setCell_same' w1 ⟨gA, j * 2 + 1, none⟩ _ (by rw [hoc]; rfl)
  have HGC := Lib.hid hgc
  have hPs := HP1.out.far (p := ⟨gA, j * 2 + 1, none⟩) (by simp; omega) (.int .i64 (o.c + more))
  have HPs := Lib.hid hPs
  obtain ⟨u1, hu1⟩ : ∃ u, u = w1.setCell ⟨gA, j * 2 + 1, none⟩ (.int .i64 (o.c + more)) := ⟨_, rfl⟩
  rw [← hu1] at HOFF HBS HGC HPs ⊢
  clear hoff hset hgc x0 x1 p0 d4 hoc hof1 x0' x1' hPs hu1
  have hwin := withE_in (l := raiseL l j more) HI.out hb
  by_cases hce : checkE n (raiseL l j more) = 0
  · have hwz : withE n bs (b : Int) (raiseL l j more) = 0 := hwin.trans hce
    have hi' : instE n (raiseB bs b j more) = 0 := by rw [← HSET.out]; exact instE_set HI.out (by rw [raiseL_len]; exact hl8) hce
    obtain ⟨hr1, hr2, hr3⟩ := raise_costs (by omega) HI.out hi' HCB.out HLB.out HO.out
    have HR1 := Lib.hid hr1
    have HR2 := Lib.hid hr2
    have HR3 := Lib.hid hr3
    have HWZ := Lib.hid hwz
    have HI' := Lib.hid hi'
    have hlen2 : (raiseB bs b j more).length = bs.length := by simp [raiseB]
    have HLEN := Lib.hid hlen2
    clear hwin hce hwz hi' hr1 hr2 hr3 hlen2
    refine (with_ok n bs (b : Int) (raiseL l j more) _ _ R _ _ (HB.out.grow HBS.out) HOFF.out HWZ.out).mono ?_
    rintro e w2 ⟨A3, k3, rfl, hob, hb2⟩
    rw [Int.toNat_natCast, HSET.out] at hob
    have HOB := Lib.hid hob
    have HB2 := Lib.hid (HBS.out.trans (hb2.mono HBS.out.size))
    have HP2 := Lib.hid (HPs.out.grow hb2)
    clear hob hb2
    go_wp2_with (go_at_call 18; refine (num_any 0 (by decide) (by decide) _).mono ?_; rintro e w9 ⟨rfl, rfl⟩)
    have hcost := costs_ok n (raiseB bs b j more) (.slice A3 bs.length k3) _ (w2.alloc (.cells #[.int .i64 n, .slice A3 bs.length k3] 24)) (HOB.out.buys.alloc _) HI'.out
    refine hcost.mono ?_
    rw [HLEN.out]
    rintro e w3 ⟨CQ, cq, PQ, pq, rfl, hoc3, hop3, hb3⟩
    have hP3 := (HP2.out.alloc (.cells #[.int .i64 n, .slice A3 bs.length k3] 24)).grow hb3
    have hW0 := W_nonneg bs (allOf n)
    have hW1 : W bs (allOf n) ≤ 35184372088832 := by simpa using (okb_of (buys_wf HB.out) HI.out).1.W_le 0 (allOf n)
    have hwrp : IntKind.i64.wrap (W bs (allOf n) + more) = W bs (allOf n) + more := IntWalk.i64_in _ (by omega)
    have hBU := (HB2.out.alloc HB2.out.size (.cells #[.int .i64 n, .slice A3 bs.length k3] 24)).trans (hb3.mono (B' := w.heap.size) (by have := HB2.out.size; simp; omega))
    obtain ⟨b1, o1, y1, rfl, _, hy1, hcy1⟩ := (Sl.of_own hoc3).int_at hb
    rw [HR2.out] at hy1
    have hy1' := (Option.some.inj hy1).symm
    subst hy1'
    obtain ⟨b2, o2, y2, rfl, _, hy2, hcy2⟩ := (Sl.of_own hop3).int_at hb
    obtain ⟨b3, o3, y3, rfl, _, hy3, hcy3⟩ := (HPV.out.grow hBU).int_at hb
    rw [HR3.out, hy3] at hy2
    have hy2' := (Option.some.inj hy2).symm
    subst hy2'
    have s1 := cellAlloc hcy1 (.cells #[.slice (some ⟨b1, o1, none⟩) bs.length cq, .int .i64 (W (raiseB bs b j more) (allOf n)), .slice (some ⟨b2, o2, none⟩) bs.length pq] 36)
    have s2 := cellAlloc hcy2 (.cells #[.slice (some ⟨b1, o1, none⟩) bs.length cq, .int .i64 (W (raiseB bs b j more) (allOf n)), .slice (some ⟨b2, o2, none⟩) bs.length pq] 36)
    have s3 := cellAlloc hcy3 (.cells #[.slice (some ⟨b1, o1, none⟩) bs.length cq, .int .i64 (W (raiseB bs b j more) (allOf n)), .slice (some ⟨b2, o2, none⟩) bs.length pq] 36)
    rw [HR1.out] at s1 s2 s3 ⊢
    have hP4 := hP3.alloc (.cells #[.slice (some ⟨b1, o1, none⟩) bs.length cq, .int .i64 (W bs (allOf n) + more), .slice (some ⟨b2, o2, none⟩) bs.length pq] 36)
    have p1 := hP4.cell 1
    have p2 := hP4.cell 2
    have hBF := hBU.alloc hBU.size (.cells #[.slice (some ⟨b1, o1, none⟩) bs.length cq, .int .i64 (W bs (allOf n) + more), .slice (some ⟨b2, o2, none⟩) bs.length pq] 36)
    have HBF := Lib.hid hBF
    simp at p1 p2
    clear hP3 hP4 hBU hBF hoc3 hop3 hb3 hy1 hy2 hy3 hcy1 hcy2 hcy3 hcost
    go_wp2_with fail
    go_quiet ((go_at_call 18; exact quiet_left (num_any 0 (by decide) (by decide) _)))
    go_wp2_with fail
    go_ret
    exact ⟨rfl, below_drewN HBF.out _⟩
  · have hgt : 1099511627776 < o.c + more := by
      rcases Int.lt_or_le 1099511627776 (o.c + more) with h | h
      · exact h
      · exact absurd (checkE_raise ((instE_zero HI.out).2.2.2.2 l (List.mem_of_getElem? HLB.out)) HO.out (by omega) h) hce
    have hwz : withE n bs (b : Int) (raiseL l j more) ≠ 0 := by rw [hwin]; exact hce
    have hwb := withE_bd n bs (b : Int) (raiseL l j more)
    obtain ⟨we, hwe⟩ : ∃ we, we = withE n bs (b : Int) (raiseL l j more) := ⟨_, rfl⟩
    have HWZ := Lib.hid hwz
    have HWE := Lib.hid hwe
    rw [← hwe] at hwb hwz
    have hwb' : (we != 0) = true := by simpa using hwz
    obtain ⟨hwb1, hwb2⟩ := hwb
    clear hwin hce hwz hwe
    refine (with_err n bs (b : Int) (raiseL l j more) _ _ R _ _ (HB.out.grow HBS.out) HOFF.out HWZ.out).mono ?_
    rintro e w2 ⟨rfl, hb2⟩
    rw [← HWE.out]
    have hgc2 := (hb2.cell (p := ⟨gA, j * 2 + 1, none⟩) (World.block_lt_of_cell? _ _ HGC.out)).trans HGC.out
    have hgc3 := cellAlloc hgc2 (.cells #[.int .i64 0, .slice none 0 0] 24)
    have HB2 := Lib.hid (HBS.out.trans (hb2.mono HBS.out.size))
    clear hb2
    go_wp2_with (go_at_call 18; refine (num_any _ (by omega) (by omega) _).mono ?_; rintro e w9 ⟨rfl, rfl⟩)
    go_ret
    exact ⟨by first | rfl | simp [hgt], HB2.out.alloc HB2.out.size _⟩
end Go.Proofs.Ytcigobiolbojhaa.Vb

/- Law 17's own: single. -/
namespace Go.Proofs.Ytcigobiolbojhaa.Vb
open Go.RowKit

theorem Offs.at_ {w : World} {R : Nat → Prop} {A : Option Addr} {n c k : Nat} {l : List Off} {o : Off} (h : Offs w R (.slice A n c) l) (hk : l[k]? = some o) :
    ∃ b off, A = some ⟨b, off, none⟩ ∧ b < w.heap.size ∧ w.cell? ⟨b, off + k * 2, none⟩ = some (.int .u32 o.g) ∧ w.cell? ⟨b, off + k * 2 + 1, none⟩ = some (.int .i64 o.c) := by
  obtain ⟨⟨_, A', c', hv, _, _, hcs⟩, _⟩ := h
  injection hv with hA _ _
  subst hA
  have hlt := (List.getElem?_eq_some_iff.1 hk).1
  obtain ⟨b, off, hA, _, hlt2, hcc⟩ := hcs (by omega)
  exact ⟨b, off, hA, hlt2, hcc _ _ (Off.all_fst l k o hk), hcc _ _ (Off.all_snd l k o hk)⟩
theorem et_sec : ElemT Try.prog 116 148 2 16 := elemT_of Try.underlying116 (by omega) (z := .agg #[.int .i64 0, .int .i64 0]) (by kernel_rfl) rfl

theorem one_of {bs : List (List Off)} (hw : ∀ l ∈ bs, ∀ o ∈ l, o.wf) (hi : instE 1 bs = 0) (h : ∀ l ∈ bs, l.length ≤ 1) : One bs := fun l hl => by
  obtain ⟨hok, hg⟩ := okb_of hw hi
  refine ⟨h l hl, fun o ho => ?_⟩
  obtain ⟨h1, _, h3, h4⟩ := (hok.2 l hl).2 o ho
  have : o.g ≤ 1 := by simpa using hg l hl o ho
  exact ⟨by omega, h3, h4⟩
theorem sell_single {bs : List (List Off)} (ho : One bs) (_ : bs.length ≤ 32) : sellE 0 (bidsTo bs bs.length) = 0 := by
  have hb : sellBad 0 (bidsTo bs bs.length) = false := by
    unfold sellBad
    simp only [Bool.or_eq_false_iff, Bool.not_eq_false', List.any_eq_false]
    refine ⟨by decide, fun s hs => ?_⟩
    obtain ⟨i, o, hi, hio, rfl⟩ := bidsTo_mem.1 hs
    have := ((ho [o] (List.mem_of_getElem? hio)).2 o (by simp)).2
    simp only [secBad, Bool.or_eq_true, decide_eq_true_eq, not_or, Bool.not_eq_true', Bool.not_eq_false]
    exact ⟨by omega, by rw [coinB_iff]; omega⟩
  unfold sellE
  rw [if_neg (by rw [hb]; decide), if_pos]
  have := bidsTo_sorted bs bs.length
  rw [List.Nodup, List.pairwise_map]
  exact this.imp fun h e => by omega
theorem secs_wf {bs : List (List Off)} (hw : ∀ l ∈ bs, ∀ o ∈ l, o.wf) (hlen : bs.length ≤ 32) (k : Nat) (hk : k ≤ bs.length) : ∀ s ∈ bidsTo bs k, s.wf := fun s hs => by
  obtain ⟨i, o, hi, hio, rfl⟩ := bidsTo_mem.1 hs
  have := hw [o] (List.mem_of_getElem? hio) o (by simp)
  exact ⟨⟨by simp only; omega, by simp only; omega⟩, this.2.1, this.2.2⟩

set_option maxRecDepth 100000 in
set_option maxHeartbeats 3200000 in
theorem single_any (n : Int) (bs : List (List Off)) (W0 : Int) (vx cv pv : Value) (R R1 R2 : Nat → Prop) (w : World) (hl : Buys w R vx bs) (hi : instE n bs = 0) (hc : Sl w R1 cv bs.length 1 (ints (bestC n bs))) (hp : Sl w R2 pv bs.length 1 (ints (paysC n bs))) :
    Calls Try.prog 35 #[.agg #[.int .i64 n, vx], .agg #[cv, .int .i64 W0, pv]] w fun e w' => e = .returned (.bool true) ∧ Below w.heap.size w w' := by
  have HB := Lib.hid hl
  have HCV := Lib.hid hc
  have HPV := Lib.hid hp
  obtain ⟨vs, ⟨_, A, cap, rfl, hncap, hcap, hcells⟩, hvs⟩ := id hl
  obtain ⟨_, CA, cc, rfl, _⟩ := id hc
  obtain ⟨_, PA, pc, rfl, _⟩ := id hp
  have hlen := (instE_zero hi).2.2.1
  by_cases hn : n = 1
  · subst hn
    have HWF := Lib.hid (buys_wf hl)
    have HI := Lib.hid hi
    have HC := Lib.hid hcells
    have HV := Lib.hid hvs
    clear hl hc hp hcells hvs hi hcap
    go_enter Try.func35, Try.ntmps35
    go_wp2_with fail
    obtain ⟨U0, hU0⟩ : ∃ U, U = (w.alloc (.cells #[.int .i64 1, .slice A bs.length cap] 24)).alloc (.cells #[.slice CA bs.length cc, .int .i64 W0, .slice PA bs.length pc] 36) := ⟨_, rfl⟩
    have hX : Blk U0 w.heap.size 24 #[.int .i64 1, .slice A bs.length cap] := by rw [hU0]; exact (Blk.new w _ _).alloc _
    have hP : Blk U0 (w.heap.size + 1) 36 #[.slice CA bs.length cc, .int .i64 W0, .slice PA bs.length pc] := by rw [hU0]; exact Blk.new' _ _ (by simp)
    have hB : Below w.heap.size w U0 := by rw [hU0]; exact ((Below.refl _ _).alloc (Nat.le_refl _) _).alloc (by simp) _
    have hs0 : w.heap.size + 2 ≤ U0.heap.size := by rw [hU0]; simp
    rw [← hU0]
    have HX := Lib.hid hX
    have HP := Lib.hid hP
    have HBU := Lib.hid hB
    clear hU0 hX hP hB
    go_loopw [5, 6] (fun b i wr => ∃ (k : Nat) (A' : Option Addr) (c' : Nat), k ≤ bs.length ∧ i = .int .i64 k ∧ b = .slice A' (bidsTo bs k).length c' ∧ wr.ownsRow (w.heap.size + 2) 148 2 (.slice A' (bidsTo bs k).length c') (bidsTo bs k).length (Sec.all (bidsTo bs k)) ∧
      Below (w.heap.size + 2) U0 wr ∧ ∀ j l, j < k → bs[j]? = some l → l.length ≤ 1) (fun _ i _ => bs.length - (intOf i).toNat)
    case atStart => exact ⟨0, none, 0, Nat.zero_le _, rfl, rfl, World.ownsRow_nil _ _ _ _, Below.refl _ _, fun j l hj => by omega⟩
    case round =>
      obtain ⟨k, A', c', hk, rfl, rfl, how, hb, hno⟩ := hrel
      have HOW := Lib.hid how
      have HB2 := Lib.hid hb
      have HNO := Lib.hid hno
      have hbw := HBU.out.trans (hb.mono (B' := w.heap.size) (by omega))
      have HBW := Lib.hid hbw
      have hXr := HX.out.below hb (by omega)
      have hPr := HP.out.below hb (by omega)
      have x0 : wr.cell? ⟨w.heap.size, 0, none⟩ = some (.int .i64 1) := hXr.cell 0
      have x1 : wr.cell? ⟨w.heap.size, 1, none⟩ = some (.slice A bs.length cap) := hXr.cell 1
      have HXr := Lib.hid hXr
      have HPr := Lib.hid hPr
      have hbl := bidsTo_len bs k
      have hszr : w.heap.size + 2 ≤ wr.heap.size := Nat.le_trans hs0 hb.size
      clear how hb hno hbw hXr hPr
      by_cases hlt : k < bs.length
      · obtain ⟨bq, off, rfl, _, hbq, hcs⟩ := HC.out (by omega)
        obtain ⟨l, ho⟩ : ∃ l, bs[k]? = some l := ⟨_, List.getElem?_eq_getElem hlt⟩
        obtain ⟨u, hu, hol⟩ := HV.out k l ho
        have c0 := (HBW.out.cell (p := ⟨bq, off + k, none⟩) hbq).trans (hcs _ _ hu)
        have hol' := hol.grow HBW.out
        obtain ⟨⟨_, A1, cap1, rfl, _⟩, _⟩ := id hol'
        have HO := Lib.hid ho
        have HOL := Lib.hid hol'
        have e1 : (0 : Int) ≤ (k : Int) := by omega
        have e2 : (k : Int) < (bs.length : Int) := by omega
        clear hcs hu hol hol' ho
        by_cases hl1 : 1 < l.length
        · go_wp2_with fail
          go_ret
          exact ⟨rfl, HBW.out⟩
        · by_cases hl0 : l.length = 1
          · obtain ⟨o, hlo⟩ : ∃ o, l = [o] := by
              rcases one_list (show l.length ≤ 1 by omega) with h | h
              · rw [h] at hl0; simp at hl0
              · exact h
            subst hlo
            obtain ⟨bo, oo, rfl, hbo, hc0, hc1⟩ := HOL.out.at_ (k := 0) (o := o) rfl
            have hsu : bidsTo bs (k + 1) = bidsTo bs k ++ [⟨k, o.c⟩] := by simp only [bidsTo]; rw [HO.out]
            have HSU := Lib.hid hsu
            rw [show oo + 0 * 2 + 1 = oo + 1 by omega] at hc1
            clear hsu hc0 hl0 hl1
            go_wp2_with (at_builtin; refine wpList_app _ rfl (.tmp 35) (.tmp 46) et_sec rfl (w.heap.size + 2) (.slice A' (bidsTo bs k).length c') (bidsTo bs k).length (Sec.all (bidsTo bs k)) rfl (own_alloc HOW.out _) (fun _ => True) (.slice (some ⟨wr.heap.size, 0, none⟩) 1 1) 1 [.int .i64 (k : Int), .int .i64 o.c] rfl (Sl.any (Sl.new wr #[.int .i64 (k : Int), .int .i64 o.c] _ 1 2 (by unfold maxLen; omega) rfl)) (by simp [Value.oneCell']) (by omega) (by unfold maxLen; omega) (by simp; omega) ?_; intro A2 c2 w1 hown hg hloc; have HG := Lib.hid hg; have HN := Lib.hid hown; clear hown hg hloc)
            go_roundw
            case rel =>
              have hN := HN.out
              rw [Sec.all_app (bidsTo bs k) ⟨(k : Int), o.c⟩] at hN
              refine ⟨k + 1, A2, c2, by omega, by go_num, by rw [HSU.out]; simp, ?_, ?_, fun j l' hj hl' => ?_⟩
              · rw [HSU.out]
                simpa using hN
              · exact (HB2.out.alloc (by omega) _).grown HG.out (by simp; omega) (fun g e => (HOW.out.lt _ e).1)
              · by_cases hjk : j < k
                · exact HNO.out j l' hjk hl'
                · obtain rfl : j = k := by omega
                  rw [HO.out] at hl'
                  cases hl'
                  simp
            case measure => simp [intOf]; omega
          · have hlz : l.length = 0 := by omega
            have hlnil : l = [] := List.eq_nil_of_length_eq_zero hlz
            subst hlnil
            have hsu : bidsTo bs (k + 1) = bidsTo bs k := by simp only [bidsTo]; rw [HO.out]
            have HSU := Lib.hid hsu
            clear hsu hl0 hl1 hlz
            go_wp2_with fail
            go_roundw
            case rel =>
              refine ⟨k + 1, A', c', by omega, by go_num, by rw [HSU.out], by rw [HSU.out]; exact HOW.out, HB2.out, fun j l' hj hl' => ?_⟩
              by_cases hjk : j < k
              · exact HNO.out j l' hjk hl'
              · obtain rfl : j = k := by omega
                rw [HO.out] at hl'
                cases hl'
                simp
            case measure => simp [intOf]; omega
      · obtain rfl : k = bs.length := by omega
        have hone : One bs := one_of HWF.out HI.out fun l hl => by
          obtain ⟨j, hj, rfl⟩ := List.getElem_of_mem hl
          exact HNO.out j _ hj (List.getElem?_eq_getElem hj)
        have hse := sell_single hone hlen
        have hsp := single_plain hone HI.out
        have hsv : sellV 0 (bidsTo bs bs.length) = soldVal 0 (bidsTo bs bs.length) := by unfold sellV; rw [hse, if_pos rfl]
        have hsecs : Secs wr (fun _ => True) (.slice A' (bidsTo bs bs.length).length c') (bidsTo bs bs.length) := ⟨(Sl.of_own HOW.out).any, secs_wf HWF.out hlen _ (Nat.le_refl _)⟩
        have HSE := Lib.hid hse
        have HSP := Lib.hid hsp
        have HSV := Lib.hid hsv
        have HSC := Lib.hid hsecs
        obtain ⟨vb, vw, vc, vp, hform⟩ := soldVal_form 0 (bidsTo bs bs.length)
        have HF := Lib.hid hform
        clear hse hsp hsv hsecs hone hform x0
        go_wp2_with (first
          | (go_at_call 91; refine (sell_any 0 _ _ _ _ HSC.out).mono ?_; rintro e w2 ⟨rfl, hb2⟩; rw [HSE.out, HSV.out, HF.out]; have hX := HXr.out.grow hb2; have hP := HPr.out.grow hb2; have x1 : w2.cell? ⟨w.heap.size, 1, none⟩ = some (.slice A bs.length cap) := hX.cell 1; have HX2 := Lib.hid hX; have HP2 := Lib.hid hP; have HB3 := Lib.hid (HBW.out.trans (hb2.mono HBW.out.size)); clear hb2 hX hP)
          | (go_at_call 18; refine (num_any 0 (by decide) (by decide) _).mono ?_; rintro e w9 ⟨rfl, rfl⟩))
        have hag : ∀ (i : Nat) (x : Int), (bestC 1 bs)[i]? = some x → ((vb = true ∧ vw = (i : Int)) ↔ 0 ≤ x) ∧ (0 ≤ x → payAt 1 bs i x = vp) := by
          intro i x hx
          have h1 := HSP.out i x hx
          have h2 := HF.out
          unfold soldVal at h2
          cases hbk : bestK 0 (-1) (bidsTo bs bs.length) (bidsTo bs bs.length).length with
          | none =>
            rw [hbk] at h1 h2
            simp only [Value.agg.injEq, Array.mk.injEq, List.cons.injEq, Value.bool.injEq, Value.int.injEq, true_and, and_true] at h2
            obtain ⟨rfl, _⟩ := h2
            simp only at h1
            exact ⟨⟨fun h => by simp at h, fun h => by omega⟩, fun h => by omega⟩
          | some p =>
            obtain ⟨j, c⟩ := p
            rw [hbk] at h1 h2
            simp only [Value.agg.injEq, Array.mk.injEq, List.cons.injEq, Value.bool.injEq, Value.int.injEq, true_and, and_true] at h2
            obtain ⟨rfl, rfl, _, rfl⟩ := h2
            simp only at h1
            exact ⟨⟨fun h => h1.1.2 h.2, fun h => ⟨rfl, h1.1.1 h⟩⟩, h1.2⟩
        have hS := Blk.new w2 150 #[.bool vb, .int .i64 vw, .int .i64 vc, .int .i64 vp]
        have hX := HX2.out.alloc (.cells #[.bool vb, .int .i64 vw, .int .i64 vc, .int .i64 vp] 150)
        have hP := HP2.out.alloc (.cells #[.bool vb, .int .i64 vw, .int .i64 vc, .int .i64 vp] 150)
        have hB4 := HB3.out.alloc HB3.out.size (.cells #[.bool vb, .int .i64 vw, .int .i64 vc, .int .i64 vp] 150)
        obtain ⟨U4, hU4⟩ : ∃ U, U = w2.alloc (.cells #[.bool vb, .int .i64 vw, .int .i64 vc, .int .i64 vp] 150) := ⟨_, rfl⟩
        rw [← hU4] at hS hX hP hB4 ⊢
        have HS4 := Lib.hid hS
        have HX4 := Lib.hid hX
        have HP4 := Lib.hid hP
        have HB4 := Lib.hid hB4
        have HAG := Lib.hid hag
        clear hS hX hP hB4 hU4 hag x1 hlt
        go_loopw [9] (fun i wr => ∃ k : Nat, k ≤ bs.length ∧ i = .int .i64 k ∧ Below U4.heap.size U4 wr) (fun i _ => bs.length - (intOf i).toNat)
        case atStart => exact ⟨0, Nat.zero_le _, rfl, Below.refl _ _⟩
        case round =>
          obtain ⟨k, hk, rfl, hb⟩ := hrel
          have HBB := Lib.hid hb
          have hX := HX4.out.grow hb
          have hP := HP4.out.grow hb
          have hS := HS4.out.grow hb
          have x1 : wr.cell? ⟨w.heap.size, 1, none⟩ = some (.slice A bs.length cap) := hX.cell 1
          by_cases hlt : k < bs.length
          · have hbw := HB4.out.trans (hb.mono (B' := w.heap.size) HB4.out.size)
            obtain ⟨b1, o1, c, rfl, _, hcc, hc1⟩ := (HCV.out.grow hbw).int_at hlt
            obtain ⟨b2, o2, y, rfl, _, hyy, hc2⟩ := (HPV.out.grow hbw).int_at hlt
            have hyp : y = payAt 1 bs k c := by rw [paysC_get hcc] at hyy; exact (Option.some.inj hyy).symm
            obtain ⟨ha1, ha2⟩ := HAG.out k c hcc
            have p0 : wr.cell? ⟨w.heap.size + 1, 0, none⟩ = some (.slice (some ⟨b1, o1, none⟩) bs.length cc) := hP.cell 0
            have p2 : wr.cell? ⟨w.heap.size + 1, 2, none⟩ = some (.slice (some ⟨b2, o2, none⟩) bs.length pc) := hP.cell 2
            have s0 : wr.cell? ⟨w2.heap.size, 0, none⟩ = some (.bool vb) := hS.cell 0
            have s1 : wr.cell? ⟨w2.heap.size, 1, none⟩ = some (.int .i64 vw) := hS.cell 1
            have s3 : wr.cell? ⟨w2.heap.size, 3, none⟩ = some (.int .i64 vp) := hS.cell 3
            have e1 : (0 : Int) ≤ (k : Int) := by omega
            have e2 : (k : Int) < (bs.length : Int) := by omega
            cases vb with
            | false =>
              have hneg : decide (0 ≤ c) = false := by
                have : ¬ 0 ≤ c := fun h => by have := ha1.2 h; simp at this
                simpa using this
              clear hb hX hP hS hbw hcc hyy hyp ha1 ha2
              go_wp2_with fail
              go_quiet (fail)
              go_wp2_with fail
              go_roundw
              case rel => exact ⟨k + 1, by omega, by go_num, below_drewN HBB.out _⟩
              case measure => simp [intOf]; omega
            | true =>
              by_cases hvw : vw = (k : Int)
              · have hc0 : 0 ≤ c := ha1.1 ⟨rfl, hvw⟩
                have hyv : y = vp := hyp.trans (ha2 hc0)
                subst hyv
                subst hvw
                have hpos : decide (0 ≤ c) = true := by simpa using hc0
                clear hb hX hP hS hbw hcc hyy hyp ha1 ha2 hc0
                go_wp2_with fail
                go_quiet (fail)
                go_wp2_with fail
                go_roundw
                case rel => exact ⟨k + 1, by omega, by go_num, below_drewN HBB.out _⟩
                case measure => simp [intOf]; omega
              · have hneg : decide (0 ≤ c) = false := by
                  have : ¬ 0 ≤ c := fun h => hvw (ha1.2 h).2
                  simpa using this
                have hvw' : (vw == (k : Int)) = false := by simpa using hvw
                clear hb hX hP hS hbw hcc hyy hyp ha1 ha2 hvw
                go_wp2_with fail
                go_quiet (fail)
                go_wp2_with fail
                go_roundw
                case rel => exact ⟨k + 1, by omega, by go_num, below_drewN HBB.out _⟩
                case measure => simp [intOf]; omega
          · clear hb hX hP hS
            go_wp2_with fail
            go_ret
            exact ⟨rfl, HB4.out.trans (HBB.out.mono (B' := w.heap.size) HB4.out.size)⟩
  · have hne : (n != 1) = true := by simpa using hn
    have hB0 : Below w.heap.size w ((w.alloc (.cells #[.int .i64 n, .slice A bs.length cap] 24)).alloc (.cells #[.slice CA bs.length cc, .int .i64 W0, .slice PA bs.length pc] 36)) := ((Below.refl _ _).alloc (Nat.le_refl _) _).alloc (by simp) _
    have HB0 := Lib.hid hB0
    clear hl hc hp hcells hvs hi hn hB0 hcap
    go_enter Try.func35, Try.ntmps35
    go_wp2_with fail
    go_ret
    exact ⟨rfl, HB0.out⟩
end Go.Proofs.Ytcigobiolbojhaa.Vb

/- offers.Lower. -/
namespace Go.Proofs.Ytcigobiolbojhaa.Vb
open Go.RowKit

def lowL (c : Int) (l : List Off) : List Off := (l.filter (fun o => decide (c < o.c))).map (fun o => ⟨o.g, o.c - c⟩)
theorem lowL_len (c : Int) (l : List Off) : (lowL c l).length ≤ l.length := by simp [lowL, List.length_filter_le]
theorem lowL_snoc (c : Int) (l : List Off) (o : Off) : lowL c (l ++ [o]) = lowL c l ++ (if c < o.c then [⟨o.g, o.c - c⟩] else []) := by
  by_cases h : c < o.c <;> simp [lowL, h]
theorem lowL_take {c : Int} {l : List Off} {k : Nat} {o : Off} (hk : l[k]? = some o) : lowL c (l.take (k + 1)) = lowL c (l.take k) ++ (if c < o.c then [⟨o.g, o.c - c⟩] else []) := by
  obtain ⟨hlt, rfl⟩ := List.getElem?_eq_some_iff.mp hk
  rw [List.take_succ_eq_append_getElem hlt, lowL_snoc]
theorem lowL_wf (c : Int) (hc : 0 ≤ c) (l : List Off) (h : ∀ o ∈ l, o.wf) : ∀ o ∈ lowL c l, o.wf := by
  intro o ho
  simp only [lowL, List.mem_map, List.mem_filter, decide_eq_true_eq] at ho
  obtain ⟨p, ⟨hp, hlt⟩, rfl⟩ := ho
  have := h p hp
  unfold Off.wf at *
  simp only
  omega
theorem Off.all_snoc (l : List Off) (o : Off) : Off.all l ++ [.int .u32 o.g, .int .i64 o.c] = Off.all (l ++ [o]) := by simp [Off.all, Off.cells]

set_option maxRecDepth 100000 in
set_option maxHeartbeats 1600000 in
theorem lower_any (c : Int) (hc0 : 0 ≤ c) (hc : c ≤ 9223372036854775807) (l : List Off) (v : Value) (R : Nat → Prop) (w : World) (hl : Offs w R v l) (hsm : l.length ≤ 64) :
    Calls Try.prog 107 #[.int .i64 c, v] w fun e w' => ∃ A' cap', e = .returned (.slice A' (lowL c l).length cap') ∧ w'.ownsRow w.heap.size 45 2 (.slice A' (lowL c l).length cap') (lowL c l).length (Off.all (lowL c l)) ∧ Below w.heap.size w w' := by
  have HL := Lib.hid hl
  obtain ⟨⟨_, A, cap, rfl, hncap, hcap, _⟩, hwf⟩ := hl
  unfold maxLen at hcap
  have HWF := Lib.hid hwf
  clear hwf
  have hc1 : ¬ c < 0 := by omega
  go_enter Try.func107, Try.ntmps107
  go_wp2
  go_loopw [5, 12] (fun s i wr => ∃ k : Nat, k ≤ l.length ∧ i = .int .i64 k ∧ (∃ A' cap', s = .slice A' (lowL c (l.take k)).length cap' ∧ wr.ownsRow w.heap.size 45 2 (.slice A' (lowL c (l.take k)).length cap') (lowL c (l.take k)).length (Off.all (lowL c (l.take k)))) ∧
      Below w.heap.size w wr) (fun _ i _ => l.length - (intOf i).toNat)
  case atStart => exact ⟨0, Nat.zero_le _, rfl, ⟨_, _, rfl, World.ownsRow_nil _ _ _ _⟩, Below.refl _ _⟩
  case round =>
    obtain ⟨k, hk, rfl, ⟨A', cap', rfl, hob⟩, hb⟩ := hrel
    by_cases hlt : k < l.length
    · obtain ⟨o, ho⟩ : ∃ o, l[k]? = some o := ⟨_, List.getElem?_eq_getElem hlt⟩
      obtain ⟨bq, off, rfl, hbq, q0, q1⟩ := (HL.out.grow hb).at_ ho
      have hwo := HWF.out o (List.mem_of_getElem? ho)
      unfold Off.wf at hwo
      have hlen := lowL_len c (l.take k)
      have hlen2 : (lowL c (l.take k)).length ≤ 64 := by simp at hlen; omega
      have HT := Lib.hid (lowL_take (c := c) ho)
      have HO := Lib.hid hob
      have HB := Lib.hid hb
      have hsz := hb.size
      clear hob hb hlen ho
      by_cases hgt : c < o.c
      · have HT2 := Lib.hid (show lowL c (l.take (k + 1)) = lowL c (l.take k) ++ [⟨o.g, o.c - c⟩] by rw [HT.out, if_pos hgt])
        obtain ⟨og, oc⟩ := o
        simp only at *
        go_wp2_with (first
          | (at_builtin; go_must (refine wpList_app _ rfl (.tmp 20) (.tmp 28) et_off rfl w.heap.size (.slice A' (lowL c (l.take k)).length cap') _ _ rfl ((own_alloc (own_alloc HO.out _) _)) (fun _ => True) (.slice (some ⟨wr.heap.size + 1, 0, none⟩) 1 1) 1 [.int .u32 og, .int .i64 (oc - c)] rfl (Sl.blk (sz := 2) (cs := #[.int .u32 og, .int .i64 (oc - c)]) (t := 45) (Blk.new' _ _ (by simp)) (Nat.le_refl 1) (by unfold maxLen; omega) rfl) (by simp [Value.oneCell']) (by omega) (by unfold maxLen; omega) (by simp; omega) ?_); intro A3 cap3 w3 hown3 hg3 hloc3; have HW3 := Lib.hid hown3; have HG3 := Lib.hid hg3; clear hown3 hg3 hloc3))
        go_roundw
        case rel =>
          have hlen3 : (lowL c (l.take (k + 1))).length = (lowL c (l.take k)).length + 1 := by rw [HT2.out]; simp
          refine ⟨k + 1, by omega, by go_num, ⟨A3, cap3, by rw [hlen3], ?_⟩, ?_⟩
          · rw [hlen3, HT2.out, ← Off.all_snoc]
            exact HW3.out
          · exact ((HB.out.alloc (by omega) _).alloc (by simp; omega) _).grown HG3.out (by simp; omega) (fun g e => (HO.out.lt g e).1)
        case measure => simp [intOf]; omega
      · have HT2 := Lib.hid (show lowL c (l.take (k + 1)) = lowL c (l.take k) by rw [HT.out, if_neg hgt, List.append_nil])
        go_wp2
        go_roundw
        case rel =>
          refine ⟨k + 1, by omega, by go_num, ⟨A', cap', by rw [HT2.out], ?_⟩, HB.out.alloc (by omega) _⟩
          rw [HT2.out]
          exact own_alloc HO.out _
        case measure => simp [intOf]; omega
    · obtain rfl : k = l.length := by omega
      rw [List.take_length] at *
      have HO := Lib.hid hob
      have HB := Lib.hid hb
      clear hob hb
      go_wp2
      go_ret
      exact ⟨_, _, rfl, HO.out, HB.out⟩
end Go.Proofs.Ytcigobiolbojhaa.Vb

/- The sums of layer 18; what is won, as it lies in memory. -/
namespace Go.Proofs.Ytcigobiolbojhaa.Vb
open Go.RowKit

set_option maxHeartbeats 800000 in
theorem coreTotal_any (ps : List Int) (pv : Value) (R : Nat → Prop) (w : World) (h : Sl w R pv ps.length 1 (ints ps)) (hb : ∀ x ∈ ps, -9007199254740992 ≤ x ∧ x ≤ 9007199254740992) (hn : ps.length ≤ 64) :
    Calls Try.prog 101 #[pv] w fun e w' => e = .returned (.int .i64 (sumI ps)) ∧ w = w' := by
  obtain ⟨_, A, cap, rfl, hnc, hcm, hcs⟩ := h
  unfold maxLen at hcm
  have HC := Lib.hid hcs
  have HB := Lib.hid hb
  clear hcs hb
  go_enter Try.func101, Try.ntmps101
  go_wp2
  go_loop [3, 8] (fun s i => ∃ k : Nat, k ≤ ps.length ∧ i = .int .i64 k ∧ s = .int .i64 (sumI (ps.take k))) (fun _ i => ps.length - (intOf i).toNat)
  case atStart => exact ⟨0, Nat.zero_le _, rfl, rfl⟩
  case round =>
    obtain ⟨k, hk, rfl, rfl⟩ := hrel
    by_cases hlt : k < ps.length
    · obtain ⟨bb, off, rfl, _, hbb, hcs⟩ := HC.out (by omega)
      obtain ⟨c, hc⟩ : ∃ c, ps[k]? = some c := ⟨_, List.getElem?_eq_getElem hlt⟩
      have c0 := hcs _ _ (ints_get hc)
      have hst := sumI_take hc
      have h1 := sumI_bd (ps.take k) (fun x hx => HB.out x (List.mem_of_mem_take hx))
      have h2 := HB.out c (List.mem_of_getElem? hc)
      have hkl : ((ps.take k).length : Int) = k := by simp; omega
      rw [hkl] at h1
      have hsum : IntKind.i64.wrap (sumI (ps.take k) + c) = sumI (ps.take k) + c := IntWalk.i64_in _ (by omega)
      have HST := Lib.hid hst
      clear hst h1 h2 hc hcs
      go_wp2
      go_round
      case rel => exact ⟨k + 1, by omega, by go_num, by rw [HST.out]⟩
      case measure => simp [intOf]; omega
    · obtain rfl : k = ps.length := by omega
      rw [List.take_length]
      go_wp2
      go_ret
      exact ⟨rfl, rfl⟩

set_option maxHeartbeats 800000 in
theorem refTotal_any (ps : List Int) (pv : Value) (R : Nat → Prop) (w : World) (h : Sl w R pv ps.length 1 (ints ps)) (hb : ∀ x ∈ ps, -9007199254740992 ≤ x ∧ x ≤ 9007199254740992) (hn : ps.length ≤ 64) :
    Calls Try.prog 104 #[pv] w fun e w' => e = .returned (.int .i64 (sumI ps)) ∧ w = w' := by
  obtain ⟨_, A, cap, rfl, hnc, hcm, hcs⟩ := h
  unfold maxLen at hcm
  have HC := Lib.hid hcs
  have HB := Lib.hid hb
  clear hcs hb
  go_enter Try.func104, Try.ntmps104
  go_wp2
  go_loop [3, 4] (fun s i => ∃ k : Nat, k ≤ ps.length ∧ i = .int .i64 k ∧ s = .int .i64 (sumI (ps.take k))) (fun _ i => ps.length - (intOf i).toNat)
  case atStart => exact ⟨0, Nat.zero_le _, rfl, rfl⟩
  case round =>
    obtain ⟨k, hk, rfl, rfl⟩ := hrel
    by_cases hlt : k < ps.length
    · obtain ⟨bb, off, rfl, _, hbb, hcs⟩ := HC.out (by omega)
      obtain ⟨c, hc⟩ : ∃ c, ps[k]? = some c := ⟨_, List.getElem?_eq_getElem hlt⟩
      have c0 := hcs _ _ (ints_get hc)
      have hst := sumI_take hc
      have h1 := sumI_bd (ps.take k) (fun x hx => HB.out x (List.mem_of_mem_take hx))
      have h2 := HB.out c (List.mem_of_getElem? hc)
      have hkl : ((ps.take k).length : Int) = k := by simp; omega
      rw [hkl] at h1
      have hsum : IntKind.i64.wrap (sumI (ps.take k) + c) = sumI (ps.take k) + c := IntWalk.i64_in _ (by omega)
      have HST := Lib.hid hst
      clear hst h1 h2 hc hcs
      go_wp2
      go_round
      case rel => exact ⟨k + 1, by omega, by go_num, by rw [HST.out]⟩
      case measure => simp [intOf]; omega
    · obtain rfl : k = ps.length := by omega
      rw [List.take_length]
      go_wp2
      go_ret
      exact ⟨rfl, rfl⟩

set_option maxHeartbeats 800000 in
theorem lawTotal_any (ps : List Int) (pv : Value) (R : Nat → Prop) (w : World) (h : Sl w R pv ps.length 1 (ints ps)) (hb : ∀ x ∈ ps, -9007199254740992 ≤ x ∧ x ≤ 9007199254740992) (hn : ps.length ≤ 64) :
    Calls Try.prog 102 #[pv] w fun e w' => e = .returned (.int .i64 (sumI ps)) ∧ w = w' := by
  obtain ⟨_, A, cap, rfl, hnc, hcm, hcs⟩ := h
  unfold maxLen at hcm
  have HC := Lib.hid hcs
  have HB := Lib.hid hb
  clear hcs hb
  go_enter Try.func102, Try.ntmps102
  go_wp2
  go_loop [3, 4] (fun s i => ∃ k : Nat, k ≤ ps.length ∧ i = .int .i64 k ∧ s = .int .i64 (sumI (ps.take k))) (fun _ i => ps.length - (intOf i).toNat)
  case atStart => exact ⟨0, Nat.zero_le _, rfl, rfl⟩
  case round =>
    obtain ⟨k, hk, rfl, rfl⟩ := hrel
    by_cases hlt : k < ps.length
    · obtain ⟨bb, off, rfl, _, hbb, hcs⟩ := HC.out (by omega)
      obtain ⟨c, hc⟩ : ∃ c, ps[k]? = some c := ⟨_, List.getElem?_eq_getElem hlt⟩
      have c0 := hcs _ _ (ints_get hc)
      have hst := sumI_take hc
      have h1 := sumI_bd (ps.take k) (fun x hx => HB.out x (List.mem_of_mem_take hx))
      have h2 := HB.out c (List.mem_of_getElem? hc)
      have hkl : ((ps.take k).length : Int) = k := by simp; omega
      rw [hkl] at h1
      have hsum : IntKind.i64.wrap (sumI (ps.take k) + c) = sumI (ps.take k) + c := IntWalk.i64_in _ (by omega)
      have HST := Lib.hid hst
      clear hst h1 h2 hc hcs
      go_wp2
      go_round
      case rel => exact ⟨k + 1, by omega, by go_num, by rw [HST.out]⟩
      case measure => simp [intOf]; omega
    · obtain rfl : k = ps.length := by omega
      rw [List.take_length]
      go_wp2
      go_ret
      exact ⟨rfl, rfl⟩

end Go.Proofs.Ytcigobiolbojhaa.Vb

/- What is won, as it lies in memory; core.of. -/
namespace Go.Proofs.Ytcigobiolbojhaa.Vb
open Go.RowKit

/-- What winners bid. -/
def bidsC (n : Int) (bs : List (List Off)) : List Int := (bestC n bs).mapIdx fun i c => coinAt bs i c
/-- Who wins, of a choice. -/
def winB (cs : List Int) (i : Nat) : Bool := match cs[i]? with | some c => decide (0 ≤ c) | none => false
def winsL (cs : List Int) : List Bool := (List.range 32).map (winB cs)
def wonL (n : Int) (v : Value) (ws : List Bool) (sl : Value) : List Value := .int .i64 n :: v :: (ws.map Value.bool ++ [sl])
theorem wonL_0 (n : Int) (v : Value) (ws : List Bool) (sl : Value) : (wonL n v ws sl).toArray[0]? = some (.int .i64 n) := rfl
theorem wonL_1 (n : Int) (v : Value) (ws : List Bool) (sl : Value) : (wonL n v ws sl).toArray[1]? = some v := rfl
theorem wonL_bid (n : Int) (v : Value) (ws : List Bool) (sl : Value) (h : ws.length = 32) : (wonL n v ws sl).toArray[34]? = some sl := by
  simp [wonL, List.getElem?_append, h]
theorem wonL_win (n : Int) (v : Value) (ws : List Bool) (sl : Value) (i : Nat) (b : Bool) (h : ws[i]? = some b) : (wonL n v ws sl).toArray[2 + i]? = some (.bool b) := by
  have hi := (List.getElem?_eq_some_iff.mp h).1
  rw [show 2 + i = i + 1 + 1 from by omega]
  simp [wonL, List.getElem?_append, hi]
  exact (List.getElem?_eq_some_iff.mp h).2
theorem wonL_set (n : Int) (v : Value) (ws : List Bool) (sl : Value) (i : Nat) (b : Bool) (h : i < ws.length) : (wonL n v ws sl).toArray.setIfInBounds (2 + i) (.bool b) = (wonL n v (ws.set i b) sl).toArray := by
  rw [show 2 + i = i + 1 + 1 from by omega]
  simp [wonL, List.set_append, h]
theorem winsL_len (cs : List Int) : (winsL cs).length = 32 := by simp [winsL]
theorem winsL_get (cs : List Int) {i : Nat} (h : i < 32) : (winsL cs)[i]? = some (winB cs i) := by simp [winsL, h]
theorem winsL_nil : winsL [] = List.replicate 32 false := by rfl
theorem winsL_take_neg {cs : List Int} {k : Nat} {c : Int} (h : cs[k]? = some c) (hc : c < 0) : winsL (cs.take (k + 1)) = winsL (cs.take k) := by
  unfold winsL
  apply List.map_congr_left
  intro i _
  unfold winB
  by_cases hk : i = k
  · subst hk
    rw [List.getElem?_take_of_lt (by omega), h, List.getElem?_eq_none (by simp; omega)]
    simp; omega
  · by_cases hi : i < k
    · rw [List.getElem?_take_of_lt (by omega), List.getElem?_take_of_lt hi]
    · rw [List.getElem?_eq_none (by simp; omega), List.getElem?_eq_none (by simp; omega)]
theorem winsL_take_pos {cs : List Int} {k : Nat} {c : Int} (h : cs[k]? = some c) (hc : 0 ≤ c) : winsL (cs.take (k + 1)) = (winsL (cs.take k)).set k true := by
  apply List.ext_getElem?
  intro i
  by_cases hi : i < 32
  · rw [winsL_get _ hi]
    by_cases hk : k = i
    · subst hk
      rw [List.getElem?_set_self (by rw [winsL_len]; omega)]
      unfold winB
      rw [List.getElem?_take_of_lt (by omega), h]
      simp [hc]
    · rw [List.getElem?_set_ne hk, winsL_get _ hi]
      unfold winB
      by_cases hik : i < k
      · rw [List.getElem?_take_of_lt (by omega), List.getElem?_take_of_lt hik]
      · rw [List.getElem?_eq_none (by simp; omega), List.getElem?_eq_none (by simp; omega)]
  · rw [List.getElem?_eq_none (by rw [winsL_len]; omega), List.getElem?_eq_none (by simp [winsL_len]; omega)]
theorem bidsC_length (n : Int) (bs : List (List Off)) : (bidsC n bs).length = bs.length := by simp [bidsC, bestC, choose_length]
theorem bidsC_get {n : Int} {bs : List (List Off)} {i : Nat} {c : Int} (h : (bestC n bs)[i]? = some c) : (bidsC n bs)[i]? = some (coinAt bs i c) := by simp [bidsC, h]

/-- The bids of the first k; behind them noughts. -/
def bidA (n : Int) (bs : List (List Off)) (k : Nat) : List Int := (bidsC n bs).take k ++ List.replicate (bs.length - k) 0
theorem bidA_len {n : Int} {bs : List (List Off)} {k : Nat} (h : k ≤ bs.length) : (bidA n bs k).length = bs.length := by
  unfold bidA
  rw [List.length_append, List.length_take, bidsC_length, List.length_replicate]
  omega
theorem bidA_all (n : Int) (bs : List (List Off)) : bidA n bs bs.length = bidsC n bs := by
  unfold bidA
  rw [Nat.sub_self, List.replicate_zero, List.append_nil, List.take_of_length_le (by rw [bidsC_length]; omega)]
theorem bidA_set {n : Int} {bs : List (List Off)} {k : Nat} {c : Int} (hk : k < bs.length) (h : (bidsC n bs)[k]? = some c) : (bidA n bs k).set k c = bidA n bs (k + 1) := by
  have hl : ((bidsC n bs).take k).length = k := by rw [List.length_take, bidsC_length]; omega
  unfold bidA
  rw [List.set_append_right _ _ (by omega), hl, Nat.sub_self, show bs.length - k = (bs.length - (k + 1)) + 1 from by omega, List.replicate_succ, List.set_cons_zero, List.take_add_one, h]
  simp
theorem bidA_same {n : Int} {bs : List (List Off)} {k : Nat} (hk : k < bs.length) (h : (bidsC n bs)[k]? = some 0) : bidA n bs (k + 1) = bidA n bs k := by
  rw [← bidA_set hk h]
  have hl : ((bidsC n bs).take k).length = k := by rw [List.length_take, bidsC_length]; omega
  unfold bidA
  rw [List.set_append_right _ _ (by omega), hl, Nat.sub_self, show bs.length - k = (bs.length - (k + 1)) + 1 from by omega, List.replicate_succ, List.set_cons_zero]
theorem own_of_blk {w : World} {base g n : Nat} {e : TypeId} {l : List Int} (h : Blk w g e (ints l).toArray) (hg : base ≤ g) (hn : l.length = n) (hm : n ≤ maxLen) : w.ownsRow base e 1 (.slice (some ⟨g, 0, none⟩) n n) n (ints l) :=
  ⟨by simp [ints, hn], .inr ⟨g, n, _, rfl, hg, h, Nat.le_refl _, hm, by simp [ints, hn], by rw [Nat.mul_one]; exact List.take_of_length_le (by simp [ints, hn])⟩⟩
theorem ints_set {l : List Int} {k : Nat} {c : Int} : (ints l).toArray.setIfInBounds k (.int .i64 c) = (ints (l.set k c)).toArray := by simp [ints, List.map_set]
theorem ints_made (n : Nat) : madeCells #[.int .i64 0] n = (ints (List.replicate n 0)).toArray := by
  apply Array.ext
  · simp [madeCells, ints]
  · intro i h1 h2
    simp [madeCells, ints, Nat.mod_one]
theorem wonL_start (n : Int) (v sl : Value) : (wonL n v (winsL []) sl).toArray = #[.int .i64 n, v, .bool false, .bool false, .bool false, .bool false, .bool false, .bool false, .bool false, .bool false, .bool false, .bool false, .bool false, .bool false, .bool false, .bool false, .bool false, .bool false, .bool false, .bool false, .bool false, .bool false, .bool false, .bool false, .bool false, .bool false, .bool false, .bool false, .bool false, .bool false, .bool false, .bool false, .bool false, .bool false, sl] := rfl

/-- The pointer g is to what is won of the instance (n, v): its bids lie in blocks from lo on. -/
def WonAt (w : World) (lo g : Nat) (n : Int) (v : Value) (bs : List (List Off)) (A : Option Addr) (cap : Nat) : Prop :=
  lo ≤ g ∧ Blk w g 158 (wonL n v (winsL (bestC n bs)) (.slice A bs.length cap)).toArray ∧ w.ownsRow lo 2 1 (.slice A bs.length cap) bs.length (ints (bidsC n bs))

theorem of_err (n : Int) (bs : List (List Off)) (v : Value) (R : Nat → Prop) (w : World) (hl : Buys w R v bs) (hi : instE n bs ≠ 0) :
    Calls Try.prog 93 #[.agg #[.int .i64 n, v]] w fun e w' => e = .returned (.tuple #[.pointer none, .int .i64 (instE n bs)]) ∧ Below w.heap.size w w' := by
  obtain ⟨vs, ⟨_, A, cap, rfl, _⟩, _⟩ := id hl
  have HB := Lib.hid hl
  have HI := Lib.hid hi
  have hne : (instE n bs != 0) = true := by simp [hi]
  clear hl hi
  go_enter Try.func93, Try.ntmps93
  go_wp2_with (go_at_call 31; refine (best_err n bs _ R _ (HB.out.alloc _) HI.out).mono ?_; rintro e w1 ⟨rfl, hb1⟩; have HB1 := Lib.hid (((Below.refl w.heap.size w).alloc (Nat.le_refl _) _).trans (hb1.mono (by simp))); clear hb1)
  refine bodyPost_ret (v := .tuple #[.pointer none, .int .i64 (instE n bs)]) (by simp [results, Try.results93, go_sem]) rfl ⟨rfl, ?_⟩
  exact HB1.out.alloc (HB1.out.size) _

set_option maxRecDepth 100000 in
set_option maxHeartbeats 1600000 in
theorem of_ok (n : Int) (bs : List (List Off)) (v : Value) (R : Nat → Prop) (w : World) (hl : Buys w R v bs) (hi : instE n bs = 0) :
    Calls Try.prog 93 #[.agg #[.int .i64 n, v]] w fun e w' => ∃ g A cap, e = .returned (.tuple #[.pointer (some ⟨g, 0, none⟩), .int .i64 0]) ∧ WonAt w' w.heap.size g n v bs A cap ∧ Below w.heap.size w w' := by
  obtain ⟨vs, ⟨_, A, cap, rfl, _⟩, _⟩ := id hl
  have HB := Lib.hid hl
  have HI := Lib.hid hi
  have hl32 := (instE_zero hi).2.2.1
  clear hl hi
  go_enter Try.func93, Try.ntmps93
  go_wp2_with (go_at_call 31; refine (best_ok n bs _ R _ (HB.out.alloc _) HI.out).mono ?_; rintro e w1 ⟨AC, cC, rfl, hown, hb1⟩; have HO := Lib.hid hown; have hX := (one_blk' hb1).1; have HX := Lib.hid hX; have HB1 := Lib.hid (one_blk' hb1).2.2; have hs1 := (one_blk' hb1).2.1; clear hb1 hown hX)
  obtain ⟨W1, hW1⟩ : ∃ W1, W1 = w1.alloc (.cells #[.slice AC bs.length cC, .int .i64 (W bs (allOf n))] 66) := ⟨_, rfl⟩
  have HX1 := Lib.hid (show Blk W1 w.heap.size _ _ from by rw [hW1]; exact HX.out.alloc _)
  have HC1 := Lib.hid (show Blk W1 w1.heap.size 66 #[.slice AC bs.length cC, .int .i64 (W bs (allOf n))] from by rw [hW1]; exact Blk.new w1 _ _)
  have HO1 := Lib.hid (show W1.ownsRow _ _ _ _ _ _ from by rw [hW1]; exact own_alloc HO.out _)
  have HBW1 := Lib.hid (show Below w.heap.size w W1 from by rw [hW1]; exact HB1.out.alloc (by omega) _)
  have HBX1 := Lib.hid (show Below w1.heap.size w1 W1 from by rw [hW1]; exact (Below.refl _ _).alloc (Nat.le_refl _) _)
  have hsW : W1.heap.size = w1.heap.size + 1 := by rw [hW1]; simp
  rw [← hW1]
  clear hW1
  have x0 : W1.cell? ⟨w.heap.size, 0, none⟩ = some (.int .i64 n) := HX1.out.cell 0
  have x1 : W1.cell? ⟨w.heap.size, 1, none⟩ = some (.slice A bs.length cap) := HX1.out.cell 1
  have hmk : ∀ V : World, (Instr.makeSlice 34 (.int .i64 (bs.length : Int)) (.int .i64 (bs.length : Int))).run Try.prog V = .ok (.slice (some ⟨V.heap.size, 0, none⟩) bs.length bs.length) (V.alloc (.cells (madeCells #[.int .i64 0] bs.length) 2)) := fun V =>
    run_make_row' (P := Try.prog) 34 2 (.int .i64 0) 8 Try.underlying34 (by kernel_rfl) rfl .i64 .i64 bs.length (by omega) (by omega) V
  refine wp_region_F (Below W1.heap.size W1) [] (by kernel_rfl) ((Below.refl _ _).drew) (fun hS => ?_)
  refine wpAnyF_take (i := 0) (oi := { dst := some 17, op := Go.Op.load 24 (Go.Operand.tmp 1), type := 24, pos := "core.go:24", after := #[], guard := none }) (v := ?_) rfl (by kernel_rfl) (by kernel_rfl) (by kernel_rfl) (by kernel_rfl) (fun _ _ _ h => h) (Or.inl ⟨by rfl, ?_⟩) hS ?_
  rotate_left
  · intro w' hSw; have q1 := (hSw.cell (p := ⟨w.heap.size, 0, none⟩) (by simp <;> omega)).trans x0; have q2 := (hSw.cell (p := ⟨w.heap.size, 1, none⟩) (by simp <;> omega)).trans x1; go_simp; try with_reducible rfl
  try simp only [Act.put, List.setIfInBounds_toArray, List.set_cons_zero, List.set_cons_succ]
  refine wpAnyF_take (i := 1) (oi := { dst := some 18, op := Go.Op.fieldAddr 24 (Go.Operand.tmp 1) 1, type := 0, pos := "core.go:24", after := #[], guard := none }) (v := ?_) rfl (by kernel_rfl) (by kernel_rfl) (by kernel_rfl) (by kernel_rfl) (fun _ _ _ h => h) (Or.inl ⟨by rfl, ?_⟩) hS ?_
  rotate_left
  · intro w' hSw; have q1 := (hSw.cell (p := ⟨w.heap.size, 0, none⟩) (by simp <;> omega)).trans x0; have q2 := (hSw.cell (p := ⟨w.heap.size, 1, none⟩) (by simp <;> omega)).trans x1; go_simp; try with_reducible rfl
  try simp only [Act.put, List.setIfInBounds_toArray, List.set_cons_zero, List.set_cons_succ]
  refine wpAnyF_take (i := 2) (oi := { dst := some 19, op := Go.Op.load 22 (Go.Operand.tmp 18), type := 22, pos := "core.go:24", after := #[{ on := 1, ground := Go.Ground.data }], guard := none }) (v := ?_) rfl (by kernel_rfl) (by kernel_rfl) (by kernel_rfl) (by kernel_rfl) (fun _ _ _ h => h) (Or.inl ⟨by rfl, ?_⟩) hS ?_
  rotate_left
  · intro w' hSw; have q1 := (hSw.cell (p := ⟨w.heap.size, 0, none⟩) (by simp <;> omega)).trans x0; have q2 := (hSw.cell (p := ⟨w.heap.size, 1, none⟩) (by simp <;> omega)).trans x1; go_simp; try with_reducible rfl
  try simp only [Act.put, List.setIfInBounds_toArray, List.set_cons_zero, List.set_cons_succ]
  refine wpAnyF_take (i := 3) (oi := { dst := some 20, op := Go.Op.call { callee := Go.Callee.builtin Go.Builtin.len, args := #[Go.Operand.tmp 19], argTypes := #[22] }, type := 3, pos := "core.go:24", after := #[{ on := 2, ground := Go.Ground.data }], guard := none }) (v := ?_) rfl (by kernel_rfl) (by kernel_rfl) (by kernel_rfl) (by kernel_rfl) (fun _ _ _ h => h) (Or.inl ⟨by rfl, ?_⟩) hS ?_
  rotate_left
  · intro w' hSw; have q1 := (hSw.cell (p := ⟨w.heap.size, 0, none⟩) (by simp <;> omega)).trans x0; have q2 := (hSw.cell (p := ⟨w.heap.size, 1, none⟩) (by simp <;> omega)).trans x1; go_simp; try with_reducible rfl
  try simp only [Act.put, List.setIfInBounds_toArray, List.set_cons_zero, List.set_cons_succ]
  refine wpAnyF_ready (rs := [4]) (by kernel_rfl) (by simp) ?_
  refine AllReadyF.cons (o := { dst := some 21, op := Go.Op.makeSlice 34 (Go.Operand.tmp 20) (Go.Operand.tmp 20), type := 34, pos := "core.go:24", after := #[{ on := 3, ground := Go.Ground.data }, { on := 3, ground := Go.Ground.data }], guard := none }) rfl (by rfl) (fun K hK => ?_) ?_
  · go_simp
    refine hK.out _ _ ?_ (fun hS => ?_)
    · exact hS.alloc hS.size _
    clear hK K
    try simp only [Act.put, List.setIfInBounds_toArray, List.set_cons_zero, List.set_cons_succ]
    refine wpAnyF_take (i := 5) (oi := { dst := some 22, op := Go.Op.build 158 #[(0, Go.Operand.tmp 17), (2, Go.Operand.tmp 21)], type := 158, pos := "core.go:24", after := #[{ on := 0, ground := Go.Ground.data }, { on := 4, ground := Go.Ground.data }], guard := none }) (v := ?_) rfl (by kernel_rfl) (by kernel_rfl) (by kernel_rfl) (by kernel_rfl) (fun _ _ _ h => h) (Or.inl ⟨by rfl, ?_⟩) hS ?_
    rotate_left
    · intro w' hSw; have q1 := (hSw.cell (p := ⟨w.heap.size, 0, none⟩) (by simp <;> omega)).trans x0; have q2 := (hSw.cell (p := ⟨w.heap.size, 1, none⟩) (by simp <;> omega)).trans x1; go_simp; try with_reducible rfl
    try simp only [Act.put, List.setIfInBounds_toArray, List.set_cons_zero, List.set_cons_succ]
    refine wpAnyF_ready (rs := [6]) (by kernel_rfl) (by simp) ?_
    refine AllReadyF.cons (o := { dst := some 23, op := Go.Op.box 158 (Go.Operand.tmp 22), type := 153, pos := "core.go:24", after := #[{ on := 5, ground := Go.Ground.data }], guard := none }) rfl (by rfl) (fun K hK => ?_) ?_
    · go_simp
      refine hK.out _ _ ?_ (fun hS => ?_)
      · exact hS.alloc hS.size _
      clear hK K
      try simp only [Act.put, List.setIfInBounds_toArray, List.set_cons_zero, List.set_cons_succ]
      refine wpAnyF_take (i := 7) (oi := { dst := some 6, op := Go.Op.assign (Go.Operand.tmp 23), type := 153, pos := "core.go:24", after := #[{ on := 6, ground := Go.Ground.data }, { on := 0, ground := Go.Ground.phase }, { on := 1, ground := Go.Ground.phase }, { on := 2, ground := Go.Ground.phase }, { on := 3, ground := Go.Ground.phase }, { on := 4, ground := Go.Ground.phase }, { on := 5, ground := Go.Ground.phase }, { on := 6, ground := Go.Ground.phase }], guard := none }) (v := ?_) rfl (by kernel_rfl) (by kernel_rfl) (by kernel_rfl) (by kernel_rfl) (fun _ _ _ h => h) (Or.inl ⟨by rfl, ?_⟩) hS ?_
      rotate_left
      · intro w' hSw; have q1 := (hSw.cell (p := ⟨w.heap.size, 0, none⟩) (by simp <;> omega)).trans x0; have q2 := (hSw.cell (p := ⟨w.heap.size, 1, none⟩) (by simp <;> omega)).trans x1; go_simp; try with_reducible rfl
      try simp only [Act.put, List.setIfInBounds_toArray, List.set_cons_zero, List.set_cons_succ]
      refine wpAnyF_done (by kernel_rfl) ?_ _
      obtain ⟨W2, hW2⟩ : ∃ W2, W2 = ((W1.alloc (Obj.cells (madeCells #[.int .i64 0] bs.length) 2)).alloc (Obj.cells #[.int .i64 n, .slice A bs.length cap, .bool false, .bool false, .bool false, .bool false, .bool false, .bool false, .bool false, .bool false, .bool false, .bool false, .bool false, .bool false, .bool false, .bool false, .bool false, .bool false, .bool false, .bool false, .bool false, .bool false, .bool false, .bool false, .bool false, .bool false, .bool false, .bool false, .bool false, .bool false, .bool false, .bool false, .bool false, .bool false, .slice (some ⟨w1.heap.size + 1, 0, none⟩) bs.length bs.length] 158)).drew := ⟨_, rfl⟩
      rw [← hW2]
      have hs1b := hsW
      have HG := Lib.hid (show Blk W2 (w1.heap.size + 1) 2 (ints (bidA n bs 0)).toArray from by
        rw [hW2, show bidA n bs 0 = List.replicate bs.length 0 from by simp [bidA], ← ints_made]
        exact (((Blk.new' _ _ hsW).alloc _).drew))
      have HWN := Lib.hid (show Blk W2 (w1.heap.size + 2) 158 (wonL n (.slice A bs.length cap) (winsL ((bestC n bs).take 0)) (.slice (some ⟨w1.heap.size + 1, 0, none⟩) bs.length bs.length)).toArray from by
        rw [hW2, List.take_zero, wonL_start]
        exact (Blk.new' _ _ (by simp [hsW])).drew)
      have HB2 := Lib.hid (show Below W1.heap.size W1 W2 from by rw [hW2]; exact (((Below.refl _ _).alloc (Nat.le_refl _) _).alloc (by simp) _).drew)
      have hs2 : W1.heap.size + 2 ≤ W2.heap.size := by rw [hW2]; simp [World.drew]
      have HC2 := Lib.hid (HC1.out.grow HB2.out)
      have c00 : W2.cell? ⟨w1.heap.size, 0, none⟩ = some (.slice AC bs.length cC) := HC2.out.cell 0
      clear hW2 hmk hS
      go_wp2_with fail
      go_loopw [27] (fun i wr => ∃ k : Nat, k ≤ bs.length ∧ i = .int .i64 k ∧ Blk wr (w1.heap.size + 1) 2 (ints (bidA n bs k)).toArray ∧
          Blk wr (w1.heap.size + 2) 158 (wonL n (.slice A bs.length cap) (winsL ((bestC n bs).take k)) (.slice (some ⟨w1.heap.size + 1, 0, none⟩) bs.length bs.length)).toArray ∧ Below (w1.heap.size + 1) W2 wr)
        (fun i _ => bs.length - (intOf i).toNat)
      case atStart => exact ⟨0, Nat.zero_le _, rfl, HG.out, HWN.out, Below.refl _ _⟩
      case round =>
        obtain ⟨k, hk, rfl, hG, hN, hb⟩ := hrel
        have HG3 := Lib.hid hG
        have HN3 := Lib.hid hN
        have HB3 := Lib.hid hb
        clear hG hN hb
        by_cases hlt : k < bs.length
        · obtain ⟨c, hc⟩ : ∃ c, (bestC n bs)[k]? = some c := ⟨_, List.getElem?_eq_getElem (by rw [bestC, choose_length]; exact hlt)⟩
          have hbg := bidsC_get hc
          have hbx : Below w1.heap.size w1 wr := HBX1.out.trans ((HB2.out.mono (by omega)).trans (HB3.out.mono (by omega)))
          have hbw := HB1.out.trans (hbx.mono (B' := w.heap.size) (by omega))
          obtain ⟨gC, offC, c', hAC, hgC, hc', cc⟩ := (Sl.of_own HO.out).int_at hlt
          obtain rfl : c = c' := by rw [hc] at hc'; injection hc'
          subst hAC
          have cC := (hbx.cell (p := ⟨gC, offC + k, none⟩) hgC).trans cc
          have HBG := Lib.hid hbg
          have HC := Lib.hid hc
          have HBX := Lib.hid hbx
          have HBW := Lib.hid hbw
          clear hbg hbx hbw cc hc'
          rcases choose_get bs (allOf n) k c hc with rfl | ⟨j, l, o, rfl, hl, ho⟩
          · have hc0 : ((-1 : Int) ≥ 0) = False := by simp
            clear hc
            go_wp2
            go_roundw
            case rel =>
              refine ⟨k + 1, by omega, by go_num, ?_, ?_, HB3.out⟩
              · rw [bidA_same hlt HBG.out]
                exact HG3.out
              · rw [winsL_take_neg HC.out (by omega)]
                exact HN3.out
            case measure => simp [intOf]; omega
          · clear hc
            obtain ⟨vs', ⟨_, A', cap', hv, _, _, hcs⟩, hvs⟩ := HB.out
            injection hv with hv1 _ hv2
            subst hv1 hv2
            obtain ⟨bq, off, rfl, _, hbq, hcell⟩ := hcs (by omega)
            obtain ⟨u, hu, hoff⟩ := hvs k l hl
            have HL := Lib.hid hl
            have HOj := Lib.hid ho
            have hjl := (List.getElem?_eq_some_iff.mp ho).1
            obtain ⟨⟨_, A1, cap1, rfl, _⟩, _⟩ := id hoff
            obtain ⟨b2, off2, rfl, hb2, _, o1⟩ := hoff.at_ ho
            have d0 := (HBW.out.cell (p := ⟨bq, off + k, none⟩) hbq).trans (hcell _ _ hu)
            have d1 := (HBW.out.cell (p := ⟨b2, off2 + j * 2 + 1, none⟩) hb2).trans o1
            have x1' : wr.cell? ⟨w.heap.size, 1, none⟩ = some (.slice (some ⟨bq, off, none⟩) bs.length cap) := (HX.out.below HBX.out (by omega)).cell 1
            have hszr : w1.heap.size + 3 ≤ wr.heap.size := by have := HN3.out.lt; omega
            have e1 : (0 : Int) ≤ (k : Int) := by omega
            have e2 : (k : Int) < (bs.length : Int) := by omega
            have e3 : (k : Int) < 32 := by omega
            have e4 : (0 : Int) ≤ (j : Int) := by omega
            have e5 : (j : Int) < (l.length : Int) := by omega
            clear hl ho hu hoff o1 hcell hvs hcs
            go_wp2_with fail
            refine wp_region_F (fun V => Below (w1.heap.size + 1) wr V ∧ (∃ ws : List Bool, ws.length = 32 ∧ Blk V (w1.heap.size + 2) 158 (wonL n (.slice (some ⟨bq, off, none⟩) bs.length cap) ws (.slice (some ⟨w1.heap.size + 1, 0, none⟩) bs.length bs.length)).toArray) ∧ ∃ ps : List Int, ps.length = bs.length ∧ Blk V (w1.heap.size + 1) 2 (ints ps).toArray) [] (by kernel_rfl) ⟨(Below.refl _ _).drew, ⟨_, winsL_len _, HN3.out.drew⟩, _, bidA_len (by omega), HG3.out.drew⟩ (fun hS => ?_)
            refine wpAnyF_take (i := 0) (oi := { dst := some 34, op := Go.Op.move (Go.Operand.tmp 6), type := 153, pos := "core.go:27", after := #[], guard := none }) (v := ?_) rfl (by kernel_rfl) (by kernel_rfl) (by kernel_rfl) (by kernel_rfl) (fun _ _ _ h => h) (Or.inl ⟨by rfl, ?_⟩) hS ?_
            rotate_left
            · intro w' hSw; obtain ⟨hSb, ⟨ws, hwl, hSn⟩, _⟩ := hSw; have q1 := (hSb.cell (p := ⟨w.heap.size, 1, none⟩) (by simp <;> omega)).trans x1'; have q2 := (hSn.cell 34).trans (wonL_bid _ _ _ _ hwl); have q3 := (hSb.cell (p := ⟨bq, off + k, none⟩) (by simp <;> omega)).trans d0; have q4 := (hSb.cell (p := ⟨b2, off2 + j * 2 + 1, none⟩) (by simp <;> omega)).trans d1; go_simp; try with_reducible rfl
            try simp only [Act.put, List.setIfInBounds_toArray, List.set_cons_zero, List.set_cons_succ]
            refine wpAnyF_take (i := 1) (oi := { dst := some 35, op := Go.Op.move (Go.Operand.tmp 7), type := 3, pos := "core.go:27", after := #[], guard := none }) (v := ?_) rfl (by kernel_rfl) (by kernel_rfl) (by kernel_rfl) (by kernel_rfl) (fun _ _ _ h => h) (Or.inl ⟨by rfl, ?_⟩) hS ?_
            rotate_left
            · intro w' hSw; obtain ⟨hSb, ⟨ws, hwl, hSn⟩, _⟩ := hSw; have q1 := (hSb.cell (p := ⟨w.heap.size, 1, none⟩) (by simp <;> omega)).trans x1'; have q2 := (hSn.cell 34).trans (wonL_bid _ _ _ _ hwl); have q3 := (hSb.cell (p := ⟨bq, off + k, none⟩) (by simp <;> omega)).trans d0; have q4 := (hSb.cell (p := ⟨b2, off2 + j * 2 + 1, none⟩) (by simp <;> omega)).trans d1; go_simp; try with_reducible rfl
            try simp only [Act.put, List.setIfInBounds_toArray, List.set_cons_zero, List.set_cons_succ]
            refine wpAnyF_take (i := 2) (oi := { dst := some 36, op := Go.Op.move (Go.Operand.tmp 6), type := 153, pos := "core.go:27", after := #[], guard := none }) (v := ?_) rfl (by kernel_rfl) (by kernel_rfl) (by kernel_rfl) (by kernel_rfl) (fun _ _ _ h => h) (Or.inl ⟨by rfl, ?_⟩) hS ?_
            rotate_left
            · intro w' hSw; obtain ⟨hSb, ⟨ws, hwl, hSn⟩, _⟩ := hSw; have q1 := (hSb.cell (p := ⟨w.heap.size, 1, none⟩) (by simp <;> omega)).trans x1'; have q2 := (hSn.cell 34).trans (wonL_bid _ _ _ _ hwl); have q3 := (hSb.cell (p := ⟨bq, off + k, none⟩) (by simp <;> omega)).trans d0; have q4 := (hSb.cell (p := ⟨b2, off2 + j * 2 + 1, none⟩) (by simp <;> omega)).trans d1; go_simp; try with_reducible rfl
            try simp only [Act.put, List.setIfInBounds_toArray, List.set_cons_zero, List.set_cons_succ]
            refine wpAnyF_take (i := 3) (oi := { dst := some 37, op := Go.Op.nilCheck (Go.Operand.tmp 36), type := 0, pos := "core.go:27", after := #[{ on := 2, ground := Go.Ground.data }], guard := none }) (v := ?_) rfl (by kernel_rfl) (by kernel_rfl) (by kernel_rfl) (by kernel_rfl) (fun _ _ _ h => h) (Or.inl ⟨by rfl, ?_⟩) hS ?_
            rotate_left
            · intro w' hSw; obtain ⟨hSb, ⟨ws, hwl, hSn⟩, _⟩ := hSw; have q1 := (hSb.cell (p := ⟨w.heap.size, 1, none⟩) (by simp <;> omega)).trans x1'; have q2 := (hSn.cell 34).trans (wonL_bid _ _ _ _ hwl); have q3 := (hSb.cell (p := ⟨bq, off + k, none⟩) (by simp <;> omega)).trans d0; have q4 := (hSb.cell (p := ⟨b2, off2 + j * 2 + 1, none⟩) (by simp <;> omega)).trans d1; go_simp; try with_reducible rfl
            try simp only [Act.put, List.setIfInBounds_toArray, List.set_cons_zero, List.set_cons_succ]
            refine wpAnyF_take (i := 4) (oi := { dst := some 38, op := Go.Op.fieldAddr 158 (Go.Operand.tmp 37) 2, type := 0, pos := "core.go:27", after := #[{ on := 3, ground := Go.Ground.data }], guard := none }) (v := ?_) rfl (by kernel_rfl) (by kernel_rfl) (by kernel_rfl) (by kernel_rfl) (fun _ _ _ h => h) (Or.inl ⟨by rfl, ?_⟩) hS ?_
            rotate_left
            · intro w' hSw; obtain ⟨hSb, ⟨ws, hwl, hSn⟩, _⟩ := hSw; have q1 := (hSb.cell (p := ⟨w.heap.size, 1, none⟩) (by simp <;> omega)).trans x1'; have q2 := (hSn.cell 34).trans (wonL_bid _ _ _ _ hwl); have q3 := (hSb.cell (p := ⟨bq, off + k, none⟩) (by simp <;> omega)).trans d0; have q4 := (hSb.cell (p := ⟨b2, off2 + j * 2 + 1, none⟩) (by simp <;> omega)).trans d1; go_simp; try with_reducible rfl
            try simp only [Act.put, List.setIfInBounds_toArray, List.set_cons_zero, List.set_cons_succ]
            refine wpAnyF_take (i := 5) (oi := { dst := some 39, op := Go.Op.load 34 (Go.Operand.tmp 38), type := 34, pos := "core.go:27", after := #[{ on := 4, ground := Go.Ground.data }], guard := none }) (v := ?_) rfl (by kernel_rfl) (by kernel_rfl) (by kernel_rfl) (by kernel_rfl) (fun _ _ _ h => h) (Or.inl ⟨by rfl, ?_⟩) hS ?_
            rotate_left
            · intro w' hSw; obtain ⟨hSb, ⟨ws, hwl, hSn⟩, _⟩ := hSw; have q1 := (hSb.cell (p := ⟨w.heap.size, 1, none⟩) (by simp <;> omega)).trans x1'; have q2 := (hSn.cell 34).trans (wonL_bid _ _ _ _ hwl); have q3 := (hSb.cell (p := ⟨bq, off + k, none⟩) (by simp <;> omega)).trans d0; have q4 := (hSb.cell (p := ⟨b2, off2 + j * 2 + 1, none⟩) (by simp <;> omega)).trans d1; go_simp; try with_reducible rfl
            try simp only [Act.put, List.setIfInBounds_toArray, List.set_cons_zero, List.set_cons_succ]
            refine wpAnyF_take (i := 6) (oi := { dst := some 40, op := Go.Op.move (Go.Operand.tmp 7), type := 3, pos := "core.go:27", after := #[{ on := 19, ground := Go.Ground.gcOnly Go.Departure.lateStores }], guard := none }) (v := ?_) rfl (by kernel_rfl) (by kernel_rfl) (by kernel_rfl) (by kernel_rfl) (fun _ _ _ h => h) (Or.inl ⟨by rfl, ?_⟩) hS ?_
            rotate_left
            · intro w' hSw; obtain ⟨hSb, ⟨ws, hwl, hSn⟩, _⟩ := hSw; have q1 := (hSb.cell (p := ⟨w.heap.size, 1, none⟩) (by simp <;> omega)).trans x1'; have q2 := (hSn.cell 34).trans (wonL_bid _ _ _ _ hwl); have q3 := (hSb.cell (p := ⟨bq, off + k, none⟩) (by simp <;> omega)).trans d0; have q4 := (hSb.cell (p := ⟨b2, off2 + j * 2 + 1, none⟩) (by simp <;> omega)).trans d1; go_simp; try with_reducible rfl
            try simp only [Act.put, List.setIfInBounds_toArray, List.set_cons_zero, List.set_cons_succ]
            refine wpAnyF_take (i := 7) (oi := { dst := some 41, op := Go.Op.fieldAddr 24 (Go.Operand.tmp 1) 1, type := 0, pos := "core.go:27", after := #[], guard := none }) (v := ?_) rfl (by kernel_rfl) (by kernel_rfl) (by kernel_rfl) (by kernel_rfl) (fun _ _ _ h => h) (Or.inl ⟨by rfl, ?_⟩) hS ?_
            rotate_left
            · intro w' hSw; obtain ⟨hSb, ⟨ws, hwl, hSn⟩, _⟩ := hSw; have q1 := (hSb.cell (p := ⟨w.heap.size, 1, none⟩) (by simp <;> omega)).trans x1'; have q2 := (hSn.cell 34).trans (wonL_bid _ _ _ _ hwl); have q3 := (hSb.cell (p := ⟨bq, off + k, none⟩) (by simp <;> omega)).trans d0; have q4 := (hSb.cell (p := ⟨b2, off2 + j * 2 + 1, none⟩) (by simp <;> omega)).trans d1; go_simp; try with_reducible rfl
            try simp only [Act.put, List.setIfInBounds_toArray, List.set_cons_zero, List.set_cons_succ]
            refine wpAnyF_take (i := 8) (oi := { dst := some 42, op := Go.Op.load 22 (Go.Operand.tmp 41), type := 22, pos := "core.go:27", after := #[{ on := 7, ground := Go.Ground.data }], guard := none }) (v := ?_) rfl (by kernel_rfl) (by kernel_rfl) (by kernel_rfl) (by kernel_rfl) (fun _ _ _ h => h) (Or.inl ⟨by rfl, ?_⟩) hS ?_
            rotate_left
            · intro w' hSw; obtain ⟨hSb, ⟨ws, hwl, hSn⟩, _⟩ := hSw; have q1 := (hSb.cell (p := ⟨w.heap.size, 1, none⟩) (by simp <;> omega)).trans x1'; have q2 := (hSn.cell 34).trans (wonL_bid _ _ _ _ hwl); have q3 := (hSb.cell (p := ⟨bq, off + k, none⟩) (by simp <;> omega)).trans d0; have q4 := (hSb.cell (p := ⟨b2, off2 + j * 2 + 1, none⟩) (by simp <;> omega)).trans d1; go_simp; try with_reducible rfl
            try simp only [Act.put, List.setIfInBounds_toArray, List.set_cons_zero, List.set_cons_succ]
            refine wpAnyF_take (i := 9) (oi := { dst := some 43, op := Go.Op.move (Go.Operand.tmp 7), type := 3, pos := "core.go:27", after := #[], guard := none }) (v := ?_) rfl (by kernel_rfl) (by kernel_rfl) (by kernel_rfl) (by kernel_rfl) (fun _ _ _ h => h) (Or.inl ⟨by rfl, ?_⟩) hS ?_
            rotate_left
            · intro w' hSw; obtain ⟨hSb, ⟨ws, hwl, hSn⟩, _⟩ := hSw; have q1 := (hSb.cell (p := ⟨w.heap.size, 1, none⟩) (by simp <;> omega)).trans x1'; have q2 := (hSn.cell 34).trans (wonL_bid _ _ _ _ hwl); have q3 := (hSb.cell (p := ⟨bq, off + k, none⟩) (by simp <;> omega)).trans d0; have q4 := (hSb.cell (p := ⟨b2, off2 + j * 2 + 1, none⟩) (by simp <;> omega)).trans d1; go_simp; try with_reducible rfl
            try simp only [Act.put, List.setIfInBounds_toArray, List.set_cons_zero, List.set_cons_succ]
            refine wpAnyF_take (i := 10) (oi := { dst := some 44, op := Go.Op.indexAddr 22 (Go.Operand.tmp 42) (Go.Operand.tmp 43), type := 0, pos := "core.go:27", after := #[{ on := 8, ground := Go.Ground.data }, { on := 9, ground := Go.Ground.data }], guard := none }) (v := ?_) rfl (by kernel_rfl) (by kernel_rfl) (by kernel_rfl) (by kernel_rfl) (fun _ _ _ h => h) (Or.inl ⟨by rfl, ?_⟩) hS ?_
            rotate_left
            · intro w' hSw; obtain ⟨hSb, ⟨ws, hwl, hSn⟩, _⟩ := hSw; have q1 := (hSb.cell (p := ⟨w.heap.size, 1, none⟩) (by simp <;> omega)).trans x1'; have q2 := (hSn.cell 34).trans (wonL_bid _ _ _ _ hwl); have q3 := (hSb.cell (p := ⟨bq, off + k, none⟩) (by simp <;> omega)).trans d0; have q4 := (hSb.cell (p := ⟨b2, off2 + j * 2 + 1, none⟩) (by simp <;> omega)).trans d1; go_simp; try with_reducible rfl
            try simp only [Act.put, List.setIfInBounds_toArray, List.set_cons_zero, List.set_cons_succ]
            refine wpAnyF_take (i := 11) (oi := { dst := some 45, op := Go.Op.load 41 (Go.Operand.tmp 44), type := 41, pos := "core.go:27", after := #[{ on := 10, ground := Go.Ground.data }], guard := none }) (v := ?_) rfl (by kernel_rfl) (by kernel_rfl) (by kernel_rfl) (by kernel_rfl) (fun _ _ _ h => h) (Or.inl ⟨by rfl, ?_⟩) hS ?_
            rotate_left
            · intro w' hSw; obtain ⟨hSb, ⟨ws, hwl, hSn⟩, _⟩ := hSw; have q1 := (hSb.cell (p := ⟨w.heap.size, 1, none⟩) (by simp <;> omega)).trans x1'; have q2 := (hSn.cell 34).trans (wonL_bid _ _ _ _ hwl); have q3 := (hSb.cell (p := ⟨bq, off + k, none⟩) (by simp <;> omega)).trans d0; have q4 := (hSb.cell (p := ⟨b2, off2 + j * 2 + 1, none⟩) (by simp <;> omega)).trans d1; go_simp; try with_reducible rfl
            try simp only [Act.put, List.setIfInBounds_toArray, List.set_cons_zero, List.set_cons_succ]
            refine wpAnyF_take (i := 12) (oi := { dst := some 46, op := Go.Op.move (Go.Operand.tmp 8), type := 3, pos := "core.go:27", after := #[], guard := none }) (v := ?_) rfl (by kernel_rfl) (by kernel_rfl) (by kernel_rfl) (by kernel_rfl) (fun _ _ _ h => h) (Or.inl ⟨by rfl, ?_⟩) hS ?_
            rotate_left
            · intro w' hSw; obtain ⟨hSb, ⟨ws, hwl, hSn⟩, _⟩ := hSw; have q1 := (hSb.cell (p := ⟨w.heap.size, 1, none⟩) (by simp <;> omega)).trans x1'; have q2 := (hSn.cell 34).trans (wonL_bid _ _ _ _ hwl); have q3 := (hSb.cell (p := ⟨bq, off + k, none⟩) (by simp <;> omega)).trans d0; have q4 := (hSb.cell (p := ⟨b2, off2 + j * 2 + 1, none⟩) (by simp <;> omega)).trans d1; go_simp; try with_reducible rfl
            try simp only [Act.put, List.setIfInBounds_toArray, List.set_cons_zero, List.set_cons_succ]
            refine wpAnyF_take (i := 13) (oi := { dst := some 47, op := Go.Op.indexAddr 41 (Go.Operand.tmp 45) (Go.Operand.tmp 46), type := 0, pos := "core.go:27", after := #[{ on := 11, ground := Go.Ground.data }, { on := 12, ground := Go.Ground.data }], guard := none }) (v := ?_) rfl (by kernel_rfl) (by kernel_rfl) (by kernel_rfl) (by kernel_rfl) (fun _ _ _ h => h) (Or.inl ⟨by rfl, ?_⟩) hS ?_
            rotate_left
            · intro w' hSw; obtain ⟨hSb, ⟨ws, hwl, hSn⟩, _⟩ := hSw; have q1 := (hSb.cell (p := ⟨w.heap.size, 1, none⟩) (by simp <;> omega)).trans x1'; have q2 := (hSn.cell 34).trans (wonL_bid _ _ _ _ hwl); have q3 := (hSb.cell (p := ⟨bq, off + k, none⟩) (by simp <;> omega)).trans d0; have q4 := (hSb.cell (p := ⟨b2, off2 + j * 2 + 1, none⟩) (by simp <;> omega)).trans d1; go_simp; try with_reducible rfl
            try simp only [Act.put, List.setIfInBounds_toArray, List.set_cons_zero, List.set_cons_succ]
            refine wpAnyF_take (i := 14) (oi := { dst := some 48, op := Go.Op.fieldAddr 45 (Go.Operand.tmp 47) 1, type := 0, pos := "core.go:27", after := #[{ on := 13, ground := Go.Ground.data }], guard := none }) (v := ?_) rfl (by kernel_rfl) (by kernel_rfl) (by kernel_rfl) (by kernel_rfl) (fun _ _ _ h => h) (Or.inl ⟨by rfl, ?_⟩) hS ?_
            rotate_left
            · intro w' hSw; obtain ⟨hSb, ⟨ws, hwl, hSn⟩, _⟩ := hSw; have q1 := (hSb.cell (p := ⟨w.heap.size, 1, none⟩) (by simp <;> omega)).trans x1'; have q2 := (hSn.cell 34).trans (wonL_bid _ _ _ _ hwl); have q3 := (hSb.cell (p := ⟨bq, off + k, none⟩) (by simp <;> omega)).trans d0; have q4 := (hSb.cell (p := ⟨b2, off2 + j * 2 + 1, none⟩) (by simp <;> omega)).trans d1; go_simp; try with_reducible rfl
            try simp only [Act.put, List.setIfInBounds_toArray, List.set_cons_zero, List.set_cons_succ]
            refine wpAnyF_take (i := 15) (oi := { dst := some 49, op := Go.Op.load 2 (Go.Operand.tmp 48), type := 2, pos := "core.go:27", after := #[{ on := 14, ground := Go.Ground.data }], guard := none }) (v := ?_) rfl (by kernel_rfl) (by kernel_rfl) (by kernel_rfl) (by kernel_rfl) (fun _ _ _ h => h) (Or.inl ⟨by rfl, ?_⟩) hS ?_
            rotate_left
            · intro w' hSw; obtain ⟨hSb, ⟨ws, hwl, hSn⟩, _⟩ := hSw; have q1 := (hSb.cell (p := ⟨w.heap.size, 1, none⟩) (by simp <;> omega)).trans x1'; have q2 := (hSn.cell 34).trans (wonL_bid _ _ _ _ hwl); have q3 := (hSb.cell (p := ⟨bq, off + k, none⟩) (by simp <;> omega)).trans d0; have q4 := (hSb.cell (p := ⟨b2, off2 + j * 2 + 1, none⟩) (by simp <;> omega)).trans d1; go_simp; try with_reducible rfl
            try simp only [Act.put, List.setIfInBounds_toArray, List.set_cons_zero, List.set_cons_succ]
            refine wpAnyF_take (i := 16) (oi := { dst := some 50, op := Go.Op.nilCheck (Go.Operand.tmp 34), type := 0, pos := "core.go:27", after := #[{ on := 0, ground := Go.Ground.data }], guard := none }) (v := ?_) rfl (by kernel_rfl) (by kernel_rfl) (by kernel_rfl) (by kernel_rfl) (fun _ _ _ h => h) (Or.inl ⟨by rfl, ?_⟩) hS ?_
            rotate_left
            · intro w' hSw; obtain ⟨hSb, ⟨ws, hwl, hSn⟩, _⟩ := hSw; have q1 := (hSb.cell (p := ⟨w.heap.size, 1, none⟩) (by simp <;> omega)).trans x1'; have q2 := (hSn.cell 34).trans (wonL_bid _ _ _ _ hwl); have q3 := (hSb.cell (p := ⟨bq, off + k, none⟩) (by simp <;> omega)).trans d0; have q4 := (hSb.cell (p := ⟨b2, off2 + j * 2 + 1, none⟩) (by simp <;> omega)).trans d1; go_simp; try with_reducible rfl
            try simp only [Act.put, List.setIfInBounds_toArray, List.set_cons_zero, List.set_cons_succ]
            refine wpAnyF_take (i := 17) (oi := { dst := some 51, op := Go.Op.fieldAddr 158 (Go.Operand.tmp 50) 1, type := 0, pos := "core.go:27", after := #[{ on := 16, ground := Go.Ground.data }], guard := none }) (v := ?_) rfl (by kernel_rfl) (by kernel_rfl) (by kernel_rfl) (by kernel_rfl) (fun _ _ _ h => h) (Or.inl ⟨by rfl, ?_⟩) hS ?_
            rotate_left
            · intro w' hSw; obtain ⟨hSb, ⟨ws, hwl, hSn⟩, _⟩ := hSw; have q1 := (hSb.cell (p := ⟨w.heap.size, 1, none⟩) (by simp <;> omega)).trans x1'; have q2 := (hSn.cell 34).trans (wonL_bid _ _ _ _ hwl); have q3 := (hSb.cell (p := ⟨bq, off + k, none⟩) (by simp <;> omega)).trans d0; have q4 := (hSb.cell (p := ⟨b2, off2 + j * 2 + 1, none⟩) (by simp <;> omega)).trans d1; go_simp; try with_reducible rfl
            try simp only [Act.put, List.setIfInBounds_toArray, List.set_cons_zero, List.set_cons_succ]
            refine wpAnyF_take (i := 18) (oi := { dst := some 52, op := Go.Op.indexAddr 156 (Go.Operand.tmp 51) (Go.Operand.tmp 35), type := 0, pos := "core.go:27", after := #[{ on := 17, ground := Go.Ground.data }, { on := 1, ground := Go.Ground.data }, { on := 0, ground := Go.Ground.phase }, { on := 1, ground := Go.Ground.phase }, { on := 2, ground := Go.Ground.textOnly Go.Departure.lateStores }, { on := 3, ground := Go.Ground.textOnly Go.Departure.lateStoresUnsure }, { on := 4, ground := Go.Ground.textOnly Go.Departure.lateStoresUnsure }, { on := 5, ground := Go.Ground.phase }, { on := 6, ground := Go.Ground.textOnly Go.Departure.lateStores }, { on := 7, ground := Go.Ground.textOnly Go.Departure.lateStores }, { on := 8, ground := Go.Ground.textOnly Go.Departure.lateStores }, { on := 9, ground := Go.Ground.textOnly Go.Departure.lateStores }, { on := 10, ground := Go.Ground.textOnly Go.Departure.lateStoresUnsure }, { on := 11, ground := Go.Ground.phase }, { on := 12, ground := Go.Ground.textOnly Go.Departure.lateStores }, { on := 13, ground := Go.Ground.textOnly Go.Departure.lateStoresUnsure }, { on := 14, ground := Go.Ground.textOnly Go.Departure.lateStoresUnsure }, { on := 15, ground := Go.Ground.phase }], guard := none }) (v := ?_) rfl (by kernel_rfl) (by kernel_rfl) (by kernel_rfl) (by kernel_rfl) (fun _ _ _ h => h) (Or.inl ⟨by rfl, ?_⟩) hS ?_
            rotate_left
            · intro w' hSw; obtain ⟨hSb, ⟨ws, hwl, hSn⟩, _⟩ := hSw; have q1 := (hSb.cell (p := ⟨w.heap.size, 1, none⟩) (by simp <;> omega)).trans x1'; have q2 := (hSn.cell 34).trans (wonL_bid _ _ _ _ hwl); have q3 := (hSb.cell (p := ⟨bq, off + k, none⟩) (by simp <;> omega)).trans d0; have q4 := (hSb.cell (p := ⟨b2, off2 + j * 2 + 1, none⟩) (by simp <;> omega)).trans d1; go_simp; try with_reducible rfl
            try simp only [Act.put, List.setIfInBounds_toArray, List.set_cons_zero, List.set_cons_succ]
            refine wpAnyF_ready (rs := [19]) (by kernel_rfl) (by simp) ?_
            refine AllReadyF.cons (o := { dst := none, op := Go.Op.store 4 (Go.Operand.tmp 52) (Go.Operand.const (Go.Value.bool true)), type := 0, pos := "core.go:27", after := #[{ on := 18, ground := Go.Ground.data }, { on := 0, ground := Go.Ground.phase }, { on := 1, ground := Go.Ground.phase }, { on := 2, ground := Go.Ground.textOnly Go.Departure.lateStores }, { on := 3, ground := Go.Ground.textOnly Go.Departure.lateStoresUnsure }, { on := 4, ground := Go.Ground.textOnly Go.Departure.lateStoresUnsure }, { on := 5, ground := Go.Ground.phase }, { on := 6, ground := Go.Ground.textOnly Go.Departure.lateStores }, { on := 7, ground := Go.Ground.textOnly Go.Departure.lateStores }, { on := 8, ground := Go.Ground.textOnly Go.Departure.lateStores }, { on := 9, ground := Go.Ground.textOnly Go.Departure.lateStores }, { on := 10, ground := Go.Ground.textOnly Go.Departure.lateStoresUnsure }, { on := 11, ground := Go.Ground.phase }, { on := 12, ground := Go.Ground.textOnly Go.Departure.lateStores }, { on := 13, ground := Go.Ground.textOnly Go.Departure.lateStoresUnsure }, { on := 14, ground := Go.Ground.textOnly Go.Departure.lateStoresUnsure }, { on := 15, ground := Go.Ground.phase }], guard := none }) rfl (by rfl) (fun K hK => ?_) ?_
            · have hS19 := hS
              obtain ⟨_, ⟨ws, hwl, hSn⟩, _⟩ := hS19
              have f1 := hSn.frozen (2 + k)
              have f2 := (hSn.cell (2 + k)).trans (wonL_win _ _ _ _ k _ (List.getElem?_eq_getElem (by omega)))
              go_simp
              refine hK.out _ _ ?_ (fun hS => ?_)
              · obtain ⟨hSb, ⟨ws, hwl, hSn⟩, ps, hpl, hSg⟩ := hS
                exact ⟨hSb.setCell (p := ⟨w1.heap.size + 2, 2 + k, none⟩) (by simp) _, ⟨ws.set k true, by simpa using hwl, by have := hSn.set_ (2 + k) (.bool true); rwa [wonL_set _ _ _ _ _ _ (by omega)] at this⟩, ps, hpl, hSg.far (p := ⟨w1.heap.size + 2, 2 + k, none⟩) (by simp) _⟩
              clear hK K
              try simp only [Act.put, List.setIfInBounds_toArray, List.set_cons_zero, List.set_cons_succ]
              refine wpAnyF_take (i := 20) (oi := { dst := some 53, op := Go.Op.indexAddr 34 (Go.Operand.tmp 39) (Go.Operand.tmp 40), type := 0, pos := "core.go:27", after := #[{ on := 5, ground := Go.Ground.data }, { on := 6, ground := Go.Ground.data }, { on := 0, ground := Go.Ground.phase }, { on := 1, ground := Go.Ground.phase }, { on := 2, ground := Go.Ground.phase }, { on := 3, ground := Go.Ground.phase }, { on := 4, ground := Go.Ground.phase }, { on := 5, ground := Go.Ground.phase }, { on := 6, ground := Go.Ground.phase }, { on := 7, ground := Go.Ground.phase }, { on := 8, ground := Go.Ground.phase }, { on := 9, ground := Go.Ground.phase }, { on := 10, ground := Go.Ground.phase }, { on := 11, ground := Go.Ground.phase }, { on := 12, ground := Go.Ground.phase }, { on := 13, ground := Go.Ground.phase }, { on := 14, ground := Go.Ground.phase }, { on := 15, ground := Go.Ground.phase }, { on := 16, ground := Go.Ground.phase }, { on := 17, ground := Go.Ground.phase }, { on := 18, ground := Go.Ground.phase }, { on := 19, ground := Go.Ground.phase }], guard := none }) (v := ?_) rfl (by kernel_rfl) (by kernel_rfl) (by kernel_rfl) (by kernel_rfl) (fun _ _ _ h => h) (Or.inl ⟨by rfl, ?_⟩) hS ?_
              rotate_left
              · intro w' hSw; obtain ⟨hSb, ⟨ws, hwl, hSn⟩, _⟩ := hSw; have q1 := (hSb.cell (p := ⟨w.heap.size, 1, none⟩) (by simp <;> omega)).trans x1'; have q2 := (hSn.cell 34).trans (wonL_bid _ _ _ _ hwl); have q3 := (hSb.cell (p := ⟨bq, off + k, none⟩) (by simp <;> omega)).trans d0; have q4 := (hSb.cell (p := ⟨b2, off2 + j * 2 + 1, none⟩) (by simp <;> omega)).trans d1; go_simp; try with_reducible rfl
              try simp only [Act.put, List.setIfInBounds_toArray, List.set_cons_zero, List.set_cons_succ]
              refine wpAnyF_ready (rs := [21]) (by kernel_rfl) (by simp) ?_
              refine AllReadyF.cons (o := { dst := none, op := Go.Op.store 2 (Go.Operand.tmp 53) (Go.Operand.tmp 49), type := 0, pos := "core.go:27", after := #[{ on := 20, ground := Go.Ground.data }, { on := 15, ground := Go.Ground.data }, { on := 19, ground := Go.Ground.chain }, { on := 0, ground := Go.Ground.phase }, { on := 1, ground := Go.Ground.phase }, { on := 2, ground := Go.Ground.phase }, { on := 3, ground := Go.Ground.phase }, { on := 4, ground := Go.Ground.phase }, { on := 5, ground := Go.Ground.phase }, { on := 6, ground := Go.Ground.phase }, { on := 7, ground := Go.Ground.phase }, { on := 8, ground := Go.Ground.phase }, { on := 9, ground := Go.Ground.phase }, { on := 10, ground := Go.Ground.phase }, { on := 11, ground := Go.Ground.phase }, { on := 12, ground := Go.Ground.phase }, { on := 13, ground := Go.Ground.phase }, { on := 14, ground := Go.Ground.phase }, { on := 15, ground := Go.Ground.phase }, { on := 16, ground := Go.Ground.phase }, { on := 17, ground := Go.Ground.phase }, { on := 18, ground := Go.Ground.phase }, { on := 19, ground := Go.Ground.phase }], guard := none }) rfl (by rfl) (fun K hK => ?_) ?_
              · have hS21 := hS
                obtain ⟨_, _, ps, hpl, hSg⟩ := hS21
                have f1 := hSg.frozen k
                have hkp : k < ps.length := by omega
                have f2 := (hSg.cell k).trans (show (ints ps).toArray[k]? = some (.int .i64 ps[k]) from by simp [ints])
                go_simp
                refine hK.out _ _ ?_ (fun hS => ?_)
                · obtain ⟨hSb, ⟨ws, hwl, hSn⟩, ps, hpl, hSg⟩ := hS
                  exact ⟨hSb.setCell (p := ⟨w1.heap.size + 1, k, none⟩) (by simp) _, ⟨ws, hwl, hSn.far (p := ⟨w1.heap.size + 1, k, none⟩) (by simp) _⟩, ps.set k o.c, by simpa using hpl, by have := hSg.set_ k (.int .i64 o.c); rwa [ints_set] at this⟩
                clear hK K
                try simp only [Act.put, List.setIfInBounds_toArray, List.set_cons_zero, List.set_cons_succ]
                refine wpAnyF_done (by kernel_rfl) ?_ _
                clear hS
                go_wp2_with fail
                go_roundw
                case rel =>
                  refine ⟨k + 1, by omega, by go_num, ?_, ?_, ?_⟩
                  · have h1 := (HG3.out.far (p := ⟨w1.heap.size + 2, 2 + k, none⟩) (by simp) (.bool true)).set_ k (.int .i64 o.c)
                    rw [ints_set, bidA_set hlt (by rw [HBG.out, coinAt_some HL.out HOj.out])] at h1
                    exact h1.drew
                  · have h1 := (HN3.out.set_ (2 + k) (.bool true)).far (p := ⟨w1.heap.size + 1, k, none⟩) (by simp) (.int .i64 o.c)
                    rw [wonL_set _ _ _ _ _ _ (by rw [winsL_len]; omega), ← winsL_take_pos HC.out (by omega)] at h1
                    exact h1.drew
                  · exact ((HB3.out.setCell (p := ⟨w1.heap.size + 2, 2 + k, none⟩) (by simp) _).setCell (p := ⟨w1.heap.size + 1, k, none⟩) (by simp) _).drew
                case measure => simp [intOf]; omega
              exact AllReadyF.nil
            exact AllReadyF.nil
        · obtain rfl : k = bs.length := by omega
          have hbl : (bestC n bs).length = bs.length := choose_length _ _
          have HGE := Lib.hid (show Blk wr (w1.heap.size + 1) 2 (ints (bidsC n bs)).toArray from by have := HG3.out; rwa [bidA_all] at this)
          have HNE := Lib.hid (show Blk wr (w1.heap.size + 2) 158 (wonL n (.slice A bs.length cap) (winsL (bestC n bs)) (.slice (some ⟨w1.heap.size + 1, 0, none⟩) bs.length bs.length)).toArray from by have := HN3.out; rwa [List.take_of_length_le (by omega)] at this)
          go_wp2_with fail
          refine bodyPost_ret (v := .tuple #[.pointer (some ⟨w1.heap.size + 2, 0, none⟩), .int .i64 0]) (by simp [results, Try.results93, go_sem]) rfl ⟨_, _, _, rfl, ⟨by omega, HNE.out, own_of_blk HGE.out (by omega) (bidsC_length _ _) (by unfold maxLen; omega)⟩, ?_⟩
          exact HBW1.out.trans ((HB2.out.mono (by omega)).trans (HB3.out.mono (by omega)))
    exact AllReadyF.nil
  exact AllReadyF.nil
end Go.Proofs.Ytcigobiolbojhaa.Vb

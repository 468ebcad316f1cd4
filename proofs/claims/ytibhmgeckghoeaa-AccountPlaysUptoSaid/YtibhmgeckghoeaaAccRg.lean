/- Account: three accounts and the document's, which stand alike. -/
import Derived.Test.YtibhmgeckghoeaaAccRf
import Derived.Test.YtibhmgeckghoeaaAccV
namespace Go.Proofs.Ytibhmgeckghoeaa.Ac
open Go.RowKit Go.Shelf Go.Maps
open Go.Proofs.Ytibhmgeckghoeaa.Vb
attribute [local go_sem] Oper.semAt_some

def upd {α : Type} (f : Nat → α) (i : Nat) (x : α) : Nat → α := fun p => if p = i then x else f p
theorem upd_same {α : Type} (f : Nat → α) (i : Nat) (x : α) : upd f i x i = x := if_pos rfl
theorem upd_ne {α : Type} {f : Nat → α} {i p : Nat} {x : α} (h : p ≠ i) : upd f i x p = f p := if_neg h
structure Trio (W : World) (BA BB : Nat) (tv rv : Nat → Option Addr) (b m g : Nat → Nat) (n : Nat) (f : Nat → Fm) : Prop where
  ta : Blk W BA 42 #[.pointer (tv 0), .pointer (tv 1), .pointer (tv 2)]
  ra : Blk W BB 43 #[.pointer (rv 0), .pointer (rv 1), .pointer (rv 2)]
  pair : ∀ p, p < 3 → PairAt W (.pointer (tv p)) (.pointer (rv p)) (b p) (m p) (g p) n (f p)
  apart : ∀ p q, p < 3 → q < 3 → p ≠ q → (f p).there = true → (f q).there = true → b p ≠ b q ∧ m p ≠ m q ∧ g p ≠ g q
section
variable {W W' : World} {BA BB : Nat} {tv rv : Nat → Option Addr} {b m g : Nat → Nat} {n : Nat} {f : Nat → Fm}
theorem cell3 {t : TypeId} {v : Nat → Option Addr} (h : Blk W BA t #[.pointer (v 0), .pointer (v 1), .pointer (v 2)]) {p : Nat} (hp : p < 3) : W.cell? ⟨BA, p, none⟩ = some (.pointer (v p)) := by
  rcases p with _ | _ | _ | p
  · exact h.cell 0
  · exact h.cell 1
  · exact h.cell 2
  · omega
theorem set3 {t : TypeId} {v : Nat → Option Addr} (h : Blk W BA t #[.pointer (v 0), .pointer (v 1), .pointer (v 2)]) {p : Nat} (hp : p < 3) (x : Option Addr) : Blk (W.setCell ⟨BA, p, none⟩ (.pointer x)) BA t #[.pointer (upd v p x 0), .pointer (upd v p x 1), .pointer (upd v p x 2)] := by
  have := h.set_ p (.pointer x)
  rcases p with _ | _ | _ | p
  · exact this
  · exact this
  · exact this
  · omega
theorem blk_far {t : TypeId} {cs : Array Value} {f0 : Fm} {tv0 rv0 : Value} {b0 m0 g0 : Nat} (h : Blk W BA t cs) (h1 : t ≠ 67) (h2 : t ≠ 75) (hp : PairAt W tv0 rv0 b0 m0 g0 n f0) (ht : f0.there = true) : BA ≠ b0 ∧ BA ≠ m0 ∧ BA ≠ g0 := by
  cases f0 with
  | nil => cases ht
  | zero => cases ht
  | live a =>
    obtain ⟨_, _, ha, ⟨sl, hg, _⟩, _⟩ := hp
    have hb := ha.blk
    refine ⟨?_, blk_ne_map h ha.own, ?_⟩
    · rintro rfl
      unfold Blk at h hb
      rw [h] at hb
      injection hb with hb
      injection hb with _ hb
      exact h1 hb
    · rintro rfl
      unfold Blk at h hg
      rw [h] at hg
      injection hg with hg
      injection hg with _ hg
      exact h2 hg
theorem notags {f0 : Fm} {tv0 rv0 : Value} {b0 m0 g0 : Nat} (hp : PairAt W tv0 rv0 b0 m0 g0 n f0) : ∀ k, (f0.there = true ∧ (k = m0 ∨ k = b0 ∨ k = g0)) → ¬ HTag W k := by
  rintro k ⟨ht, hk⟩
  cases f0 with
  | nil => cases ht
  | zero => cases ht
  | live a =>
    obtain ⟨_, _, ha, hr, _⟩ := hp
    rcases hk with rfl | rfl | rfl
    · exact map_notag ha.own
    · exact ha.blk.notag (by decide)
    · exact hr.notag
/-- the blocks of two pairs that stand apart -/
theorem pairs_apart (h : Trio W BA BB tv rv b m g n f) {p q : Nat} (hp : p < 3) (hq : q < 3) (hne : p ≠ q) (ht : (f p).there = true) : ¬ ((f q).there = true ∧ (b p = m q ∨ b p = b q ∨ b p = g q)) ∧ ¬ ((f q).there = true ∧ (m p = m q ∨ m p = b q ∨ m p = g q)) ∧ ¬ ((f q).there = true ∧ (g p = m q ∨ g p = b q ∨ g p = g q)) := by
  have hap := h.apart p q hp hq hne ht
  have h1 := h.pair p hp
  have h2 := h.pair q hq
  cases hfp : f p with
  | nil => rw [hfp] at ht; cases ht
  | zero => rw [hfp] at ht; cases ht
  | live a =>
    cases hfq : f q with
    | nil => exact ⟨fun h => (by cases h.1), fun h => (by cases h.1), fun h => (by cases h.1)⟩
    | zero => exact ⟨fun h => (by cases h.1), fun h => (by cases h.1), fun h => (by cases h.1)⟩
    | live c =>
      rw [hfp] at h1
      rw [hfq] at h2 hap
      obtain ⟨q1, q2, q3⟩ := hap rfl
      obtain ⟨_, _, a1, r1, _⟩ := h1
      obtain ⟨_, _, a2, r2, _⟩ := h2
      have x1 := blk_ne_map a1.blk a2.own
      have x2 := blk_ne_map a2.blk a1.own
      have x3 := ne_ref a1 r2
      have x4 := ne_ref a2 r1
      refine ⟨?_, ?_, ?_⟩
      · rintro ⟨_, e | e | e⟩
        · exact x1 e
        · exact q1 e
        · exact x3.1 e.symm
      · rintro ⟨_, e | e | e⟩
        · exact q2 e
        · exact x2 e.symm
        · exact x3.2 e.symm
      · rintro ⟨_, e | e | e⟩
        · exact x4.2 e
        · exact x4.1 e
        · exact q3 e
theorem Trio.grow (h : Trio W BA BB tv rv b m g n f) (hb : Below W.heap.size W W') : Trio W' BA BB tv rv b m g n f := ⟨h.ta.grow hb, h.ra.grow hb, fun p hp => (h.pair p hp).grow hb, h.apart⟩
theorem Trio.turn {i : Nat} {f' : Fm} (h : Trio W BA BB tv rv b m g n f) (hi : i < 3) (hc : Chg (fun k => (f i).there = true ∧ (k = m i ∨ k = b i ∨ k = g i)) W W')
    (hp : PairAt W' (.pointer (tv i)) (.pointer (rv i)) (b i) (m i) (g i) (n + 1) f') (ht : f'.there = (f i).there) : Trio W' BA BB tv rv b m g (n + 1) (upd f i f') := by
  have hpi := h.pair i hi
  refine ⟨h.ta.chg hc ?_, h.ra.chg hc ?_, fun p hp' => ?_, fun p q hp' hq hne h1 h2 => ?_⟩
  · rintro ⟨ht, e⟩
    obtain ⟨q1, q2, q3⟩ := blk_far h.ta (by decide) (by decide) hpi ht
    rcases e with e | e | e
    · exact q2 e
    · exact q1 e
    · exact q3 e
  · rintro ⟨ht, e⟩
    obtain ⟨q1, q2, q3⟩ := blk_far h.ra (by decide) (by decide) hpi ht
    rcases e with e | e | e
    · exact q2 e
    · exact q1 e
    · exact q3 e
  · by_cases he : p = i
    · subst he
      rw [upd_same]
      exact hp
    · rw [upd_ne he]
      exact ((h.pair p hp').chg hc (fun ht => pairs_apart h hp' hi he ht) (notags hpi)).mono (Nat.le_succ _)
  · have e : ∀ p, (upd f i f' p).there = (f p).there := fun p => by
      by_cases he : p = i
      · subst he; rw [upd_same, ht]
      · rw [upd_ne he]
    rw [e] at h1 h2
    exact h.apart p q hp' hq hne h1 h2
theorem Trio.put {i : Nat} {f' : Fm} {t' r' : Option Addr} {b' m' g' : Nat} (h : Trio W BA BB tv rv b m g n f) (hi : i < 3) (hp : PairAt W (.pointer t') (.pointer r') b' m' g' n f')
    (hfr : ∀ q, q < 3 → (f q).there = true → f'.there = true → b' ≠ b q ∧ m' ≠ m q ∧ g' ≠ g q) (hab : BA ≠ BB) :
    Trio ((W.setCell ⟨BA, i, none⟩ (.pointer t')).setCell ⟨BB, i, none⟩ (.pointer r')) BA BB (upd tv i t') (upd rv i r') (upd b i b') (upd m i m') (upd g i g') n (upd f i f') := by
  have hc : Chg (fun k => k = BA ∨ k = BB) W ((W.setCell ⟨BA, i, none⟩ (.pointer t')).setCell ⟨BB, i, none⟩ (.pointer r')) := ((Chg.set W ⟨BA, i, none⟩ _).mono (Y := fun k => k = BA ∨ k = BB) fun _ _ e => .inl e).step (Chg.set _ ⟨BB, i, none⟩ _) fun _ _ e => .inr e
  have keep : ∀ {tv0 rv0 : Value} {b0 m0 g0 : Nat} {f0 : Fm}, PairAt W tv0 rv0 b0 m0 g0 n f0 → PairAt ((W.setCell ⟨BA, i, none⟩ (.pointer t')).setCell ⟨BB, i, none⟩ (.pointer r')) tv0 rv0 b0 m0 g0 n f0 := fun {tv0 rv0 b0 m0 g0 f0} h0 => by
    refine h0.chg hc (fun ht => ?_) ?_
    · obtain ⟨q1, q2, q3⟩ := blk_far h.ta (by decide) (by decide) h0 ht
      obtain ⟨s1, s2, s3⟩ := blk_far h.ra (by decide) (by decide) h0 ht
      exact ⟨by rintro (e | e); exact q1 e.symm; exact s1 e.symm, by rintro (e | e); exact q2 e.symm; exact s2 e.symm, by rintro (e | e); exact q3 e.symm; exact s3 e.symm⟩
    · rintro k (rfl | rfl)
      · exact h.ta.notag (by decide)
      · exact h.ra.notag (by decide)
  refine ⟨(set3 h.ta hi t').far (p := ⟨BB, i, none⟩) hab _, set3 (h.ra.far (p := ⟨BA, i, none⟩) (fun e => hab e.symm) _) hi r', fun p hp' => ?_, fun p q hp' hq hne h1 h2 => ?_⟩
  · by_cases he : p = i
    · subst he
      simp only [upd_same]
      exact keep hp
    · simp only [upd_ne he]
      exact keep (h.pair p hp')
  · by_cases he : p = i
    · subst he
      have hq' : q ≠ p := fun e => hne e.symm
      simp only [upd_same, upd_ne hq'] at *
      exact hfr q hq h2 h1
    · by_cases he2 : q = i
      · subst he2
        simp only [upd_same, upd_ne he] at *
        obtain ⟨z1, z2, z3⟩ := hfr p hp' h1 h2
        exact ⟨fun e => z1 e.symm, fun e => z2 e.symm, fun e => z3 e.symm⟩
      · simp only [upd_ne he, upd_ne he2] at *
        exact h.apart p q hp' hq hne h1 h2
end

theorem Trio.none_ {W : World} {BA BB : Nat} {tv rv : Nat → Option Addr} {b m g : Nat → Nat} {n : Nat} {f : Nat → Fm} (h : Trio W BA BB tv rv b m g n f) {p : Nat} (hp : p < 3) : (tv p).isNone = !(f p).there ∧ (rv p).isNone = !(f p).there := by
  have hq := h.pair p hp
  cases hf : f p with
  | nil =>
    rw [hf] at hq
    obtain ⟨h1, h2⟩ := hq
    injection h1 with h1
    injection h2 with h2
    rw [h1, h2]
    exact ⟨rfl, rfl⟩
  | zero => rw [hf] at hq; exact hq.elim
  | live a =>
    rw [hf] at hq
    obtain ⟨h1, h2, _⟩ := hq
    injection h1 with h1
    injection h2 with h2
    rw [h1, h2]
    exact ⟨rfl, rfl⟩
/-- all that the accounts are made of lies from lo on -/
def Low (lo : Nat) (b m g : Nat → Nat) (f : Nat → Fm) : Prop := ∀ p, p < 3 → (f p).there = true → lo ≤ b p ∧ lo ≤ m p ∧ lo ≤ g p
theorem Low.turn {lo : Nat} {b m g : Nat → Nat} {f : Nat → Fm} (h : Low lo b m g f) {i : Nat} {f' : Fm} (ht : f'.there = (f i).there) : Low lo b m g (upd f i f') := fun p hp h1 => by
  by_cases he : p = i
  · subst he
    rw [upd_same, ht] at h1
    exact h p hp h1
  · rw [upd_ne he] at h1
    exact h p hp h1
theorem Low.put {lo : Nat} {b m g : Nat → Nat} {f : Nat → Fm} (h : Low lo b m g f) {i b' m' g' : Nat} {f' : Fm} (ht : f'.there = true → lo ≤ b' ∧ lo ≤ m' ∧ lo ≤ g') : Low lo (upd b i b') (upd m i m') (upd g i g') (upd f i f') := fun p hp h1 => by
  by_cases he : p = i
  · subst he
    simp only [upd_same] at *
    exact ht h1
  · simp only [upd_ne he] at *
    exact h p hp h1
/-- what Copy answers -/
def CopyA (w' : World) (lo : Nat) (t' : Option Addr) (b' m' n : Nat) : Fm → Prop
  | .nil => t' = none
  | .zero => False
  | .live a => t' = some ⟨b', 0, none⟩ ∧ AccAt w' b' m' n a ∧ lo ≤ b' ∧ lo ≤ m'
def CopyR (w' : World) (lo : Nat) (r' : Option Addr) (g' : Nat) : Fm → Prop
  | .nil => r' = none
  | .zero => False
  | .live a => r' = some ⟨g', 0, none⟩ ∧ RefAt w' g' a ∧ lo ≤ g'
section
variable {W : World} {t0 r0 : Option Addr} {b m g n : Nat} {f : Fm}
theorem copyA_any (h : PairAt W (.pointer t0) (.pointer r0) b m g n f) : Calls Try.prog 16 #[.pointer t0] W fun e w' => Below W.heap.size W w' ∧ ∃ t' b' m', e = .returned (.pointer t') ∧ CopyA w' W.heap.size t' b' m' n f := by
  cases f with
  | zero => exact h.elim
  | nil =>
    refine (copy_dead h.at_ rfl).mono ?_
    rintro e w' ⟨rfl, rfl⟩
    exact ⟨Below.refl _ _, none, 0, 0, rfl, rfl⟩
  | live a =>
    obtain ⟨h1, _, h3, _⟩ := h
    obtain rfl : t0 = some ⟨b, 0, none⟩ := by injection h1
    refine (copy_live h3).mono ?_
    rintro e w' ⟨hb, b', m', rfl, q1, q2, q3⟩
    exact ⟨hb, _, b', m', rfl, rfl, q3, q1, q2⟩
theorem copyR_any (h : PairAt W (.pointer t0) (.pointer r0) b m g n f) : Calls Try.prog 17 #[.pointer r0] W fun e w' => Below W.heap.size W w' ∧ ∃ r' g', e = .returned (.pointer r') ∧ CopyR w' W.heap.size r' g' f := by
  cases f with
  | zero => exact h.elim
  | nil =>
    obtain rfl : r0 = none := by injection h.2
    refine (refCopy_none 0 0 W).mono ?_
    rintro e w' ⟨rfl, rfl⟩
    exact ⟨Below.refl _ _, none, 0, rfl, rfl⟩
  | live a =>
    obtain ⟨_, h2, _, h4, _⟩ := h
    obtain rfl : r0 = some ⟨g, 0, none⟩ := by injection h2
    refine (refCopy_live h4).mono ?_
    rintro e w' ⟨rfl, hb, q⟩
    exact ⟨hb, _, _, rfl, rfl, q, Nat.le_refl _⟩
theorem CopyA.ge {w' : World} {lo b' m' n : Nat} {t' : Option Addr} {f : Fm} (h : CopyA w' lo t' b' m' n f) (ht : f.there = true) : lo ≤ b' ∧ lo ≤ m' := by
  cases f with
  | nil => cases ht
  | zero => cases ht
  | live a => exact ⟨h.2.2.1, h.2.2.2⟩
theorem CopyR.ge {w' : World} {lo g' : Nat} {r' : Option Addr} {f : Fm} (h : CopyR w' lo r' g' f) (ht : f.there = true) : lo ≤ g' := by
  cases f with
  | nil => cases ht
  | zero => cases ht
  | live a => exact h.2.2
theorem PairAt.lt {W : World} {tv rv : Value} {b m g n : Nat} {f : Fm} (h : PairAt W tv rv b m g n f) (ht : f.there = true) : b < W.heap.size ∧ m < W.heap.size ∧ g < W.heap.size := by
  cases f with
  | nil => cases ht
  | zero => cases ht
  | live a => exact ⟨h.2.2.1.ltb, h.2.2.1.ltm, h.2.2.2.1.lt⟩
theorem copy_pair {W' W2 : World} {t' r' : Option Addr} {b' m' g' lo lo2 : Nat} (h : PairAt W (.pointer t0) (.pointer r0) b m g n f) (h1 : CopyA W' lo t' b' m' n f) (hb : Below W'.heap.size W' W2) (h2 : CopyR W2 lo2 r' g' f) : PairAt W2 (.pointer t') (.pointer r') b' m' g' n f := by
  cases f with
  | zero => exact h.elim
  | nil => subst h1; subst h2; exact ⟨rfl, rfl⟩
  | live a =>
    obtain ⟨rfl, q1, _⟩ := h1
    obtain ⟨rfl, q2, _⟩ := h2
    obtain ⟨_, _, _, _, h5, h6⟩ := h
    exact ⟨rfl, rfl, q1.grow hb, q2, h5, h6⟩
theorem refSame_any {t1 r1 : Option Addr} {b1 m1 g1 n1 : Nat} {f1 : Fm} (h : PairAt W (.pointer t0) (.pointer r0) b m g n f) (h' : PairAt W (.pointer t1) (.pointer r1) b1 m1 g1 n1 f1) :
    Calls Try.prog 18 #[.pointer r0, .pointer r1] W fun e w' => e = .returned (.bool (f.same f1)) ∧ Below W.heap.size W w' := by
  cases f with
  | zero => exact h.elim
  | nil =>
    obtain rfl : r0 = none := by injection h.2
    exact refSame_none1 _ W ⟨_, rfl⟩
  | live a =>
    obtain ⟨_, h2, _, h4, h5, _⟩ := h
    obtain rfl : r0 = some ⟨g, 0, none⟩ := by injection h2
    cases f1 with
    | zero => exact h'.elim
    | nil =>
      obtain rfl : r1 = none := by injection h'.2
      exact refSame_none2 g W
    | live c =>
      obtain ⟨_, k2, _, k4, k5, _⟩ := h'
      obtain rfl : r1 = some ⟨g1, 0, none⟩ := by injection k2
      exact refSame_live h4 k4 h5 k5
end
end Go.Proofs.Ytibhmgeckghoeaa.Ac

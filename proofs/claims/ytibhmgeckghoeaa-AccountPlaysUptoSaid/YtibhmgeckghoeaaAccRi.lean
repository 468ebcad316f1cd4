/- Account: New and Of, both ways in one. -/
import Derived.Test.YtibhmgeckghoeaaAccRg
namespace Go.Proofs.Ytibhmgeckghoeaa.Ac
open Go.RowKit Go.Shelf Go.Maps
open Go.Proofs.Ytibhmgeckghoeaa.Vb
attribute [local go_sem] Oper.semAt_some

def fNew (bud : Int) : Fm := if coin bud then .live (newA bud) else .nil
def fOf (bud sp : Int) (l : HM) : Fm := if ofE bud sp l = 0 then .live ⟨bud, sp, l⟩ else .nil
def CopyF (w' : World) (lo : Nat) (r' : Option Addr) (g' : Nat) : Fm → Prop
  | .nil => r' = none
  | .zero => False
  | .live a => r' = some ⟨g', 0, none⟩ ∧ RefFrom lo w' g' a
theorem new_u (bud : Int) (w : World) : Calls Try.prog 7 #[.int .i64 bud] w fun e w' => Below w.heap.size w w' ∧ ∃ t' b' m', e = .returned (.tuple #[.pointer t', .int .i64 (newE bud)]) ∧ CopyA w' w.heap.size t' b' m' 0 (fNew bud) := by
  refine (new_any bud w).mono ?_
  rintro e w' ⟨hb, (⟨hc, rfl⟩ | ⟨hc, rfl, hA⟩)⟩
  · refine ⟨hb, none, 0, 0, by unfold newE; rw [if_neg hc], ?_⟩
    unfold fNew
    rw [if_neg hc]
    rfl
  · refine ⟨hb, _, w.heap.size + 1, w.heap.size, by unfold newE; rw [if_pos hc], ?_⟩
    unfold fNew
    rw [if_pos hc]
    exact ⟨rfl, hA, Nat.le_succ _, Nat.le_refl _⟩
theorem of_u {bud sp : Int} {l : HM} {v : Value} {R : Nat → Prop} {w : World} (h : Helds w R v l) : Calls Try.prog 11 #[.int .i64 bud, .int .i64 sp, v] w fun e w' => Below w.heap.size w w' ∧ ∃ t' b' m', e = .returned (.tuple #[.pointer t', .int .i64 (ofE bud sp l)]) ∧ CopyA w' w.heap.size t' b' m' l.length (fOf bud sp l) := by
  refine (of_any (bud := bud) (sp := sp) h).mono ?_
  rintro e w' ⟨hb, (⟨hc, rfl⟩ | ⟨hc, rfl, hA⟩)⟩
  · refine ⟨hb, none, 0, 0, rfl, ?_⟩
    unfold fOf
    rw [if_neg hc]
    rfl
  · refine ⟨hb, _, w.heap.size + 1, w.heap.size, by rw [hc], ?_⟩
    unfold fOf
    rw [if_pos hc]
    exact ⟨rfl, hA, Nat.le_succ _, Nat.le_refl _⟩
theorem refNew_u (bud : Int) (w : World) : Calls Try.prog 12 #[.int .i64 bud] w fun e w' => Below w.heap.size w w' ∧ ∃ r' g', e = .returned (.tuple #[.pointer r', .int .i64 (newE bud)]) ∧ CopyF w' w.heap.size r' g' (fNew bud) := by
  refine (refNew_any bud w).mono ?_
  rintro e w' ⟨hb, (⟨hc, rfl⟩ | ⟨hc, rfl, hA⟩)⟩
  · refine ⟨hb, none, 0, by unfold newE; rw [if_neg hc], ?_⟩
    unfold fNew
    rw [if_neg hc]
    rfl
  · refine ⟨hb, _, w.heap.size, by unfold newE; rw [if_pos hc], ?_⟩
    unfold fNew
    rw [if_pos hc]
    exact ⟨rfl, hA⟩
theorem refOf_u {bud sp : Int} {l : HM} {v : Value} {R : Nat → Prop} {w : World} (h : Helds w R v l) : Calls Try.prog 13 #[.int .i64 bud, .int .i64 sp, v] w fun e w' => Below w.heap.size w w' ∧ ∃ r' g', e = .returned (.tuple #[.pointer r', .int .i64 (ofE bud sp l)]) ∧ CopyF w' w.heap.size r' g' (fOf bud sp l) := by
  refine (refOf_any (bud := bud) (sp := sp) h).mono ?_
  rintro e w' ⟨hb, (⟨hc, rfl⟩ | ⟨hc, g, hg, rfl, hA⟩)⟩
  · refine ⟨hb, none, 0, rfl, ?_⟩
    unfold fOf
    rw [if_neg hc]
    rfl
  · refine ⟨hb, _, g, by rw [hc], ?_⟩
    unfold fOf
    rw [if_pos hc]
    exact ⟨rfl, hA⟩
section
variable {W W' : World} {lo n b' m' g' : Nat} {t' r' : Option Addr} {f : Fm}
theorem CopyA.chg {X : Nat → Prop} (h : CopyA W lo t' b' m' n f) (hc : Chg X W W') (hx : ∀ k, X k → k < lo) : CopyA W' lo t' b' m' n f := by
  cases f with
  | nil => exact h
  | zero => exact h.elim
  | live a =>
    obtain ⟨h1, h2, h3, h4⟩ := h
    exact ⟨h1, h2.chg hc (fun e => by have := hx _ e; omega) (fun e => by have := hx _ e; omega), h3, h4⟩
theorem CopyA.grow (h : CopyA W lo t' b' m' n f) (hb : Below W.heap.size W W') : CopyA W' lo t' b' m' n f := h.chg (Chg.of (fun _ => False) hb) fun _ h => h.elim
theorem CopyF.chg {X : Nat → Prop} (h : CopyF W lo r' g' f) (hc : Chg X W W') (hx : ∀ k, X k → k < lo) : CopyF W' lo r' g' f := by
  cases f with
  | nil => exact h
  | zero => exact h.elim
  | live a => exact ⟨h.1, h.2.chg hc hx⟩
theorem CopyF.grow (h : CopyF W lo r' g' f) (hb : Below W.heap.size W W') : CopyF W' lo r' g' f := h.chg (Chg.of (fun _ => False) hb) fun _ h => h.elim
theorem CopyA.lt (h : CopyA W lo t' b' m' n f) (ht : f.there = true) : b' < W.heap.size ∧ m' < W.heap.size ∧ lo ≤ b' ∧ lo ≤ m' := by
  cases f with
  | nil => cases ht
  | zero => cases ht
  | live a => exact ⟨h.2.1.ltb, h.2.1.ltm, h.2.2.1, h.2.2.2⟩
theorem CopyF.lt (h : CopyF W lo r' g' f) (ht : f.there = true) : g' < W.heap.size ∧ lo ≤ g' := by
  cases f with
  | nil => cases ht
  | zero => cases ht
  | live a => exact ⟨h.2.at_.lt, h.2.1⟩
theorem own_frozen {w : World} {base : Nat} {e : TypeId} {sz n c gg : Nat} {xs : List Value} (h : w.ownsRow base e sz (.slice (some ⟨gg, 0, none⟩) n c) n xs) (j : Nat) : w.frozen? ⟨gg, j, none⟩ = false := by
  rcases h.2 with ⟨hn, _⟩ | ⟨g2, cap, cur, hv, _, hcur, _⟩
  · cases hn
  · injection hv with hv
    injection hv with hv
    injection hv with hv
    subst hv
    simp [World.frozen?, hcur]
/-- is it there? -/
theorem CopyA.none_ (h : CopyA W lo t' b' m' n f) : t'.isNone = !f.there := by
  cases f with
  | nil => subst h; rfl
  | zero => exact h.elim
  | live a => rw [h.1]; rfl
theorem CopyF.none_ (h : CopyF W lo r' g' f) : r'.isNone = !f.there := by
  cases f with
  | nil => subst h; rfl
  | zero => exact h.elim
  | live a => rw [h.1]; rfl
theorem copy_pairF {lo2 n' : Nat} (h1 : CopyA W lo t' b' m' n f) (h2 : CopyF W lo2 r' g' f) (hk : ∀ a, f = .live a → a.Ok ∧ a.Fine) (hn : n ≤ n') : PairAt W (.pointer t') (.pointer r') b' m' g' n' f := by
  cases f with
  | zero => exact h1.elim
  | nil => subst h1; subst h2; exact ⟨rfl, rfl⟩
  | live a =>
    obtain ⟨rfl, q1, _⟩ := h1
    obtain ⟨rfl, q2⟩ := h2
    obtain ⟨k1, k2⟩ := hk a rfl
    exact ⟨rfl, rfl, q1.mono hn, q2.at_, k1, k2⟩
theorem fNew_ok {bud : Int} : ∀ a, fNew bud = .live a → a.Ok ∧ a.Fine := by
  intro a h
  unfold fNew at h
  split at h
  · injection h with h
    subst h
    exact new_ok (by assumption)
  · cases h
theorem fOf_ok {bud sp : Int} {l : HM} (hl : ∀ p ∈ l, int64b p.1 ∧ int64b p.2) : ∀ a, fOf bud sp l = .live a → a.Ok ∧ a.Fine := by
  intro a h
  unfold fOf at h
  split at h
  · injection h with h
    subst h
    exact ofE_fine hl (by assumption)
  · cases h
end
end Go.Proofs.Ytibhmgeckghoeaa.Ac

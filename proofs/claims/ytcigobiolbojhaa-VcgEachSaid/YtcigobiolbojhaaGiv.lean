/- Law 17's own: what given makes. -/
import Derived.Test.YtcigobiolbojhaaWorks
namespace Go.Proofs.Ytcigobiolbojhaa.Vb
open Go.RowKit

/-- each list in memory of its own, with one offer of 77 behind it -/
def Giv (w : World) (lo : Nat) (v : Value) (bs : List (List Off)) : Prop :=
  ∃ vs, w.ownsRow lo 41 1 v bs.length vs ∧ ∀ (k : Nat) (l : List Off), bs[k]? = some l → ∃ b cap, vs[k]? = some (.slice (some ⟨b, 0, none⟩) l.length cap) ∧
    w.ownsRow lo 45 2 (.slice (some ⟨b, 0, none⟩) (l.length + 1) cap) (l.length + 1) (Off.all (l ++ [⟨77, 0⟩])) ∧ ∀ o ∈ l, o.wf
theorem Giv.grow {w w' : World} {lo : Nat} {v : Value} {bs : List (List Off)} (h : Giv w lo v bs) (hb : Below w.heap.size w w') : Giv w' lo v bs := by
  obtain ⟨vs, hs, ho⟩ := h
  exact ⟨vs, own_grow hs hb, fun k l hk => let ⟨b, c, h1, h2, h3⟩ := ho k l hk; ⟨b, c, h1, own_grow h2 hb, h3⟩⟩
theorem Giv.mono {w : World} {lo lo' : Nat} {v : Value} {bs : List (List Off)} (h : Giv w lo v bs) (hl : lo' ≤ lo) : Giv w lo' v bs := by
  obtain ⟨vs, hs, ho⟩ := h
  exact ⟨vs, own_mono hs hl, fun k l hk => let ⟨b, c, h1, h2, h3⟩ := ho k l hk; ⟨b, c, h1, own_mono h2 hl, h3⟩⟩
theorem own_lo {w w' : World} {lo : Nat} {e : TypeId} {sz n : Nat} {v : Value} {xs : List Value} {row : Option Nat} (h : w.ownsRow lo e sz v n xs) (hg : w.grownBy w' row) (hr : ∀ k, row = some k → k < lo) : w'.ownsRow lo e sz v n xs :=
  own_far h hg fun g e he => by have := (h.lt g he).1; have := hr g e; omega
theorem Giv.far {w w' : World} {lo : Nat} {v : Value} {bs : List (List Off)} {row : Option Nat} (h : Giv w lo v bs) (hg : w.grownBy w' row) (hr : ∀ k, row = some k → k < lo) : Giv w' lo v bs := by
  obtain ⟨vs, hs, ho⟩ := h
  exact ⟨vs, own_lo hs hg hr, fun k l hk => let ⟨b, c, h1, h2, h3⟩ := ho k l hk; ⟨b, c, h1, own_lo h2 hg hr, h3⟩⟩
theorem Giv.buys {w : World} {lo : Nat} {v : Value} {bs : List (List Off)} (h : Giv w lo v bs) : Buys w (fun _ => True) v bs := by
  obtain ⟨vs, hs, ho⟩ := h
  refine ⟨vs, (Sl.of_own hs).mono fun _ _ _ => trivial, fun k l hk => ?_⟩
  obtain ⟨b, c, h1, h2, h3⟩ := ho k l hk
  obtain ⟨_, A, cap, hv, hnc, hcm, hcs⟩ := Sl.of_own h2
  injection hv with hA _ hc
  subst hA hc
  refine ⟨_, h1, ⟨by rw [Off.all_length], _, _, rfl, by omega, hcm, fun h0 => ?_⟩, h3⟩
  obtain ⟨b', off, e, _, hlt, hcell⟩ := hcs (by omega)
  refine ⟨b', off, e, trivial, hlt, fun j u hj => hcell j u ?_⟩
  have : Off.all (l ++ [⟨77, 0⟩]) = Off.all l ++ Off.all [⟨77, 0⟩] := by simp [Off.all]
  rw [this, List.getElem?_append_left (List.getElem?_eq_some_iff.1 hj).1]
  exact hj
/-- One list more. -/
theorem Giv.snoc {w w' : World} {lo : Nat} {v : Value} {bs : List (List Off)} {vs : List Value} {l : List Off} {b cap : Nat} {A' : Option Addr} {cap' n : Nat} (hn : bs.length = n)
    (hs : w.ownsRow lo 41 1 v n vs)
    (ho : ∀ (k : Nat) (l : List Off), bs[k]? = some l → ∃ b cap, vs[k]? = some (.slice (some ⟨b, 0, none⟩) l.length cap) ∧ w.ownsRow lo 45 2 (.slice (some ⟨b, 0, none⟩) (l.length + 1) cap) (l.length + 1) (Off.all (l ++ [⟨77, 0⟩])) ∧ ∀ o ∈ l, o.wf)
    (hl : w.ownsRow lo 45 2 (.slice (some ⟨b, 0, none⟩) (l.length + 1) cap) (l.length + 1) (Off.all (l ++ [⟨77, 0⟩]))) (hw : ∀ o ∈ l, o.wf)
    (hown : w'.ownsRow lo 41 1 (.slice A' (n + 1) cap') (n + 1) (vs ++ [.slice (some ⟨b, 0, none⟩) l.length cap])) (hg : w.grownBy w' v.ownBlock) : Giv w' lo (.slice A' (n + 1) cap') (bs ++ [l]) := by
  subst hn
  have hlen : vs.length = bs.length := by simpa using hs.1
  have step : ∀ {u : Value} {m : Nat} {xs : List Value}, w.ownsRow lo 45 2 u m xs → w'.ownsRow lo 45 2 u m xs := fun h => own_far h hg fun g e => own_ne hs h (by decide) e
  refine ⟨vs ++ [.slice (some ⟨b, 0, none⟩) l.length cap], by simpa using hown, fun k l' hk => ?_⟩
  by_cases hkl : k < bs.length
  · rw [List.getElem?_append_left hkl] at hk
    obtain ⟨b', c', h1, h2, h3⟩ := ho k l' hk
    exact ⟨b', c', by rw [List.getElem?_append_left (by omega)]; exact h1, step h2, h3⟩
  · have : k = bs.length := by
      rcases Nat.lt_or_ge k (bs ++ [l]).length with h | h
      · simp at h; omega
      · rw [List.getElem?_eq_none h] at hk; cases hk
    subst this
    simp at hk
    subst hk
    exact ⟨b, cap, by rw [← hlen]; simp, step hl, hw⟩
end Go.Proofs.Ytcigobiolbojhaa.Vb

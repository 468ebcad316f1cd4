/- Joined by program: TruE TruG RefLow BitsX Tab15 Part15 Part15b Best15 Wo15 RefBids. -/
import Derived.Test.YtcigobiolbojhaaZk
import Derived.Test.YtcigobiolbojhaaZf
import Derived.Test.YtcigobiolbojhaaZc
import Derived.Test.YtcigobiolbojhaaZd
import Derived.Test.YtcigobiolbojhaaZa
import Derived.Test.YtcigobiolbojhaaZg
/- Law 29: TruthShades, walked. -/
namespace Go.Proofs.Ytcigobiolbojhaa.Vb
open Go.RowKit

theorem own_at {W : World} {lo n c : Nat} {e : TypeId} {A : Option Addr} {vs : List Value} (h : W.ownsRow lo e 1 (.slice A n c) n vs) (h0 : 0 < n) : ∃ g o, A = some ⟨g, o, none⟩ ∧ g < W.heap.size ∧ ∀ j u, vs[j]? = some u → W.cell? ⟨g, o + j, none⟩ = some u := by
  obtain ⟨_, A7, c7, hv7, _, _, hcs7⟩ := Sl.own_from h
  injection hv7 with hA7 _ _
  subst hA7
  obtain ⟨g, o, h1, _, h2, h3⟩ := hcs7 h0
  exact ⟨g, o, h1, h2, h3⟩
/-- what lies outside of the blocks la .. ha is as it was -/
structure KOut (la ha : Nat) (W W' : World) : Prop where
  size : W.heap.size ≤ W'.heap.size
  same : ∀ b, b < W.heap.size → (b < la ∨ ha ≤ b) → W'.heap[b]? = W.heap[b]?
theorem KOut.refl (la ha : Nat) (W : World) : KOut la ha W W := ⟨Nat.le_refl _, fun _ _ _ => rfl⟩
theorem KOut.below {la ha : Nat} {W W' W2 : World} (h : KOut la ha W W') (hb : Below W'.heap.size W' W2) : KOut la ha W W2 := ⟨Nat.le_trans h.size hb.size, fun b hlt ho => (hb.block b (Nat.lt_of_lt_of_le hlt h.size)).trans (h.same b hlt ho)⟩
theorem KOut.set {la ha : Nat} {W W' : World} (h : KOut la ha W W') {p : Addr} (h1 : la ≤ p.block) (h2 : p.block < ha) (u : Value) : KOut la ha W (W'.setCell p u) :=
  ⟨by simpa [World.setCell] using h.size, fun b hlt ho => (Below.heap_setCell W' p u b (by omega)).trans (h.same b hlt ho)⟩
theorem KOut.buys {la ha lo : Nat} {W W' : World} {v : Value} {bs : List (List Off)} (h : KOut la ha W W') (hb : Buys W (lo ≤ ·) v bs) (hl : ha ≤ lo) : Buys W' (lo ≤ ·) v bs :=
  hb.keep h.size fun b hlt hr => h.same b hlt (.inr (Nat.le_trans hl hr))
/-- in between: the lists from i on are as they were -/
structure ZK (la ha n : Nat) (Aa : Option Addr) (ca : Nat) (vs : List Value) (bs : List (List Off)) (w W0 : World) (i : Nat) (W : World) : Prop where
  out : W.ownsRow la 41 1 (.slice Aa n ca) n vs
  rows : ∀ (j : Nat) (l : List Off), i ≤ j → bs[j]? = some l → ∃ A c, vs[j]? = some (.slice A l.length c) ∧ W.ownsRow la 45 2 (.slice A l.length c) l.length (Off.all l) ∧ ∀ o ∈ l, o.wf
  old : KOut la ha W0 W
  bel : Below w.heap.size w W
theorem ZK.grow {la ha n ca i : Nat} {Aa : Option Addr} {vs : List Value} {bs : List (List Off)} {w W0 W W' : World} (h : ZK la ha n Aa ca vs bs w W0 i W) (hb : Below W.heap.size W W') : ZK la ha n Aa ca vs bs w W0 i W' :=
  ⟨own_grow h.out hb, fun j l hj hl => let ⟨A, c, h1, h2, h3⟩ := h.rows j l hj hl; ⟨A, c, h1, own_grow h2 hb, h3⟩, h.old.below hb, h.bel.trans (hb.mono h.bel.size)⟩
theorem ZK.set {la ha n ca i i0 g m : Nat} {Aa : Option Addr} {vs : List Value} {bs : List (List Off)} {w W0 W : World} {u : Value} {ys : List Value} (h : ZK la ha n Aa ca vs bs w W0 i W)
    (hsep : ∀ (i j : Nat) (u u' : Value) (g : Nat), i ≠ j → vs[i]? = some u → vs[j]? = some u' → u.ownBlock = some g → u'.ownBlock ≠ some g) (hu : vs[i0]? = some u) (hg : u.ownBlock = some g) (hi : i0 < i) (h1 : la ≤ g) (h2 : g < ha) (hw : w.heap.size ≤ la)
    (hrow : W.ownsRow la 45 2 u m ys) (j : Nat) (x : Value) : ZK la ha n Aa ca vs bs w W0 i (W.setCell ⟨g, j, none⟩ x) := by
  have hgb := grownBy_setCell W ⟨g, j, none⟩ x
  refine ⟨own_far h.out hgb fun k e he => ?_, fun q l hq hl => ?_, h.old.set h1 h2 _, h.bel.setCell (p := ⟨g, j, none⟩) (by simp; omega) _⟩
  · simp at e
    subst e
    exact own_ne h.out hrow (by decide) he hg
  · obtain ⟨A, c, a1, a2, a3⟩ := h.rows q l hq hl
    exact ⟨A, c, a1, own_far a2 hgb fun k e he => by simp at e; subst e; exact hsep i0 q u _ _ (by omega) hu a1 hg he, a3⟩


end Go.Proofs.Ytcigobiolbojhaa.Vb

/- Law 29: lists lent, as they lie; whatever they hold behind the storing over. -/
namespace Go.Proofs.Ytcigobiolbojhaa.Vb
open Go.RowKit

/-- lists in memory of their own, whatever they hold -/
def GivX (w : World) (lo N : Nat) (v : Value) (bs : List (List Off)) : Prop :=
  ∃ vs, w.ownsRow lo 41 1 v bs.length vs ∧ ∀ (k : Nat) (l : List Off), bs[k]? = some l → ∃ b cap xs, vs[k]? = some (.slice (some ⟨b, 0, none⟩) l.length cap) ∧ lo ≤ b ∧ b < N ∧
    w.ownsRow lo 45 2 (.slice (some ⟨b, 0, none⟩) (l.length + 1) cap) (l.length + 1) xs
theorem own_setX {w : World} {base : Nat} {e : TypeId} {sz n cap g : Nat} {xs : List Value} (h : w.ownsRow base e sz (.slice (some ⟨g, 0, none⟩) n cap) n xs) (b j : Nat) (u : Value) : ∃ xs', (w.setCell ⟨b, j, none⟩ u).ownsRow base e sz (.slice (some ⟨g, 0, none⟩) n cap) n xs' := by
  by_cases hb : b = g
  · subst hb; exact ⟨_, (h.stored j u).1⟩
  · exact ⟨xs, own_far h (grownBy_setCell w ⟨b, j, none⟩ u) (fun x e => by simp at e; simp [Value.ownBlock]; omega)⟩
theorem GivX.set {w : World} {lo N : Nat} {v : Value} {bs : List (List Off)} (h : GivX w lo N v bs) {b j n cap : Nat} {xs : List Value} (hb : w.ownsRow lo 45 2 (.slice (some ⟨b, 0, none⟩) n cap) n xs) (u : Value) : GivX (w.setCell ⟨b, j, none⟩ u) lo N v bs := by
  obtain ⟨vs, hs, ho⟩ := h
  refine ⟨vs, own_far hs (grownBy_setCell w ⟨b, j, none⟩ u) (fun g e => ?_), fun k l hk => ?_⟩
  · simp at e
    subst e
    exact own_ne hb hs (by decide) rfl
  · obtain ⟨b', c, ys, h1, h2, h3, h4⟩ := ho k l hk
    obtain ⟨ys', h5⟩ := own_setX h4 b j u
    exact ⟨b', c, ys', h1, h2, h3, h5⟩

/-- lists in memory of their own, each with a mark behind -/
def LentB (w : World) (lo : Nat) (v : Value) (bs : List (List Off)) : Prop :=
  ∃ vs, w.ownsRow lo 41 1 v bs.length vs ∧ ∀ (k : Nat) (l : List Off), bs[k]? = some l → ∃ g c, vs[k]? = some (.slice (some ⟨g, 0, none⟩) l.length c) ∧ LentO w lo g c l
theorem LentB.nil (w : World) (lo : Nat) : LentB w lo (.slice none 0 0) [] := ⟨[], World.ownsRow_nil _ _ _ _, fun k l hk => by simp at hk⟩
theorem LentO.mono {w : World} {lo lo' g c : Nat} {l : List Off} (h : LentO w lo g c l) (hl : lo' ≤ lo) : LentO w lo' g c l := ⟨own_mono h.1 hl, h.2⟩
theorem LentO.far {w w' : World} {lo g c : Nat} {l : List Off} {row : Option Nat} (h : LentO w lo g c l) (hg : w.grownBy w' row) (hr : ∀ k, row = some k → k < lo) : LentO w' lo g c l := ⟨own_lo h.1 hg hr, h.2⟩
theorem LentB.grow {w w' : World} {lo : Nat} {v : Value} {bs : List (List Off)} (h : LentB w lo v bs) (hb : Below w.heap.size w w') : LentB w' lo v bs := by
  obtain ⟨vs, hs, ho⟩ := h
  exact ⟨vs, own_grow hs hb, fun k l hk => let ⟨b, c, h1, h2⟩ := ho k l hk; ⟨b, c, h1, h2.grow hb⟩⟩
theorem LentB.mono {w : World} {lo lo' : Nat} {v : Value} {bs : List (List Off)} (h : LentB w lo v bs) (hl : lo' ≤ lo) : LentB w lo' v bs := by
  obtain ⟨vs, hs, ho⟩ := h
  exact ⟨vs, own_mono hs hl, fun k l hk => let ⟨b, c, h1, h2⟩ := ho k l hk; ⟨b, c, h1, h2.mono hl⟩⟩
theorem LentB.far {w w' : World} {lo : Nat} {v : Value} {bs : List (List Off)} {row : Option Nat} (h : LentB w lo v bs) (hg : w.grownBy w' row) (hr : ∀ k, row = some k → k < lo) : LentB w' lo v bs := by
  obtain ⟨vs, hs, ho⟩ := h
  exact ⟨vs, own_lo hs hg hr, fun k l hk => let ⟨b, c, h1, h2⟩ := ho k l hk; ⟨b, c, h1, h2.far hg hr⟩⟩
/-- a store into one of the outer rows of another list keeps these -/
theorem LentB.row {w w' : World} {lo : Nat} {v : Value} {bs : List (List Off)} {row : Option Nat} (h : LentB w lo v bs) (hg : w.grownBy w' row) (h1 : ∀ g, row = some g → v.ownBlock ≠ some g) (h2 : ∀ g c l, LentO w lo g c l → row ≠ some g) : LentB w' lo v bs := by
  obtain ⟨vs, hs, ho⟩ := h
  exact ⟨vs, own_far hs hg h1, fun k l hk => let ⟨b, c, h3, h4⟩ := ho k l hk; ⟨b, c, h3, own_far h4.1 hg (fun g e e2 => by simp [Value.ownBlock] at e2; subst e2; exact h2 _ _ _ h4 e), h4.2⟩⟩
theorem LentB.buys {w : World} {lo : Nat} {v : Value} {bs : List (List Off)} (h : LentB w lo v bs) : Buys w (lo ≤ ·) v bs := by
  obtain ⟨vs, hs, ho⟩ := h
  exact ⟨vs, Sl.own_from hs, fun k l hk => let ⟨b, c, h1, h2⟩ := ho k l hk; ⟨_, h1, h2.offs⟩⟩
/-- One list more. -/
theorem LentB.snoc {w w' : World} {lo : Nat} {v : Value} {bs : List (List Off)} {vs : List Value} {l : List Off} {b cap : Nat} {A' : Option Addr} {cap' n : Nat} (hn : bs.length = n)
    (hs : w.ownsRow lo 41 1 v n vs)
    (ho : ∀ (k : Nat) (l : List Off), bs[k]? = some l → ∃ g c, vs[k]? = some (.slice (some ⟨g, 0, none⟩) l.length c) ∧ LentO w lo g c l)
    (hl : LentO w lo b cap l)
    (hown : w'.ownsRow lo 41 1 (.slice A' (n + 1) cap') (n + 1) (vs ++ [.slice (some ⟨b, 0, none⟩) l.length cap])) (hg : w.grownBy w' v.ownBlock) : LentB w' lo (.slice A' (n + 1) cap') (bs ++ [l]) := by
  subst hn
  have hlen : vs.length = bs.length := by simpa using hs.1
  have step : ∀ {g c : Nat} {l : List Off}, LentO w lo g c l → LentO w' lo g c l := fun h => ⟨own_far h.1 hg fun g e => own_ne hs h.1 (by decide) e, h.2⟩
  refine ⟨vs ++ [.slice (some ⟨b, 0, none⟩) l.length cap], by simpa using hown, fun k l' hk => ?_⟩
  by_cases hkl : k < bs.length
  · rw [List.getElem?_append_left hkl] at hk
    obtain ⟨b', c', h1, h2⟩ := ho k l' hk
    exact ⟨b', c', by rw [List.getElem?_append_left (by omega)]; exact h1, step h2⟩
  · have : k = bs.length := by
      rcases Nat.lt_or_ge k (bs ++ [l]).length with h | h
      · simp at h; omega
      · rw [List.getElem?_eq_none h] at hk; cases hk
    subst this
    simp at hk
    subst hk
    exact ⟨b, cap, by rw [← hlen]; simp, step hl⟩
theorem LentB.at_ {w : World} {lo n c : Nat} {A : Option Addr} {bs : List (List Off)} (h : LentB w lo (.slice A n c) bs) {k : Nat} {l : List Off} (hk : bs[k]? = some l) (hn : bs.length = n) :
    ∃ b o g cl, A = some ⟨b, o, none⟩ ∧ b < w.heap.size ∧ w.cell? ⟨b, o + k, none⟩ = some (.slice (some ⟨g, 0, none⟩) l.length cl) ∧ LentO w lo g cl l := by
  subst hn
  obtain ⟨vs, hs, ho⟩ := h
  have hkl : k < bs.length := (List.getElem?_eq_some_iff.1 hk).1
  obtain ⟨b, o, h1, h2, h3⟩ := own_at hs (by omega)
  obtain ⟨g, cl, h4, h5⟩ := ho k l hk
  exact ⟨b, o, g, cl, h1, h2, h3 k _ h4, h5⟩
theorem GivX.grow {w w' : World} {lo N : Nat} {v : Value} {bs : List (List Off)} (h : GivX w lo N v bs) (hb : Below w.heap.size w w') : GivX w' lo N v bs := by
  obtain ⟨vs, hs, ho⟩ := h
  exact ⟨vs, own_grow hs hb, fun k l hk => let ⟨b, c, ys, h1, h2, h3, h4⟩ := ho k l hk; ⟨b, c, ys, h1, h2, h3, own_grow h4 hb⟩⟩
theorem GivX.at_ {w : World} {lo N n c : Nat} {A : Option Addr} {bs : List (List Off)} (h : GivX w lo N (.slice A n c) bs) {k : Nat} {l : List Off} (hk : bs[k]? = some l) (hn : bs.length = n) :
    ∃ b o g cl ys, A = some ⟨b, o, none⟩ ∧ b < w.heap.size ∧ w.cell? ⟨b, o + k, none⟩ = some (.slice (some ⟨g, 0, none⟩) l.length cl) ∧ lo ≤ g ∧ g < N ∧ w.ownsRow lo 45 2 (.slice (some ⟨g, 0, none⟩) (l.length + 1) cl) (l.length + 1) ys := by
  subst hn
  obtain ⟨vs, hs, ho⟩ := h
  have hkl : k < bs.length := (List.getElem?_eq_some_iff.1 hk).1
  obtain ⟨b, o, h1, h2, h3⟩ := own_at hs (by omega)
  obtain ⟨g, cl, ys, h4, h5, h6, h7⟩ := ho k l hk
  exact ⟨b, o, g, cl, ys, h1, h2, h3 k _ h4, h5, h6, h7⟩

/-- behind the storing over: where all lies, what else is as it was -/
structure GvZ (la ha g c : Nat) (vb vs : Value) (tr : List Off) (bs ts : List (List Off)) (w W0 W : World) : Prop where
  ob : GivX W la ha vb bs
  ot : GivX W la ha vs ts
  tt : ∃ ys, W.ownsRow la 45 2 (.slice (some ⟨g, 0, none⟩) (tr.length + 1) c) (tr.length + 1) ys
  gh : g < ha
  old : KOut la ha W0 W
  bel : Below w.heap.size w W
theorem GvZ.set {la ha g c : Nat} {vb vs : Value} {tr : List Off} {bs ts : List (List Off)} {w W0 W : World} (h : GvZ la ha g c vb vs tr bs ts w W0 W) (hw : w.heap.size ≤ la) {b n cap : Nat} {xs : List Value} (hb : W.ownsRow la 45 2 (.slice (some ⟨b, 0, none⟩) n cap) n xs) (hlt : b < ha) (j : Nat) (u : Value) :
    GvZ la ha g c vb vs tr bs ts w W0 (W.setCell ⟨b, j, none⟩ u) := by
  obtain ⟨ys, hy⟩ := h.tt
  have hlb := (hb.lt b rfl).1
  exact ⟨h.ob.set hb u, h.ot.set hb u, own_setX hy b j u, h.gh, h.old.set (p := ⟨b, j, none⟩) hlb hlt u, h.bel.setCell (p := ⟨b, j, none⟩) (by simp; omega) u⟩
theorem GvZ.grow {la ha g c : Nat} {vb vs : Value} {tr : List Off} {bs ts : List (List Off)} {w W0 W W' : World} (h : GvZ la ha g c vb vs tr bs ts w W0 W) (hb : Below W.heap.size W W') : GvZ la ha g c vb vs tr bs ts w W0 W' := by
  obtain ⟨ys, hy⟩ := h.tt
  exact ⟨h.ob.grow hb, h.ot.grow hb, ⟨ys, own_grow hy hb⟩, h.gh, h.old.below hb, h.bel.trans (hb.mono h.bel.size)⟩

/-- more than 40 of anything -/
def big40 (l : List Off) : Bool := decide (40 < l.length)
def great29 (tr : List Off) (bs ts : List (List Off)) : Bool := (tr :: (bs ++ ts)).any big40 || decide (40 < bs.length) || decide (40 < ts.length)
theorem great29_no {tr : List Off} {bs ts : List (List Off)} (h : great29 tr bs ts = false) : tr.length ≤ 40 ∧ (∀ l ∈ bs, l.length ≤ 40) ∧ (∀ l ∈ ts, l.length ≤ 40) ∧ bs.length ≤ 40 ∧ ts.length ≤ 40 := by
  unfold great29 at h
  simp only [Bool.or_eq_false_iff, decide_eq_false_iff_not, List.any_eq_false] at h
  obtain ⟨⟨h1, h2⟩, h3⟩ := h
  have hb : ∀ l ∈ tr :: (bs ++ ts), l.length ≤ 40 := fun l hl => by have := h1 l hl; simp [big40] at this; omega
  exact ⟨hb tr (by simp), fun l hl => hb l (by simp [hl]), fun l hl => hb l (by simp [hl]), by omega, by omega⟩
end Go.Proofs.Ytcigobiolbojhaa.Vb

/- The reference of layer 8: Lower. -/
namespace Go.Proofs.Ytcigobiolbojhaa.Vb
open Go.RowKit

end Go.Proofs.Ytcigobiolbojhaa.Vb

/- Sets of goods as ints. -/
namespace Go.Proofs.Ytcigobiolbojhaa.Vb
open Go.RowKit

end Go.Proofs.Ytcigobiolbojhaa.Vb

/- The reference of layer 15: the table. -/
namespace Go.Proofs.Ytcigobiolbojhaa.Vb
open Go.RowKit

end Go.Proofs.Ytcigobiolbojhaa.Vb

/- The reference of layer 15: what may be asked; a part. -/
namespace Go.Proofs.Ytcigobiolbojhaa.Vb
open Go.RowKit

end Go.Proofs.Ytcigobiolbojhaa.Vb

/- The reference of layer 15: Part. -/
namespace Go.Proofs.Ytcigobiolbojhaa.Vb
open Go.RowKit

end Go.Proofs.Ytcigobiolbojhaa.Vb

/- The reference of layer 15: Best. -/
namespace Go.Proofs.Ytcigobiolbojhaa.Vb
open Go.RowKit

end Go.Proofs.Ytcigobiolbojhaa.Vb

/- The reference of layer 15: Without. -/
namespace Go.Proofs.Ytcigobiolbojhaa.Vb
open Go.RowKit

end Go.Proofs.Ytcigobiolbojhaa.Vb

/- The reference of layer 18: Bids. -/
namespace Go.Proofs.Ytcigobiolbojhaa.Vb
open Go.RowKit

def bools (l : List Bool) : List Value := l.map Value.bool
def winL (n : Int) (bs : List (List Off)) : List Bool := (List.range bs.length).map (winB (bestC n bs))
end Go.Proofs.Ytcigobiolbojhaa.Vb

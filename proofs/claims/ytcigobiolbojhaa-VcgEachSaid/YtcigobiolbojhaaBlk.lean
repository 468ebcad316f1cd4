/- A block known whole; the best choice: plain. -/
import Derived.Test.YtcigobiolbojhaaClear2
namespace Go.Proofs.Ytcigobiolbojhaa.Vb
open Go.RowKit

def Blk (w : World) (g : Nat) (t : TypeId) (cs : Array Value) : Prop := w.heap[g]? = some (.cells cs t (0, 0))
section
variable {w w' : World} {g : Nat} {t : TypeId} {cs : Array Value}
theorem Blk.lt (h : Blk w g t cs) : g < w.heap.size := by
  rcases Nat.lt_or_ge g w.heap.size with hlt | hge
  · exact hlt
  · unfold Blk at h; rw [Array.getElem?_eq_none hge] at h; cases h
theorem Blk.cell (h : Blk w g t cs) (i : Nat) : w.cell? ⟨g, i, none⟩ = cs[i]? := cell_of_row w g i cs t (0, 0) h
theorem Blk.frozen (h : Blk w g t cs) (i : Nat) : w.frozen? ⟨g, i, none⟩ = false := by
  unfold Blk at h
  simp [World.frozen?, h]
theorem Blk.new (w : World) (t : TypeId) (cs : Array Value) : Blk (w.alloc (.cells cs t)) w.heap.size t cs := heap_alloc_new w _
theorem Blk.drew (h : Blk w g t cs) : Blk w.drew g t cs := h
theorem Blk.drewN (h : Blk w g t cs) (n : Nat) : Blk (w.drewN n) g t cs := h
theorem Blk.alloc (h : Blk w g t cs) (o : Obj) : Blk (w.alloc o) g t cs := (Below.heap_alloc w o g h.lt).trans h
theorem Blk.set_ (h : Blk w g t cs) (i : Nat) (u : Value) : Blk (w.setCell ⟨g, i, none⟩ u) g t (cs.setIfInBounds i u) := by
  unfold Blk at h ⊢
  simp [World.setCell, Array.getElem?_modify, h]
theorem Blk.far (h : Blk w g t cs) {p : Addr} (hp : g ≠ p.block) (u : Value) : Blk (w.setCell p u) g t cs := (Below.heap_setCell w p u g hp).trans h
theorem Blk.below {B : Nat} (h : Blk w g t cs) (hb : Below B w w') (hg : g < B) : Blk w' g t cs := (hb.block g hg).trans h
theorem Blk.grow (h : Blk w g t cs) (hb : Below w.heap.size w w') : Blk w' g t cs := (hb.block g h.lt).trans h
theorem Blk.grown {row : Option Nat} (h : Blk w g t cs) (hb : w.grownBy w' row) (hg : some g ≠ row) : Blk w' g t cs := (hb.block g h.lt hg).trans h
end

theorem grownBy_far {a b c : World} {row row2 : Option Nat} (h : a.grownBy b row) (hg : b.grownBy c row2) (hr : ∀ g, row2 = some g → a.heap.size ≤ g) : a.grownBy c row :=
  ⟨hg.os.trans h.os, hg.tape.trans h.tape, hg.output.trans h.output, Nat.le_trans h.size hg.size, fun i hi hne => (hg.block i (Nat.lt_of_lt_of_le hi h.size) (fun e => by have := hr i e.symm; omega)).trans (h.block i hi hne)⟩
theorem BoardAt.far {w w' : World} {B bb m : Nat} {n : Int} {v : Value} {bs : List (List Off)} {row : Option Nat} (h : BoardAt w B bb m n v bs) (hg : w.grownBy w' row) (hr : ∀ g, row = some g → bb < g ∧ m < g) : BoardAt w' B bb m n v bs :=
  have hne : some bb ≠ row := fun e => by have := hr bb e.symm; omega
  ⟨hg.cell h.c0 hne, hg.cell h.c1 hne, hg.cell h.c2 hne, h.buys.grown hg (fun b _ hb e => by have := hr b e.symm; have := h.hB; omega), h.hB, h.map.grown hg (fun e => by have := hr m e.symm; omega), h.ok⟩

/-- the least offer's number with which the greatest worth can be had -/
def pickB (g : Nat → Int) (f : Nat) (left : Int) (o : Off) : Bool := decide (andNot o.g f = 0) && decide (o.c + g (andNot f o.g) = left)
def pickAt (g : Nat → Int) (f : Nat) (left : Int) : List Off → Option (Nat × Nat)
  | [] => none
  | o :: l => if pickB g f left o then some (0, o.g) else (pickAt g f left l).map fun p => (p.1 + 1, p.2)
/-- a buyer's number, and what is free behind it -/
def pickN (g : Nat → Int) (f : Nat) (left : Int) (l : List Off) : Int × Nat := match pickAt g f left l with | some (j, o) => ((j : Int), andNot f o) | none => (-1, f)
def choose : List (List Off) → Nat → List Int
  | [], _ => []
  | l :: bs, f => (pickN (W bs) f (W (l :: bs) f) l).1 :: choose bs (pickN (W bs) f (W (l :: bs) f) l).2

theorem choose_length : ∀ (bs : List (List Off)) (f : Nat), (choose bs f).length = bs.length
  | [], _ => rfl
  | l :: bs, f => by simp [choose, choose_length bs]
theorem choose_drop {bs : List (List Off)} {k : Nat} {l : List Off} (h : bs[k]? = some l) (f : Nat) :
    choose (bs.drop k) f = (pickN (W (bs.drop (k + 1))) f (W (bs.drop k) f) l).1 :: choose (bs.drop (k + 1)) (pickN (W (bs.drop (k + 1))) f (W (bs.drop k) f) l).2 := by
  have hlt : k < bs.length := (List.getElem?_eq_some_iff.1 h).1
  rw [List.drop_eq_getElem_cons hlt]
  have : bs[k] = l := by rw [List.getElem?_eq_getElem hlt] at h; injection h
  rw [this]
  rfl
theorem pickAt_none (g : Nat → Int) (f : Nat) (left : Int) : ∀ l : List Off, (∀ o ∈ l, pickB g f left o = false) → pickAt g f left l = none
  | [], _ => rfl
  | o :: l, h => by simp [pickAt, h o (by simp), pickAt_none g f left l (fun x hx => h x (by simp [hx]))]
theorem pickAt_some (g : Nat → Int) (f : Nat) (left : Int) : ∀ (l : List Off) (k : Nat) (o : Off), l[k]? = some o → pickB g f left o = true → (∀ j x, j < k → l[j]? = some x → pickB g f left x = false) → pickAt g f left l = some (k, o.g)
  | [], k, o, h, _, _ => by simp at h
  | x :: l, 0, o, h, hb, _ => by simp at h; subst h; simp [pickAt, hb]
  | x :: l, k + 1, o, h, hb, hn => by
    have h0 := hn 0 x (by omega) rfl
    have := pickAt_some g f left l k o (by simpa using h) hb (fun j y hj hy => hn (j + 1) y (by omega) (by simpa using hy))
    simp [pickAt, h0, this]
theorem pickN_none {g : Nat → Int} {f : Nat} {left : Int} {l : List Off} (h : ∀ j x, j < l.length → l[j]? = some x → pickB g f left x = false) : pickN g f left l = (-1, f) := by
  unfold pickN
  rw [pickAt_none g f left l (fun o ho => ?_)]
  obtain ⟨j, hj, rfl⟩ := List.getElem_of_mem ho
  exact h j _ hj (List.getElem?_eq_getElem hj)
theorem pickN_some {g : Nat → Int} {f : Nat} {left : Int} {l : List Off} {k : Nat} {o : Off} (h1 : l[k]? = some o) (h2 : pickB g f left o = true) (h3 : ∀ j x, j < k → l[j]? = some x → pickB g f left x = false) :
    pickN g f left l = ((k : Int), andNot f o.g) := by
  unfold pickN
  rw [pickAt_some g f left l k o h1 h2 h3]
end Go.Proofs.Ytcigobiolbojhaa.Vb

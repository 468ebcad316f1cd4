/- Stats: sales in memory; the sums of their coins. -/
import Derived.Test.YtidejikolcgojaaGreatStZ
import Derived.Test.YtidejikolcgojaaGreatRegn
namespace Go.Proofs.YtidejikolcgojaaGreat.St
open Go.RowKit Go.Shelf Go.Maps
open Go.Proofs.YtidejikolcgojaaGreat.Vb Go.Proofs.YtidejikolcgojaaGreat.Ac
attribute [local go_sem] Oper.semAt_some

structure Sale where
  number : Int
  lot : Int
  bidder : Int
  coins : Int
  goods : Int
  count : Int
  tick : Int
deriving DecidableEq
structure Sale.Ok (s : Sale) : Prop where
  lot : int64b s.lot
  bidder : int64b s.bidder
  coins : int64b s.coins
  tick : int64b s.tick
def scell (s : Sale) : List Value := [.int .i64 s.number, .int .i64 s.lot, .int .i64 s.bidder, .int .i64 s.coins, .int .u32 s.goods, .int .i64 s.count, .int .i64 s.tick]
def scells (l : List Sale) : List Value := l.flatMap scell
theorem scells_at : ∀ (l : List Sale) (k : Nat) (s : Sale) (i : Nat), i < 7 → l[k]? = some s → (scells l)[k * 7 + i]? = (scell s)[i]?
  | [], _, _, _, _, h => by simp at h
  | x :: l, 0, s, i, hi, h => by
    obtain rfl : x = s := by simpa using h
    show (scell x ++ scells l)[0 * 7 + i]? = _
    rw [List.getElem?_append_left (by simp [scell]; omega)]
    congr 1; omega
  | x :: l, k + 1, s, i, hi, h => by
    show (scell x ++ scells l)[(k + 1) * 7 + i]? = _
    rw [List.getElem?_append_right (by simp [scell]; omega), show (k + 1) * 7 + i - (scell x).length = k * 7 + i by simp [scell]; omega]
    exact scells_at l k s i hi (by simpa using h)
theorem scells_length : ∀ l : List Sale, (scells l).length = l.length * 7
  | [] => rfl
  | x :: l => by
    show (scell x ++ scells l).length = _
    rw [List.length_append, scells_length l]; simp [scell]; omega
/-- the slice v reads as the sales l -/
def Sals (w : World) (R : Nat → Prop) (v : Value) (l : List Sale) : Prop := Sl w R v l.length 7 (scells l) ∧ ∀ s ∈ l, s.Ok
section
variable {w w' : World} {R R' : Nat → Prop} {v : Value} {l : List Sale}
theorem Sals.grow (h : Sals w R v l) (hb : Below w.heap.size w w') : Sals w' R v l := ⟨h.1.grow hb, h.2⟩
theorem Sals.alloc (h : Sals w R v l) (o : Obj) : Sals (w.alloc o) R v l := ⟨h.1.alloc o, h.2⟩
theorem Sals.mono (h : Sals w R v l) (hR : ∀ b, b < w.heap.size → R b → R' b) : Sals w R' v l := ⟨h.1.mono hR, h.2⟩
theorem Sals.form (h : Sals w R v l) : ∃ A cap, v = .slice A l.length cap ∧ l.length ≤ cap ∧ cap ≤ maxLen := by
  obtain ⟨⟨_, A, cap, hv, h1, h2, _⟩, _⟩ := h
  exact ⟨A, cap, hv, h1, h2⟩
theorem Sals.at_ {A : Option Addr} {n c k : Nat} {s : Sale} (h : Sals w R (.slice A n c) l) (hk : l[k]? = some s) :
    ∃ b off, A = some ⟨b, off, none⟩ ∧ R b ∧ b < w.heap.size ∧ ∀ i u, (scell s)[i]? = some u → w.cell? ⟨b, off + k * 7 + i, none⟩ = some u := by
  obtain ⟨⟨_, A', c', hv, _, _, hcs⟩, _⟩ := h
  injection hv with hA _ _
  subst hA
  have hlt := (List.getElem?_eq_some_iff.1 hk).1
  obtain ⟨b, off, hA, hR, hlt2, hcc⟩ := hcs (by omega)
  refine ⟨b, off, hA, hR, hlt2, fun i u hu => ?_⟩
  rw [show off + k * 7 + i = off + (k * 7 + i) by omega]
  have hi : i < 7 := by
    have := (List.getElem?_eq_some_iff.1 hu).1
    simpa [scell] using this
  exact hcc _ _ ((scells_at l k s i hi hk).trans hu)
end
abbrev saleV (s : Sale) : Value := .agg #[.int .i64 s.number, .int .i64 s.lot, .int .i64 s.bidder, .int .i64 s.coins, .int .u32 s.goods, .int .i64 s.count, .int .i64 s.tick]

theorem nBidder_any (s : Sale) (W : World) : Calls Tryz.prog 71 #[saleV s] W fun e W' => e = .returned (.int .i64 s.bidder) ∧ Below W.heap.size W W' := by
  go_enter Tryz.func71, Tryz.ntmps71
  go_wp2
  go_ret
  exact ⟨rfl, (Below.refl _ _).alloc (Nat.le_refl _) _⟩
theorem nLot_any (s : Sale) (W : World) : Calls Tryz.prog 72 #[saleV s] W fun e W' => e = .returned (.int .i64 s.lot) ∧ Below W.heap.size W W' := by
  go_enter Tryz.func72, Tryz.ntmps72
  go_wp2
  go_ret
  exact ⟨rfl, (Below.refl _ _).alloc (Nat.le_refl _) _⟩

def addS (f : Sale → Int) (M : HM) (s : Sale) : HM := putM M (f s) (IntKind.i64.wrap (atM M (f s) + s.coins))
/-- the sums of coins by a number -/
def sumsM (f : Sale → Int) (l : List Sale) : HM := l.foldl (addS f) []
theorem sumsM_snoc {f : Sale → Int} {l : List Sale} {k : Nat} {s : Sale} (h : l[k]? = some s) : sumsM f (l.take (k + 1)) = addS f (sumsM f (l.take k)) s := by
  unfold sumsM
  rw [List.take_add_one, h]
  simp [List.foldl_append]
theorem insM_length (x : Int × Int) (M : HM) : (insM x M).length = M.length + 1 := by simpa using (insM_perm x M).length_eq
theorem putM_length (M : HM) (k v : Int) : (putM M k v).length ≤ M.length + 1 := by
  unfold putM
  rw [insM_length]
  have := List.length_filter_le (fun p : Int × Int => p.1 != k) M
  unfold delM
  omega
theorem putM_mem {M : HM} {k v : Int} {p : Int × Int} (h : p ∈ putM M k v) : p = (k, v) ∨ p ∈ M := by
  unfold putM at h
  rcases List.mem_cons.1 ((insM_perm (k, v) _).mem_iff.1 h) with h | h
  · exact .inl h
  · exact .inr (List.mem_filter.1 h).1
theorem sumsM_all (f : Sale → Int) (l : List Sale) (hf : ∀ s ∈ l, int64b (f s)) : Rising (sumsM f l) ∧ (sumsM f l).length ≤ l.length ∧ ∀ p ∈ sumsM f l, int64b p.1 ∧ int64b p.2 := by
  have key : ∀ (l : List Sale) (M : HM), (∀ s ∈ l, int64b (f s)) → Rising M → (∀ p ∈ M, int64b p.1 ∧ int64b p.2) → Rising (l.foldl (addS f) M) ∧ (l.foldl (addS f) M).length ≤ M.length + l.length ∧ ∀ p ∈ l.foldl (addS f) M, int64b p.1 ∧ int64b p.2 := by
    intro l
    induction l with
    | nil => intro M _ h1 h2; exact ⟨h1, by simp, h2⟩
    | cons s l ih =>
      intro M hf h1 h2
      obtain ⟨i1, i2, i3⟩ := ih (addS f M s) (fun x hx => hf x (by simp [hx])) (rising_put _ _ h1) (fun p hp => by
        rcases putM_mem hp with rfl | hp
        · exact ⟨hf s (by simp), wrap_in _⟩
        · exact h2 p hp)
      refine ⟨i1, ?_, i3⟩
      have : (addS f M s).length ≤ M.length + 1 := putM_length _ _ _
      simp only [List.foldl_cons, List.length_cons]
      omega
  obtain ⟨h1, h2, h3⟩ := key l [] hf List.Pairwise.nil (fun p hp => by cases hp)
  refine ⟨h1, ?_, h3⟩
  simp only [List.length_nil, Nat.zero_add] at h2
  exact h2
end Go.Proofs.YtidejikolcgojaaGreat.St

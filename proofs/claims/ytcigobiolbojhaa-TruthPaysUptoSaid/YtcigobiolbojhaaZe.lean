/- Joined by program: Given Stays All17 Asks CostsW PlainH. -/
import Derived.Test.YtcigobiolbojhaaZd
import Derived.Test.YtcigobiolbojhaaZa
/- Law 17's own: given. -/
namespace Go.Proofs.Ytcigobiolbojhaa.Vb
open Go.RowKit

end Go.Proofs.Ytcigobiolbojhaa.Vb

/- Law 17's own: stays. -/
namespace Go.Proofs.Ytcigobiolbojhaa.Vb
open Go.RowKit

end Go.Proofs.Ytcigobiolbojhaa.Vb

/- Law 17: what is asked, whether the instance may be or not. -/
namespace Go.Proofs.Ytcigobiolbojhaa.Vb
open Go.RowKit

theorem checkE_bd (n : Int) (l : List Off) : 0 ≤ checkE n l ∧ checkE n l ≤ 1000 := by
  unfold checkE
  repeat' split
  all_goals omega
theorem instLoop_bd (n : Int) : ∀ bs : List (List Off), 0 ≤ instLoop n bs ∧ instLoop n bs ≤ 1000 := by
  intro bs
  induction bs with
  | nil => simp [instLoop]
  | cons l bs ih =>
    have := checkE_bd n l
    unfold instLoop
    repeat' split
    all_goals omega
theorem instE_bd (n : Int) (bs : List (List Off)) : 0 ≤ instE n bs ∧ instE n bs ≤ 1000 := by
  have := instLoop_bd n bs
  unfold instE
  repeat' split
  all_goals omega
def gainsL (n : Int) (bs : List (List Off)) : List Int := if instE n bs = 0 then gainsC n bs else []
def pivotL (n : Int) (bs : List (List Off)) : List Int := if instE n bs = 0 then pivotC n bs else []
def choiceL (n : Int) (bs : List (List Off)) : List Int := if instE n bs = 0 then bestC n bs else []
def paysL (n : Int) (bs : List (List Off)) : List Int := if instE n bs = 0 then paysC n bs else []
def worthL (n : Int) (bs : List (List Off)) : Int := if instE n bs = 0 then W bs (allOf n) else 0
theorem bestC_len (n : Int) (bs : List (List Off)) : (bestC n bs).length = bs.length := choose_length _ _
section
variable (n : Int) (bs : List (List Off)) (v : Value) (R : Nat → Prop) (w : World)
def AskPost (w : World) (t : TypeId) (l : List Int) (er : Int) (e : Ending) (w' : World) : Prop :=
  ∃ A' cap', e = .returned (.tuple #[.slice A' l.length cap', .int .i64 er]) ∧ w'.ownsRow w.heap.size t 1 (.slice A' l.length cap') l.length (ints l) ∧ Below w.heap.size w w'
def CostsPost (n : Int) (bs : List (List Off)) (w : World) (e : Ending) (w' : World) : Prop :=
  ∃ A1 c1 A2 c2, e = .returned (.tuple #[.agg #[.slice A1 (choiceL n bs).length c1, .int .i64 (worthL n bs), .slice A2 (choiceL n bs).length c2], .int .i64 (instE n bs)]) ∧
    w'.ownsRow w.heap.size 3 1 (.slice A1 (choiceL n bs).length c1) (choiceL n bs).length (ints (choiceL n bs)) ∧
    w'.ownsRow w.heap.size 2 1 (.slice A2 (choiceL n bs).length c2) (choiceL n bs).length (ints (paysL n bs)) ∧ Below w.heap.size w w'
end

end Go.Proofs.Ytcigobiolbojhaa.Vb

/- Law 17: VcgAsks, walked. -/
namespace Go.Proofs.Ytcigobiolbojhaa.Vb
open Go.RowKit

theorem Sl.any {w : World} {R : Nat → Prop} {v : Value} {n sz : Nat} {xs : List Value} (h : Sl w R v n sz xs) : Sl w (fun _ => True) v n sz xs := h.mono fun _ _ _ => trivial
theorem Sl.int_at {w : World} {R : Nat → Prop} {A : Option Addr} {n c k : Nat} {l : List Int} (h : Sl w R (.slice A n c) n 1 (ints l)) (hk : k < n) :
    ∃ b off x, A = some ⟨b, off, none⟩ ∧ b < w.heap.size ∧ l[k]? = some x ∧ w.cell? ⟨b, off + k, none⟩ = some (.int .i64 x) := by
  obtain ⟨hl, A', c', hv, _, _, hc⟩ := h
  injection hv with hA _ _
  subst hA
  obtain ⟨b, off, hA, _, hlt, hcs⟩ := hc (by omega)
  have hl' : k < l.length := by simp [ints] at hl; omega
  exact ⟨b, off, l[k], hA, hlt, List.getElem?_eq_getElem hl', hcs k _ (by simp [ints, hl'])⟩
end Go.Proofs.Ytcigobiolbojhaa.Vb

/- Law 17: VcgCosts, walked. -/
namespace Go.Proofs.Ytcigobiolbojhaa.Vb
open Go.RowKit

theorem coinAt_bd {n : Int} {bs : List (List Off)} (hw : ∀ l ∈ bs, ∀ o ∈ l, o.wf) (h : instE n bs = 0) (i : Nat) (c : Int) : 0 ≤ coinAt bs i c ∧ coinAt bs i c ≤ 1099511627776 := by
  have hok := (okb_of hw h).1
  unfold coinAt
  split
  · omega
  · cases hb : bs[i]? with
    | none => simp
    | some l =>
      cases hl : l[c.toNat]? with
      | none => simp [hl]
      | some o =>
        have := hok.offer hb hl
        simp only [Option.getD_some, hl, Option.map_some]
        exact ⟨by have := this.2.2.1; omega, this.2.2.2⟩
/-- only blocks from a up to b have turned -/
def Mid (a b : Nat) (w w' : World) : Prop := Below a w w' ∧ ∀ i, b ≤ i → i < w.heap.size → w'.heap[i]? = w.heap[i]?
theorem Mid.refl (a b : Nat) (w : World) : Mid a b w w := ⟨Below.refl _ _, fun _ _ _ => rfl⟩
theorem Mid.set {a b : Nat} {w w' : World} (h : Mid a b w w') {p : Addr} (h1 : a ≤ p.block) (h2 : p.block < b) (u : Value) : Mid a b w (w'.setCell p u) :=
  ⟨h.1.setCell h1 u, fun i hi hl => (Below.heap_setCell w' p u i (by omega)).trans (h.2 i hi hl)⟩
theorem Mid.sl {a b : Nat} {w w' : World} {R : Nat → Prop} {v : Value} {n sz : Nat} {xs : List Value} (h : Mid a b w w') (hs : Sl w R v n sz xs) (hR : ∀ i, i < w.heap.size → R i → b ≤ i) : Sl w' R v n sz xs :=
  hs.keep h.1.size fun i hi hr => h.2 i (hR i hi hr) hi
theorem Mid.blk {a b : Nat} {w w' : World} {g : Nat} {t : TypeId} {cs : Array Value} (h : Mid a b w w') (hs : Blk w g t cs) (hg : b ≤ g) : Blk w' g t cs := (h.2 g hg hs.lt).trans hs
/-- a row from a base on -/
theorem Sl.own_from {w : World} {base : Nat} {e : TypeId} {sz n : Nat} {v : Value} {xs : List Value} (h : w.ownsRow base e sz v n xs) : Sl w (fun b => base ≤ b) v n sz xs :=
  (Sl.of_own h).mono fun b _ hb => (h.lt b hb).1

end Go.Proofs.Ytcigobiolbojhaa.Vb

/- Plain: what a winner costs the others; with more offered for what it wins a buyer wins that, and pays the same. -/
namespace Go.Proofs.Ytcigobiolbojhaa.Vb

def SubG (a b : Nat) : Prop := ∀ i, a.testBit i = true → b.testBit i = true
theorem compl_bit {b : Nat} (hb : b < 4294967296) (i : Nat) : (4294967295 - b).testBit i = (decide (i < 32) && !b.testBit i) := by
  have e : 4294967295 - b = 2 ^ 32 - (b + 1) := by omega
  rw [e, Nat.testBit_two_pow_sub_succ (by simpa using hb)]
theorem andNot_bit {a b : Nat} (hb : b < 4294967296) (i : Nat) : (andNot a b).testBit i = (a.testBit i && (decide (i < 32) && !b.testBit i)) := by
  unfold andNot
  rw [Nat.testBit_and, compl_bit hb]
theorem bit_lt {a i : Nat} (ha : a < 4294967296) (h : a.testBit i = true) : i < 32 := by
  rcases Nat.lt_or_ge i 32 with h1 | h1
  · exact h1
  · have : a.testBit i = false := Nat.testBit_lt_two_pow (Nat.lt_of_lt_of_le ha (by
      have : 2 ^ 32 ≤ 2 ^ i := Nat.pow_le_pow_right (by omega) h1
      simpa using this))
    rw [this] at h
    cases h
theorem andNot_sub {a b : Nat} (hb : b < 4294967296) : SubG (andNot a b) a := fun i h => by
  rw [andNot_bit hb] at h
  simp at h
  exact h.1
theorem andNot_zero_iff {a b : Nat} (ha : a < 4294967296) (hb : b < 4294967296) : andNot a b = 0 ↔ SubG a b := by
  constructor
  · intro h i hi
    have := andNot_bit (a := a) hb i
    rw [h, hi] at this
    simpa [bit_lt ha hi] using this.symm
  · intro h
    apply Nat.eq_of_testBit_eq
    intro i
    rw [andNot_bit hb]
    cases hi : a.testBit i with
    | false => simp
    | true => simp [h i hi]
theorem SubG.trans {a b c : Nat} (h : SubG a b) (k : SubG b c) : SubG a c := fun i hi => k i (h i hi)
theorem SubG.andNot {a b c : Nat} (hc : c < 4294967296) (h : SubG a b) : SubG (Vb.andNot a c) (Vb.andNot b c) := fun i hi => by
  rw [andNot_bit hc] at hi ⊢
  simp at hi ⊢
  exact ⟨h i hi.1, hi.2⟩
theorem andNot_lt {a b : Nat} (ha : a < 4294967296) : Vb.andNot a b < 4294967296 := Nat.lt_of_le_of_lt (andNot_le a b) ha

/-- every offer's set is a set of goods -/
def GoodL (bs : List (List Off)) : Prop := ∀ l ∈ bs, ∀ o ∈ l, o.g < 4294967296

theorem fold_mono2 {g g' : Nat → Int} {f f' : Nat} (hstep : ∀ (o : Off) (b b' : Int), o.g < 4294967296 → b ≤ b' → stepO g f b o ≤ stepO g' f' b' o) : ∀ (l : List Off) {b b' : Int}, (∀ o ∈ l, o.g < 4294967296) → b ≤ b' → l.foldl (stepO g f) b ≤ l.foldl (stepO g' f') b'
  | [], _, _, _, h => h
  | o :: l, _, _, hl, h => fold_mono2 hstep l (fun x hx => hl x (by simp [hx])) (hstep o _ _ (hl o (by simp)) h)
/-- fewer goods, less worth -/
theorem W_free : ∀ (bs : List (List Off)) (f f' : Nat), GoodL bs → f < 4294967296 → f' < 4294967296 → SubG f f' → W bs f ≤ W bs f'
  | [], _, _, _, _, _, _ => Int.le_refl _
  | l :: bs, f, f', hg, hf, hf', hs => by
    have hg' : GoodL bs := fun x hx => hg x (by simp [hx])
    refine fold_mono2 (fun o b b' ho hb => ?_) l (hg l (by simp)) (W_free bs f f' hg' hf hf' hs)
    unfold stepO
    by_cases h1 : andNot o.g f = 0
    · have h2 : andNot o.g f' = 0 := (andNot_zero_iff ho hf').2 (((andNot_zero_iff ho hf).1 h1).trans hs)
      rw [if_pos h1, if_pos h2]
      have := W_free bs (andNot f o.g) (andNot f' o.g) hg' (andNot_lt hf) (andNot_lt hf') (hs.andNot ho)
      omega
    · rw [if_neg h1]
      split <;> omega

theorem pickAt_get' {g : Nat → Int} {f : Nat} {left : Int} : ∀ {l : List Off} {j x : Nat}, pickAt g f left l = some (j, x) → ∃ o, l[j]? = some o ∧ o.g = x ∧ andNot o.g f = 0 ∧ o.c + g (andNot f o.g) = left ∧ ∀ i y, i < j → l[i]? = some y → pickB g f left y = false
  | o :: l, j, x, h => by
    simp only [pickAt] at h
    split at h
    · rename_i hb
      simp only [Option.some.injEq, Prod.mk.injEq] at h
      obtain ⟨rfl, rfl⟩ := h
      simp only [pickB, Bool.and_eq_true, decide_eq_true_eq] at hb
      exact ⟨o, rfl, rfl, hb.1, hb.2, fun i y hi => by omega⟩
    · rename_i hb
      cases hp : pickAt g f left l with
      | none => rw [hp] at h; cases h
      | some p =>
        rw [hp] at h
        simp only [Option.map_some, Option.some.injEq, Prod.mk.injEq] at h
        obtain ⟨rfl, rfl⟩ := h
        obtain ⟨o', h1, h2, h3, h4, h5⟩ := pickAt_get' (j := p.1) (x := p.2) hp
        refine ⟨o', by simpa using h1, h2, h3, h4, fun i y hi hy => ?_⟩
        cases i with
        | zero => simp at hy; subst hy; simpa using hb
        | succ i => exact h5 i y (by omega) (by simpa using hy)
/-- what the others have without a winner is at least all less what it offers -/
theorem W_win : ∀ (bs : List (List Off)) (k f j : Nat) (l : List Off) (o : Off), GoodL bs → f < 4294967296 → (choose bs f)[k]? = some (j : Int) → bs[k]? = some l → l[j]? = some o → W bs f ≤ W (bs.set k []) f + o.c
  | [], k, f, j, l, o, _, _, h, _, _ => by simp [choose] at h
  | l0 :: bs, 0, f, j, l, o, hg, hf, h, hl, ho => by
    simp only [List.getElem?_cons_zero, Option.some.injEq] at hl
    subst hl
    simp only [choose, List.getElem?_cons_zero, Option.some.injEq] at h
    unfold pickN at h
    cases hp : pickAt (W bs) f (W (l0 :: bs) f) l0 with
    | none => rw [hp] at h; simp only at h; omega
    | some p =>
      rw [hp] at h
      simp only at h
      obtain ⟨o', h1, h2, h3, h4, _⟩ := pickAt_get' (j := p.1) (x := p.2) hp
      have hj : p.1 = j := by omega
      rw [hj, ho] at h1
      have h1' := Option.some.inj h1
      subst h1'
      have hg' : GoodL bs := fun x hx => hg x (by simp [hx])
      have hog := hg l0 (by simp) o (List.mem_of_getElem? ho)
      have := W_free bs (andNot f o.g) f hg' (andNot_lt hf) hf (andNot_sub hog)
      simp only [List.set_cons_zero]
      show W (l0 :: bs) f ≤ W bs f + o.c
      omega
  | l0 :: bs, k + 1, f, j, l, o, hg, hf, h, hl, ho => by
    have hg' : GoodL bs := fun x hx => hg x (by simp [hx])
    simp only [choose, List.getElem?_cons_succ] at h hl
    simp only [List.set_cons_succ]
    unfold pickN at h
    cases hp : pickAt (W bs) f (W (l0 :: bs) f) l0 with
    | none =>
      rw [hp] at h
      have ih := W_win bs k f j l o hg' hf h hl ho
      rw [pick_none_W hp]
      have := fold_ge (W (bs.set k [])) f l0 (W (bs.set k []) f)
      show W bs f ≤ W (l0 :: bs.set k []) f + o.c
      simp only [W]
      omega
    | some p =>
      obtain ⟨j0, x⟩ := p
      rw [hp] at h
      obtain ⟨o0, ho0, rfl, hf0, he0⟩ := pickAt_att hp
      have ih := W_win bs k (andNot f o0.g) j l o hg' (andNot_lt hf) h hl ho
      have := fold_mem (g := W (bs.set k [])) (f := f) l0 (W (bs.set k []) f) o0 ho0 hf0
      show W (l0 :: bs) f ≤ W (l0 :: bs.set k []) f + o.c
      simp only [W] at he0 ⊢
      omega

/-- a list in which one offer is raised -/
def raiseL (l : List Off) (n : Nat) (more : Int) : List Off := l.modify n fun o => ⟨o.g, o.c + more⟩
def raiseB (bs : List (List Off)) (b n : Nat) (more : Int) : List (List Off) := bs.modify b fun l => raiseL l n more
end Go.Proofs.Ytcigobiolbojhaa.Vb

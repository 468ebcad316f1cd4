/- Law 17: what is asked, whether the instance may be or not. -/
import Derived.Test.YtcigobiolbojhaaGiven
import Derived.Test.YtcigobiolbojhaaStays
namespace Go.Proofs.Ytcigobiolbojhaa.Vb
open Go.RowKit

theorem checkE_bd (n : Int) (l : List Off) : 0 ≤ checkE n l ∧ checkE n l ≤ 1000 := by
  unfold checkE
  repeat' split
  all_goals omega
theorem instLoop_bd (n : Int) : ∀ bs : List (List Off), 0 ≤ instLoop n bs ∧ instLoop n bs ≤ 1000 := by
  intro bs
  induction bs with
  | nil => simp [instLoop]
  | cons l bs ih =>
    have := checkE_bd n l
    unfold instLoop
    repeat' split
    all_goals omega
theorem instE_bd (n : Int) (bs : List (List Off)) : 0 ≤ instE n bs ∧ instE n bs ≤ 1000 := by
  have := instLoop_bd n bs
  unfold instE
  repeat' split
  all_goals omega
theorem withE_bd (n : Int) (bs : List (List Off)) (i : Int) (l : List Off) : 0 ≤ withE n bs i l ∧ withE n bs i l ≤ 1000 := by
  have := instE_bd n bs
  have := checkE_bd n l
  unfold withE
  repeat' split
  all_goals omega

def gainsL (n : Int) (bs : List (List Off)) : List Int := if instE n bs = 0 then gainsC n bs else []
def pivotL (n : Int) (bs : List (List Off)) : List Int := if instE n bs = 0 then pivotC n bs else []
def choiceL (n : Int) (bs : List (List Off)) : List Int := if instE n bs = 0 then bestC n bs else []
def paysL (n : Int) (bs : List (List Off)) : List Int := if instE n bs = 0 then paysC n bs else []
def worthL (n : Int) (bs : List (List Off)) : Int := if instE n bs = 0 then W bs (allOf n) else 0
theorem bestC_len (n : Int) (bs : List (List Off)) : (bestC n bs).length = bs.length := choose_length _ _
theorem gainsC_len (n : Int) (bs : List (List Off)) : (gainsC n bs).length = bs.length := by simp [gainsC]

section
variable (n : Int) (bs : List (List Off)) (v : Value) (R : Nat → Prop) (w : World)
def AskPost (w : World) (t : TypeId) (l : List Int) (er : Int) (e : Ending) (w' : World) : Prop :=
  ∃ A' cap', e = .returned (.tuple #[.slice A' l.length cap', .int .i64 er]) ∧ w'.ownsRow w.heap.size t 1 (.slice A' l.length cap') l.length (ints l) ∧ Below w.heap.size w w'
theorem ask_nil {w w' : World} {t : TypeId} {l : List Int} {er er' : Int} {e : Ending} (h : l = []) (he : er = er') (h1 : e = .returned (.tuple #[.slice none 0 0, .int .i64 er'])) (h2 : Below w.heap.size w w') : AskPost w t l er e w' := by
  subst h he
  exact ⟨none, 0, h1, World.ownsRow_nil _ _ _ _, h2⟩
theorem ask_some {w w' : World} {t : TypeId} {l l' : List Int} {m : Nat} {er : Int} {e : Ending} (h : l = l') (hm : l'.length = m) (he : er = 0)
    (h1 : ∃ A' cap', e = .returned (.tuple #[.slice A' m cap', .int .i64 0]) ∧ w'.ownsRow w.heap.size t 1 (.slice A' m cap') m (ints l') ∧ Below w.heap.size w w') : AskPost w t l er e w' := by
  subst h he hm
  exact h1
theorem gains_all (hl : Buys w R v bs) : Calls Try.prog 26 #[.agg #[.int .i64 n, v]] w (AskPost w 2 (gainsL n bs) (instE n bs)) := by
  by_cases hi : instE n bs = 0
  · exact (gains_ok n bs v R w hl hi).mono fun e w' h => ask_some (if_pos hi) (gainsC_len n bs) hi h
  · exact (gains_err n bs v R w hl hi).mono fun e w' h => ask_nil (if_neg hi) rfl h.1 h.2
theorem refGains_all (hl : Buys w R v bs) : Calls Try.prog 27 #[.agg #[.int .i64 n, v]] w (AskPost w 2 (gainsL n bs) (instE n bs)) := by
  by_cases hi : instE n bs = 0
  · exact (refGains_ok n bs v R w hl hi).mono fun e w' h => ask_some (if_pos hi) (gainsC_len n bs) hi h
  · exact (refGains_err n bs v R w hl hi).mono fun e w' h => ask_nil (if_neg hi) rfl h.1 h.2
theorem pivotal_all (hl : Buys w R v bs) : Calls Try.prog 28 #[.agg #[.int .i64 n, v]] w (AskPost w 3 (pivotL n bs) (instE n bs)) := by
  by_cases hi : instE n bs = 0
  · exact (pivotal_ok n bs v R w hl hi).mono fun e w' h => ask_some (if_pos hi) rfl hi h
  · exact (pivotal_err n bs v R w hl hi).mono fun e w' h => ask_nil (if_neg hi) rfl h.1 h.2
theorem refPivotal_all (hl : Buys w R v bs) : Calls Try.prog 29 #[.agg #[.int .i64 n, v]] w (AskPost w 3 (pivotL n bs) (instE n bs)) := by
  by_cases hi : instE n bs = 0
  · exact (refPivotal_ok n bs v R w hl hi).mono fun e w' h => ask_some (if_pos hi) rfl hi h
  · exact (refPivotal_err n bs v R w hl hi).mono fun e w' h => ask_nil (if_neg hi) rfl h.1 h.2

def CostsPost (n : Int) (bs : List (List Off)) (w : World) (e : Ending) (w' : World) : Prop :=
  ∃ A1 c1 A2 c2, e = .returned (.tuple #[.agg #[.slice A1 (choiceL n bs).length c1, .int .i64 (worthL n bs), .slice A2 (choiceL n bs).length c2], .int .i64 (instE n bs)]) ∧
    w'.ownsRow w.heap.size 3 1 (.slice A1 (choiceL n bs).length c1) (choiceL n bs).length (ints (choiceL n bs)) ∧
    w'.ownsRow w.heap.size 2 1 (.slice A2 (choiceL n bs).length c2) (choiceL n bs).length (ints (paysL n bs)) ∧ Below w.heap.size w w'
theorem costs_all (hl : Buys w R v bs) : Calls Try.prog 21 #[.agg #[.int .i64 n, v]] w (CostsPost n bs w) := by
  by_cases hi : instE n bs = 0
  · refine (costs_ok n bs v R w hl hi).mono fun e w' ⟨A1, c1, A2, c2, h1, h2, h3, h4⟩ => ?_
    have hc : choiceL n bs = bestC n bs := if_pos hi
    have hp : paysL n bs = paysC n bs := if_pos hi
    have hw : worthL n bs = W bs (allOf n) := if_pos hi
    unfold CostsPost
    rw [hc, hp, hw, hi, bestC_len]
    exact ⟨A1, c1, A2, c2, h1, h2, h3, h4⟩
  · refine (costs_err n bs v R w hl hi).mono fun e w' ⟨h1, h4⟩ => ?_
    have hc : choiceL n bs = [] := if_neg hi
    have hp : paysL n bs = [] := if_neg hi
    have hw : worthL n bs = 0 := if_neg hi
    unfold CostsPost
    rw [hc, hp, hw]
    exact ⟨none, 0, none, 0, h1, World.ownsRow_nil _ _ _ _, World.ownsRow_nil _ _ _ _, h4⟩
theorem refCosts_all (hl : Buys w R v bs) : Calls Try.prog 17 #[.agg #[.int .i64 n, v]] w (CostsPost n bs w) := by
  by_cases hi : instE n bs = 0
  · refine (refCosts_ok n bs v R w hl hi).mono fun e w' ⟨A1, c1, A2, c2, h1, h2, h3, h4⟩ => ?_
    have hc : choiceL n bs = bestC n bs := if_pos hi
    have hp : paysL n bs = paysC n bs := if_pos hi
    have hw : worthL n bs = W bs (allOf n) := if_pos hi
    unfold CostsPost
    rw [hc, hp, hw, hi, bestC_len]
    exact ⟨A1, c1, A2, c2, h1, h2, h3, h4⟩
  · refine (refCosts_err n bs v R w hl hi).mono fun e w' ⟨h1, h4⟩ => ?_
    have hc : choiceL n bs = [] := if_neg hi
    have hp : paysL n bs = [] := if_neg hi
    have hw : worthL n bs = 0 := if_neg hi
    unfold CostsPost
    rw [hc, hp, hw]
    exact ⟨none, 0, none, 0, h1, World.ownsRow_nil _ _ _ _, World.ownsRow_nil _ _ _ _, h4⟩
end

theorem greatB_small {bs : List (List Off)} (h : greatB bs = false) : bs.length ≤ 40 ∧ ∀ l ∈ bs, l.length ≤ 40 := by
  unfold greatB at h
  simp only [Bool.or_eq_false_iff, decide_eq_false_iff_not, List.any_eq_false, decide_eq_true_eq] at h
  exact ⟨by omega, fun l hl => by have := h.1 l hl; omega⟩
end Go.Proofs.Ytcigobiolbojhaa.Vb

/- Joined by program: PlainG RefSteps RefPay Lent LentW Kept K18a K18b K18c Asks18a. -/
import Derived.Test.YtcigobiolbojhaaZj
import Derived.Test.YtcigobiolbojhaaZh
import Derived.Test.YtcigobiolbojhaaZd
import Derived.Test.YtcigobiolbojhaaZi
/- CoreStands: the steps, one behind the other. -/
namespace Go.Proofs.Ytcigobiolbojhaa.Vb
open Go.RowKit

def atOf (pre : List (Int × List Int)) : Int := match pre.getLast? with | some x => x.1 | none => -1
def lastOf (pre : List (Int × List Int)) : Int := match pre.getLast? with | some x => sumI x.2 | none => -1
theorem atOf_snoc (pre : List (Int × List Int)) (x : Int × List Int) : atOf (pre ++ [x]) = x.1 := by simp [atOf]
theorem lastOf_snoc (pre : List (Int × List Int)) (x : Int × List Int) : lastOf (pre ++ [x]) = sumI x.2 := by simp [lastOf]

section
variable {n : Int} {bs : List (List Off)}
def zipTo (n : Int) (bs : List (List Off)) (k : Nat) : List (Int × List Int) := (whoTo (bestC n bs) k).zip (rowsTo n bs k)
theorem zipTo_yes {k : Nat} (h : winB (bestC n bs) k = true) : zipTo n bs (k + 1) = zipTo n bs k ++ [((k : Int), payTo n bs (k + 1))] := by
  unfold zipTo
  have hr : rowsTo n bs (k + 1) = rowsTo n bs k ++ [payTo n bs (k + 1)] := by simp [rowsTo, h]
  rw [whoTo_yes h, hr, List.zip_append (by rw [rowsTo_len])]
  rfl
theorem zipTo_no {k : Nat} (h : winB (bestC n bs) k = false) : zipTo n bs (k + 1) = zipTo n bs k := by
  unfold zipTo
  have hr : rowsTo n bs (k + 1) = rowsTo n bs k := by simp [rowsTo, h]
  rw [whoTo_no h, hr]
theorem payTo_no {k : Nat} (h : winB (bestC n bs) k = false) : payTo n bs (k + 1) = payTo n bs k := by
  show payStep n bs (payTo n bs k) k = _
  unfold payStep
  rw [if_neg (by rw [h]; simp)]

theorem sumI_nonneg {l : List Int} (h : ∀ x ∈ l, 0 ≤ x) : 0 ≤ sumI l := by
  induction l with
  | nil => simp [sumI]
  | cons a l ih =>
    have h1 := h a (by simp)
    have h2 := ih (fun x hx => h x (by simp [hx]))
    simp only [sumI]
    omega
theorem pay_sum_nonneg (hi : instE n bs = 0) (hwf : ∀ l ∈ bs, ∀ o ∈ l, o.wf) {p : List Int} (hok : payL p (bidsC n bs) = true) : 0 ≤ sumI p := sumI_nonneg fun x hx => (pay_bd hi hwf hok x hx).1

/-- what holds behind k buyers -/
theorem zip_inv (hi : instE n bs = 0) (hwf : ∀ l ∈ bs, ∀ o ∈ l, o.wf) : ∀ k, k ≤ bs.length →
    (atOf (zipTo n bs k) < k ∧ ((zipTo n bs k = [] ∧ payTo n bs k = bidsC n bs ∧ ∀ j, j < k → winB (bestC n bs) j = false) ∨ (zipTo n bs k ≠ [] ∧ lastOf (zipTo n bs k) = sumI (payTo n bs k)))) ∧
    ∀ pre x, pre ++ [x] <+: zipTo n bs k → FreeP n bs x.2 ∧ atOf pre < x.1 ∧ 0 ≤ x.1 ∧ x.1 < (bs.length : Int) ∧ (pre ≠ [] → sumI x.2 ≤ lastOf pre)
  | 0, _ => ⟨⟨by show (-1 : Int) < 0; decide, .inl ⟨rfl, rfl, fun j h => by omega⟩⟩, fun pre x h => by
      have := h.length_le
      simp [zipTo, whoTo] at this⟩
  | k + 1, hk => by
    obtain ⟨⟨h1, h2⟩, h3⟩ := zip_inv hi hwf k (by omega)
    cases hw : winB (bestC n bs) k with
    | false =>
      rw [zipTo_no hw, payTo_no hw]
      refine ⟨⟨by omega, ?_⟩, h3⟩
      rcases h2 with ⟨a, b, c⟩ | h2
      · refine .inl ⟨a, b, fun j hj => ?_⟩
        by_cases hjk : j = k
        · subst hjk; exact hw
        · exact c j (by omega)
      · exact .inr h2
    | true =>
      rw [zipTo_yes hw]
      have hs := sum_step hi hwf (show k < bs.length by omega)
      refine ⟨⟨by rw [atOf_snoc]; simp only; omega, .inr ⟨by simp, by rw [lastOf_snoc]⟩⟩, fun pre x h => ?_⟩
      rw [List.prefix_concat_iff] at h
      rcases h with h | h
      · have h4 := List.append_inj' h rfl
        obtain rfl := List.singleton_inj.1 h4.2
        obtain rfl := h4.1
        refine ⟨free_to hi hwf (k + 1) hk, h1, by simp only; omega, by simp only; omega, fun hne => ?_⟩
        rcases h2 with ⟨a, _⟩ | ⟨_, h2⟩
        · exact absurd a hne
        · rw [h2]; exact hs
      · exact h3 pre x h
theorem zip_all (hi : instE n bs = 0) : (whoL n bs).zip (rowsL n bs) = zipTo n bs bs.length := by
  unfold whoL rowsL zipTo
  rw [if_pos hi, if_pos hi]
/-- at the end -/
theorem zip_end (hi : instE n bs = 0) (hwf : ∀ l ∈ bs, ∀ o ∈ l, o.wf) : (zipTo n bs bs.length = [] ∧ sumI (payTo n bs bs.length) = 0) ∨ (zipTo n bs bs.length ≠ [] ∧ lastOf (zipTo n bs bs.length) = sumI (payTo n bs bs.length) ∧ 0 ≤ sumI (payTo n bs bs.length)) := by
  have hf := free_to hi hwf bs.length (Nat.le_refl _)
  rcases (zip_inv hi hwf bs.length (Nat.le_refl _)).1.2 with ⟨a, b, c⟩ | ⟨a, b⟩
  · refine .inl ⟨a, ?_⟩
    rw [b]
    have h0 : ∀ x ∈ bidsC n bs, x = 0 := by
      intro x hx
      obtain ⟨i, hi', rfl⟩ := List.getElem_of_mem hx
      have : i < bs.length := by rwa [bidsC_length] at hi'
      exact lose_bid (c i this) (List.getElem?_eq_getElem hi')
    generalize bidsC n bs = l at h0
    clear hf a b c
    induction l with
    | nil => rfl
    | cons x l ih =>
      simp only [sumI]
      rw [h0 x (by simp), ih (fun y hy => h0 y (by simp [hy]))]
      rfl
  · exact .inr ⟨a, b, pay_sum_nonneg hi hwf hf.1⟩
end
end Go.Proofs.Ytcigobiolbojhaa.Vb

/- The reference of layer 18: Steps. -/
namespace Go.Proofs.Ytcigobiolbojhaa.Vb
open Go.RowKit

theorem et_step : ElemT Try.prog 75 83 2 32 := elemT_of Try.underlying75 (by omega) (z := .agg #[.int .i64 0, .slice none 0 0]) (by kernel_rfl) rfl
def stepCells : List (Int × List Int) → List Value → List Value
  | z :: zs, u :: vs => .int .i64 z.1 :: u :: stepCells zs vs
  | _, _ => []
theorem stepCells_len : ∀ {zs : List (Int × List Int)} {vs : List Value}, vs.length = zs.length → (stepCells zs vs).length = zs.length * 2
  | [], [], _ => rfl
  | z :: zs, u :: vs, h => by
    have := stepCells_len (zs := zs) (vs := vs) (by simpa using h)
    simp only [stepCells, List.length_cons, this]
    omega
theorem stepCells_snoc : ∀ {zs : List (Int × List Int)} {vs : List Value} (z : Int × List Int) (u : Value), vs.length = zs.length → stepCells (zs ++ [z]) (vs ++ [u]) = stepCells zs vs ++ [.int .i64 z.1, u]
  | [], [], z, u, _ => rfl
  | z0 :: zs, u0 :: vs, z, u, h => by
    have := stepCells_snoc (zs := zs) (vs := vs) z u (by simpa using h)
    simp only [stepCells, List.cons_append, this]
theorem stepCells_at : ∀ {zs : List (Int × List Int)} {vs : List Value} {j : Nat} {z : Int × List Int} {u : Value}, zs[j]? = some z → vs[j]? = some u → (stepCells zs vs)[j * 2]? = some (.int .i64 z.1) ∧ (stepCells zs vs)[j * 2 + 1]? = some u
  | [], _, j, z, u, h, _ => by simp at h
  | _ :: _, [], j, z, u, _, h => by simp at h
  | z0 :: zs, u0 :: vs, 0, z, u, h1, h2 => by
    simp at h1 h2
    subst h1 h2
    exact ⟨rfl, rfl⟩
  | z0 :: zs, u0 :: vs, j + 1, z, u, h1, h2 => by
    have := stepCells_at (zs := zs) (vs := vs) (j := j) (z := z) (u := u) (by simpa using h1) (by simpa using h2)
    rw [show (j + 1) * 2 = j * 2 + 1 + 1 from by omega]
    exact this

/-- steps in memory of their own -/
def StepsR (w : World) (lo : Nat) (sl : Value) (zs : List (Int × List Int)) : Prop :=
  ∃ vs : List Value, vs.length = zs.length ∧ w.ownsRow lo 83 2 sl zs.length (stepCells zs vs) ∧ ∀ (j : Nat) (z : Int × List Int), zs[j]? = some z → ∃ u, vs[j]? = some u ∧ Sl w (fun b => lo ≤ b ∧ sl.ownBlock ≠ some b) u z.2.length 1 (ints z.2)
theorem StepsR.grow {w w' : World} {lo : Nat} {sl : Value} {zs : List (Int × List Int)} (h : StepsR w lo sl zs) (hb : Below w.heap.size w w') : StepsR w' lo sl zs := by
  obtain ⟨vs, h1, h2, h3⟩ := h
  exact ⟨vs, h1, own_grow h2 hb, fun j z hj => let ⟨u, hu, hs⟩ := h3 j z hj; ⟨u, hu, hs.grow hb⟩⟩
/-- what is written lies above lo, in no row of the steps -/
theorem StepsR.keep {w w' : World} {lo hi : Nat} {sl : Value} {zs : List (Int × List Int)} (h : StepsR w lo sl zs) (hk : KeepR lo hi w w') (hh : hi = w.heap.size) : StepsR w' lo sl zs := by
  subst hh
  obtain ⟨vs, h1, h2, h3⟩ := h
  refine ⟨vs, h1, ?_, fun j z hj => ?_⟩
  · obtain ⟨a, b | ⟨g, cap, cur, hv, hgb, hcur, hrest⟩⟩ := h2
    · exact ⟨a, .inl b⟩
    · exact ⟨a, .inr ⟨g, cap, cur, hv, hgb, (hk.same g hgb (Array.getElem?_eq_some_iff.1 hcur).1).trans hcur, hrest⟩⟩
  · obtain ⟨u, hu, hs⟩ := h3 j z hj
    refine ⟨u, hu, ?_⟩
    have := (hk.sl (hs.mono fun b hlt hb => ⟨hb.1, hlt⟩) : Sl w' (fun b => lo ≤ b ∧ b < w.heap.size) u z.2.length 1 (ints z.2))
    exact (Sl.keep (R := fun b => lo ≤ b ∧ sl.ownBlock ≠ some b) hs hk.size fun b hlt hb => hk.same b hb.1 hlt)

theorem sl_app {w w' : World} {lo n sz : Nat} {v u : Value} {m : Nat} {xs : List Value} {A' : Option Addr} {cap' : Nat} (h : Sl w (fun b => lo ≤ b ∧ v.ownBlock ≠ some b) u n sz xs) (hg : w.grownBy w' v.ownBlock)
    (hloc : (Value.slice A' m cap').ownBlock = v.ownBlock ∨ (Value.slice A' m cap').ownBlock = some w.heap.size) : Sl w' (fun b => lo ≤ b ∧ (Value.slice A' m cap').ownBlock ≠ some b) u n sz xs := by
  refine (h.sized.grown hg fun b _ hb e => hb.1.2 e.symm).mono fun b _ hb => ⟨hb.1.1, fun e => ?_⟩
  rcases hloc with e' | e'
  · exact hb.1.2 (e'.symm.trans e)
  · rw [e'] at e
    injection e with e
    omega
theorem StepsR.snoc {w w' : World} {lo m : Nat} {v : Value} {zs : List (Int × List Int)} {vs : List Value} {z : Int × List Int} {u : Value} {A' : Option Addr} {cap' : Nat} (hm : zs.length = m) (hv : vs.length = zs.length)
    (ho : ∀ (j : Nat) (z : Int × List Int), zs[j]? = some z → ∃ u, vs[j]? = some u ∧ Sl w (fun b => lo ≤ b ∧ v.ownBlock ≠ some b) u z.2.length 1 (ints z.2))
    (hu : Sl w (fun b => lo ≤ b ∧ v.ownBlock ≠ some b) u z.2.length 1 (ints z.2))
    (hown : w'.ownsRow lo 83 2 (.slice A' (m + 1) cap') (m + 1) (stepCells zs vs ++ [.int .i64 z.1, u])) (hg : w.grownBy w' v.ownBlock)
    (hloc : (Value.slice A' (m + 1) cap').ownBlock = v.ownBlock ∨ (Value.slice A' (m + 1) cap').ownBlock = some w.heap.size) : StepsR w' lo (.slice A' (m + 1) cap') (zs ++ [z]) := by
  subst hm
  refine ⟨vs ++ [u], by simp [hv], by rw [stepCells_snoc z u hv]; simpa using hown, fun j z' hj => ?_⟩
  by_cases hlt : j < zs.length
  · rw [List.getElem?_append_left hlt] at hj
    obtain ⟨u', hu', hs'⟩ := ho j z' hj
    exact ⟨u', by rw [List.getElem?_append_left (by omega)]; exact hu', sl_app hs' hg hloc⟩
  · have : j = zs.length := by
      rcases Nat.lt_or_ge j (zs ++ [z]).length with h | h
      · simp at h; omega
      · rw [List.getElem?_eq_none h] at hj; cases hj
    subst this
    simp at hj
    subst hj
    exact ⟨u, by rw [← hv]; simp, sl_app hu hg hloc⟩

set_option maxHeartbeats 800000 in
theorem refSteps_err (n : Int) (bs : List (List Off)) (v : Value) (R : Nat → Prop) (w : World) (hl : Buys w R v bs) (hi : instE n bs ≠ 0) :
    Calls Try.prog 41 #[.agg #[.int .i64 n, v]] w fun e w' => e = .returned (.slice none 0 0) ∧ Below w.heap.size w w' := by
  obtain ⟨_, ⟨_, A, cap, rfl, _⟩, _⟩ := id hl
  have HB := Lib.hid hl
  have HI := Lib.hid hi
  have hne : (instE n bs != 0) = true := by simpa using hi
  clear hl hi
  go_enter Try.func41, Try.ntmps41
  go_wp2_with fail
  refine (refBids_err n bs _ R _ (HB.out.alloc _) HI.out).mono ?_
  rintro e w1 ⟨rfl, hb1⟩
  have HB1 := Lib.hid (one_blk' hb1).2.2
  clear hb1
  go_wp2_with fail
  go_ret
  exact ⟨rfl, HB1.out⟩

set_option maxRecDepth 100000 in
set_option maxHeartbeats 3200000 in
theorem refSteps_ok (n : Int) (bs : List (List Off)) (v : Value) (R : Nat → Prop) (w : World) (hl : Buys w R v bs) (hi : instE n bs = 0) :
    Calls Try.prog 41 #[.agg #[.int .i64 n, v]] w fun e w' => ∃ A' c', e = .returned (.slice A' (zipTo n bs bs.length).length c') ∧ StepsR w' w.heap.size (.slice A' (zipTo n bs bs.length).length c') (zipTo n bs bs.length) ∧ Below w.heap.size w w' := by
  obtain ⟨_, ⟨_, A, cap, rfl, _⟩, _⟩ := id hl
  have HB := Lib.hid hl
  have HI := Lib.hid hi
  have HWF := Lib.hid (Buys.wf hl)
  have hl32 := (instE_zero hi).2.2.1
  clear hl hi
  go_enter Try.func41, Try.ntmps41
  go_wp2_with fail
  refine (refBids_ok n bs _ R _ (HB.out.alloc _) HI.out).mono ?_
  rintro e w1 ⟨A1, c1, A2, c2, rfl, hown1, hown2, hb1⟩
  obtain ⟨hX, hs1, hbw⟩ := one_blk' hb1
  have HX := Lib.hid hX
  have HBI := Lib.hid (Sl.of_own hown1).any
  have HWI := Lib.hid (Sl.of_own hown2).any
  have HBW := Lib.hid hbw
  clear hX hbw hown1 hown2 hb1
  go_wp2_with (at_builtin; refine wpList_app _ rfl (.const (.slice none 0 0)) (.tmp 18) et_i64 rfl w1.heap.size (.slice none 0 0) 0 [] rfl (World.ownsRow_nil _ _ _ _) _ _ bs.length (ints (bidsC n bs)) rfl HBI.out (by simp [ints, Value.oneCell']) (by omega) (by unfold maxLen; omega) (Nat.le_refl _) ?_; intro A3 c3 w3 hown3 hg3 _; rw [Nat.zero_add] at hown3 ⊢; rw [List.nil_append] at hown3; have HOW3 := Lib.hid hown3; have HG3 := Lib.hid ((Below.refl w1.heap.size w1).grown hg3 (Nat.le_refl _) (fun r e => by cases e)); clear hown3 hg3)
  go_loopw [6, 7, 8] (fun s1 s2 i wr => ∃ (k : Nat) (Ao : Option Addr) (co : Nat) (Ap : Option Addr) (cp : Nat), k ≤ bs.length ∧ i = .int .i64 k ∧ s1 = .slice Ao (zipTo n bs k).length co ∧ s2 = .slice Ap bs.length cp ∧
      StepsR wr w1.heap.size (.slice Ao (zipTo n bs k).length co) (zipTo n bs k) ∧ Sl wr (fun b => w1.heap.size ≤ b ∧ (Value.slice Ao (zipTo n bs k).length co).ownBlock ≠ some b) (.slice Ap bs.length cp) bs.length 1 (ints (payTo n bs k)) ∧ Below w1.heap.size w1 wr) (fun _ _ i _ => bs.length - (intOf i).toNat)
  case atStart =>
    refine ⟨0, none, 0, A3, c3, Nat.zero_le _, rfl, rfl, rfl, ⟨[], rfl, World.ownsRow_nil _ _ _ _, fun j z hj => by simp [zipTo, whoTo] at hj⟩, ?_, HG3.out⟩
    exact (Sl.own_from HOW3.out).mono fun b _ hb => ⟨hb, by simp [Value.ownBlock]⟩
  case round =>
    obtain ⟨k, Ao, co, Ap, cp, hk, rfl, rfl, rfl, hst, hpy, hb⟩ := hrel
    have hbw := HBW.out.trans (hb.mono (B' := w.heap.size) (by omega))
    have hsz := hb.size
    have hXr := HX.out.below hb (by omega)
    have x0 : wr.cell? ⟨w.heap.size, 0, none⟩ = some (.int .i64 n) := hXr.cell 0
    have x1 : wr.cell? ⟨w.heap.size, 1, none⟩ = some (.slice A bs.length cap) := hXr.cell 1
    have HXR := Lib.hid hXr
    have HST := Lib.hid hst
    have HPY := Lib.hid hpy
    have HBB := Lib.hid hb
    have HBWR := Lib.hid hbw
    clear hst hpy hXr
    by_cases hlt : k < bs.length
    · have hwg := winL_get (n := n) hlt
      obtain ⟨_, A2', c2', hv2, _, _, hcw⟩ := HWI.out
      injection hv2 with hv21 _ hv22
      subst hv21 hv22
      obtain ⟨gW, oW, rfl, _, hgW, hcw⟩ := hcw (by omega)
      have dW := (hb.cell hgW).trans (hcw k _ (show (bools (winL n bs))[k]? = some (.bool (winB (bestC n bs) k)) from by simp [bools, hwg]))
      have e1 : (0 : Int) ≤ (k : Int) := by omega
      have e2 : (k : Int) < (bs.length : Int) := by omega
      have hzl : (zipTo n bs k).length ≤ 40 := by unfold zipTo; rw [List.length_zip, rowsTo_len, Nat.min_self]; exact Nat.le_trans (whoTo_len _ _) (by omega)
      clear hcw hwg hb hbw
      cases hw : winB (bestC n bs) k with
      | false =>
        rw [hw] at dW
        have HZ := Lib.hid (zipTo_no hw)
        have HPN := Lib.hid (payTo_no hw)
        clear hw
        go_wp2_with fail
        go_roundw
        case rel => exact ⟨k + 1, Ao, co, Ap, cp, by omega, by go_num, by rw [HZ.out], rfl, by rw [HZ.out]; exact HST.out, by rw [HZ.out, HPN.out]; exact HPY.out, HBB.out⟩
        case measure => simp [intOf]; omega
      | true =>
        rw [hw] at dW
        have HZ := Lib.hid (zipTo_yes hw)
        have hpe : payTo n bs (k + 1) = (payTo n bs k).set k (leastI n bs (payTo n bs k) k) := by
          show payStep n bs (payTo n bs k) k = _
          unfold payStep
          rw [if_pos hw]
        have HPE := Lib.hid hpe
        have hpl := payTo_len HI.out HWF.out (k := k) (by omega)
        have hpok := (free_to HI.out HWF.out k (by omega)).1
        have HPL := Lib.hid hpl
        have HPO := Lib.hid hpok
        clear hw hpe hpl hpok
        go_wp2_with (at_builtin; refine wpList_app _ rfl (.const (.slice none 0 0)) (.tmp 31) et_i64 rfl wr.heap.size (.slice none 0 0) 0 [] rfl (World.ownsRow_nil _ _ _ _) _ _ bs.length (ints (payTo n bs k)) rfl HPY.out (by simp [ints, Value.oneCell']) (by omega) (by unfold maxLen; omega) (Nat.le_refl _) ?_; intro A4 c4 w4 hown4 hg4 _; rw [Nat.zero_add] at hown4 ⊢; rw [List.nil_append] at hown4; have hg4' := (Below.refl wr.heap.size wr).grown hg4 (Nat.le_refl _) (fun r e => by cases e); have y0 : w4.cell? ⟨w.heap.size, 0, none⟩ = some (.int .i64 n) := (HXR.out.grow hg4').cell 0; have y1 : w4.cell? ⟨w.heap.size, 1, none⟩ = some (.slice A bs.length cap) := (HXR.out.grow hg4').cell 1; have HOW4 := Lib.hid hown4; have HG4 := Lib.hid hg4'; clear hown4 hg4 hg4')
        obtain ⟨g4, rfl, hg4a, hg4b, _, _, _⟩ := own_some HOW4.out (by omega)
        refine (refLeast18_any n bs _ _ (payTo n bs k) (.slice Ap bs.length cp) _ _ R k hlt w4 (HB.out.grow (HBWR.out.trans (HG4.out.mono (by omega)))) ((HBI.out.grow (HBB.out.mono (by omega))).grow HG4.out) (by rw [HPL.out]; exact HPY.out.grow HG4.out) HI.out HPO.out).mono ?_
        rintro e w5 ⟨rfl, hb5⟩
        obtain ⟨vs, hvl, hso, hsp⟩ := HST.out
        have hb45 := HG4.out.trans (hb5.mono HG4.out.size)
        have hown5 := own_grow HOW4.out hb5
        obtain ⟨g5, hg5, _, _, _, hfz, hce⟩ := own_some hown5 (by omega)
        obtain rfl : g4 = g5 := by simpa using hg5
        obtain ⟨u5, _, hc5⟩ := hce k hlt
        have hf5 := hfz k
        have hgo : ∀ g, (Value.slice Ao (zipTo n bs k).length co).ownBlock = some g → g ≠ g4 := fun g e => by have := (hso.lt g e).2; omega
        have hst5 := hown5.stored k (.int .i64 (leastI n bs (payTo n bs k) k))
        have hset : ints (payTo n bs (k + 1)) = (ints (payTo n bs k)).set k (.int .i64 (leastI n bs (payTo n bs k) k)) := by rw [HPE.out]; simp [ints]
        rw [← hset] at hst5
        obtain ⟨w6, hw6⟩ : ∃ V, V = (w5.setCell ⟨g4, k, none⟩ (.int .i64 (leastI n bs (payTo n bs k) k))).alloc (.cells #[.int .i64 (k : Int), .slice (some ⟨g4, 0, none⟩) bs.length c4] 83) := ⟨_, rfl⟩
        have hs56 : w6.heap.size = w5.heap.size + 1 := by rw [hw6]; simp [World.setCell]
        have hs45 := hb5.size
        have hs34 := HG4.out.size
        have hso6 : w6.ownsRow w1.heap.size 83 2 (.slice Ao (zipTo n bs k).length co) (zipTo n bs k).length (stepCells (zipTo n bs k) vs) := by
          rw [hw6]; exact own_alloc (own_far (own_grow hso hb45) (grownBy_setCell w5 ⟨g4, k, none⟩ _) (fun g e e2 => by simp at e; exact hgo g e2 e.symm)) _
        have hsp6 : ∀ (j : Nat) (z : Int × List Int), (zipTo n bs k)[j]? = some z → ∃ u, vs[j]? = some u ∧ Sl w6 (fun b => w1.heap.size ≤ b ∧ (Value.slice Ao (zipTo n bs k).length co).ownBlock ≠ some b) u z.2.length 1 (ints z.2) := fun j z hj => by
          obtain ⟨u, hu, hs⟩ := hsp j z hj
          refine ⟨u, hu, ?_⟩
          have h1 := (hs.grow hb45).sized
          rw [hw6]
          refine Sl.alloc ?_ _
          have h2 : Sl w5 (fun b => b < wr.heap.size ∧ w1.heap.size ≤ b ∧ (Value.slice Ao (zipTo n bs k).length co).ownBlock ≠ some b) u z.2.length 1 (ints z.2) := (hs.mono fun b hlt hb => ⟨hlt, hb.1, hb.2⟩).grow hb45
          exact (h2.set (p := ⟨g4, k, none⟩) (by simp; omega) _).mono fun b _ hb => hb.2
        have hn6 : Sl w6 (fun b => w1.heap.size ≤ b ∧ (Value.slice Ao (zipTo n bs k).length co).ownBlock ≠ some b) (.slice (some ⟨g4, 0, none⟩) bs.length c4) bs.length 1 (ints (payTo n bs (k + 1))) := by
          rw [hw6]
          refine ((Sl.of_own hst5.1).alloc _).mono fun b _ hb => ?_
          have : b = g4 := by simpa [Value.ownBlock] using hb.symm
          subst this
          exact ⟨by omega, fun e => hgo _ e rfl⟩
        have hB6 : Below w1.heap.size w1 w6 := by
          rw [hw6]
          exact ((HBB.out.trans (hb45.mono (by omega))).setCell (p := ⟨g4, k, none⟩) (by simp; omega) _).alloc (by simp [World.setCell]; omega) _
        have hv6 : Sl w6 (fun _ => True) (.slice (some ⟨w5.heap.size, 0, none⟩) 1 1) 1 2 [.int .i64 (k : Int), .slice (some ⟨g4, 0, none⟩) bs.length c4] := by
          rw [hw6]
          exact Sl.blk (sz := 2) (cs := #[.int .i64 (k : Int), .slice (some ⟨g4, 0, none⟩) bs.length c4]) (t := 83) (Blk.new' _ _ (by simp [World.setCell])) (Nat.le_refl 1) (by unfold maxLen; omega) rfl
        have hpl1 := payTo_len HI.out HWF.out (k := k + 1) (by omega)
        have HSO6 := Lib.hid hso6
        have HSP6 := Lib.hid hsp6
        have HN6 := Lib.hid hn6
        have HB6 := Lib.hid hB6
        have HV6 := Lib.hid hv6
        have HVL := Lib.hid hvl
        have HPL1 := Lib.hid hpl1
        clear hvl hso hsp hb45 hown5 hfz hce hgo hst5 hset hso6 hsp6 hn6 hB6 hv6 hpl1 hb5 y0 y1 hg5
        go_wp2_with (at_builtin; rw [← hw6]; refine wpList_app w6 rfl (.tmp 42) (.tmp 46) et_step rfl w1.heap.size (.slice Ao (zipTo n bs k).length co) (zipTo n bs k).length (stepCells (zipTo n bs k) vs) rfl HSO6.out (fun _ => True) (.slice (some ⟨w5.heap.size, 0, none⟩) 1 1) 1 [.int .i64 (k : Int), .slice (some ⟨g4, 0, none⟩) bs.length c4] rfl HV6.out (by simp [Value.oneCell']) (by omega) (by unfold maxLen; omega) (by omega) ?_; intro A7 c7 w7 hown7 hg7 hloc7; have HW7 := Lib.hid hown7; have HG7 := Lib.hid hg7; have HL7 := Lib.hid hloc7; clear hown7 hg7 hloc7)
        go_roundw
        case rel =>
          have hlen : (zipTo n bs (k + 1)).length = (zipTo n bs k).length + 1 := by rw [HZ.out]; simp
          refine ⟨k + 1, A7, c7, some ⟨g4, 0, none⟩, c4, by omega, by go_num, by rw [hlen], rfl, ?_, ?_, ?_⟩
          · rw [hlen, HZ.out]
            exact StepsR.snoc (z := ((k : Int), payTo n bs (k + 1))) (u := .slice (some ⟨g4, 0, none⟩) bs.length c4) rfl HVL.out HSP6.out (by rw [HPL1.out]; exact HN6.out) HW7.out HG7.out HL7.out
          · rw [hlen]
            exact sl_app HN6.out HG7.out HL7.out
          · exact HB6.out.grown HG7.out (by omega) (fun g e => (HSO6.out.lt g e).1)
        case measure => simp [intOf]; omega
    · obtain rfl : k = bs.length := by omega
      clear hb hbw
      go_wp2_with fail
      go_ret
      refine ⟨Ao, co, rfl, ?_, HBWR.out⟩
      obtain ⟨vs, h1, h2, h3⟩ := HST.out
      exact ⟨vs, h1, own_mono h2 (by omega), fun j z hj => let ⟨u, hu, hs⟩ := h3 j z hj; ⟨u, hu, hs.mono fun b _ hb => ⟨by omega, hb.2⟩⟩⟩
end Go.Proofs.Ytcigobiolbojhaa.Vb

/- The reference of layer 18: Pay. -/
namespace Go.Proofs.Ytcigobiolbojhaa.Vb
open Go.RowKit

theorem zip_last (n : Int) (bs : List (List Off)) : ∀ k, (zipTo n bs k = [] ∧ payTo n bs k = bidsC n bs) ∨ ∃ (m : Nat) (a : Int), (zipTo n bs k).length = m + 1 ∧ (zipTo n bs k)[m]? = some (a, payTo n bs k)
  | 0 => .inl ⟨rfl, rfl⟩
  | k + 1 => by
    cases hw : winB (bestC n bs) k with
    | false =>
      rw [zipTo_no hw, payTo_no hw]
      exact zip_last n bs k
    | true =>
      rw [zipTo_yes hw]
      exact .inr ⟨(zipTo n bs k).length, k, by simp, by simp⟩

set_option maxHeartbeats 800000 in
theorem refPay_err (n : Int) (bs : List (List Off)) (v : Value) (R : Nat → Prop) (w : World) (hl : Buys w R v bs) (hi : instE n bs ≠ 0) :
    Calls Try.prog 40 #[.agg #[.int .i64 n, v]] w fun e w' => e = .returned (.tuple #[.slice none 0 0, .int .i64 (instE n bs)]) ∧ Below w.heap.size w w' := by
  obtain ⟨_, ⟨_, A, cap, rfl, _⟩, _⟩ := id hl
  have HB := Lib.hid hl
  have HI := Lib.hid hi
  have hne : (instE n bs != 0) = true := by simpa using hi
  clear hl hi
  go_enter Try.func40, Try.ntmps40
  go_wp2_with fail
  refine (refBids_err n bs _ R _ (HB.out.alloc _) HI.out).mono ?_
  rintro e w1 ⟨rfl, hb1⟩
  have HB1 := Lib.hid (one_blk' hb1).2.2
  clear hb1
  go_wp2_with fail
  go_ret2
  exact ⟨rfl, HB1.out⟩

set_option maxRecDepth 100000 in
set_option maxHeartbeats 1600000 in
theorem refPay_ok (n : Int) (bs : List (List Off)) (v : Value) (R : Nat → Prop) (w : World) (hl : Buys w R v bs) (hi : instE n bs = 0) :
    Calls Try.prog 40 #[.agg #[.int .i64 n, v]] w fun e w' => ∃ A' c', e = .returned (.tuple #[.slice A' bs.length c', .int .i64 0]) ∧ Sl w' (w.heap.size ≤ ·) (.slice A' bs.length c') bs.length 1 (ints (payTo n bs bs.length)) ∧ Below w.heap.size w w' := by
  obtain ⟨_, ⟨_, A, cap, rfl, _⟩, _⟩ := id hl
  have HB := Lib.hid hl
  have HI := Lib.hid hi
  have hpl := payTo_len hi (Buys.wf hl) (Nat.le_refl bs.length)
  have HPL := Lib.hid hpl
  clear hl hi hpl
  go_enter Try.func40, Try.ntmps40
  go_wp2_with fail
  refine (refBids_ok n bs _ R _ (HB.out.alloc _) HI.out).mono ?_
  rintro e w1 ⟨A1, c1, A2, c2, rfl, hown1, _, hb1⟩
  obtain ⟨hX, hs1, hbw⟩ := one_blk' hb1
  have x0 : w1.cell? ⟨w.heap.size, 0, none⟩ = some (.int .i64 n) := hX.cell 0
  have x1 : w1.cell? ⟨w.heap.size, 1, none⟩ = some (.slice A bs.length cap) := hX.cell 1
  have HO1 := Lib.hid hown1
  have HBW := Lib.hid hbw
  clear hX hbw hown1 hb1
  go_wp2_with fail
  refine (refSteps_ok n bs _ R _ (HB.out.grow HBW.out) HI.out).mono ?_
  rintro e w2 ⟨A3, c3, rfl, hst, hb2⟩
  have hlast := zip_last n bs bs.length
  have HST := Lib.hid hst
  have HO2 := Lib.hid (own_grow HO1.out hb2)
  have HB2 := Lib.hid (HBW.out.trans (hb2.mono HBW.out.size))
  have hs2 := HBW.out.size
  clear hst hb2 x0 x1
  rcases hlast with ⟨hz, hp⟩ | ⟨m, a, hlen, hz⟩
  · have hz0 : (zipTo n bs bs.length).length = 0 := by rw [hz]; rfl
    rw [hz0]
    have HP := Lib.hid hp
    clear hz hz0 hp
    go_wp2_with fail
    go_ret2
    refine ⟨A1, c1, rfl, ?_, HB2.out⟩
    rw [HP.out]
    exact (Sl.own_from HO2.out).mono fun b _ hb => by simp at hb; omega
  · obtain ⟨vs, hvl, hso, hsp⟩ := HST.out
    obtain ⟨u, hu, hs⟩ := hsp m _ hz
    have hcl := (stepCells_at hz hu).2
    have hml : m < 9223372036854775806 := by
      have h1 : (zipTo n bs bs.length).length ≤ bs.length := by unfold zipTo; rw [List.length_zip, rowsTo_len, Nat.min_self]; exact whoTo_len _ _
      have h2 := (instE_zero HI.out).2.2.1
      omega
    obtain ⟨g, c', hv, hg1, hg2⟩ := World.ownsRow.form hso (by omega)
    injection hv with hv1 _ hv2
    subst hv1 hv2
    have hcell := hso.cellAt (m * 2 + 1) (by omega)
    rw [hcl] at hcell
    obtain ⟨_, Au, cu, rfl, _⟩ := id hs
    rw [hlen]
    rw [HPL.out] at hs hcell
    have HS := Lib.hid hs
    have e1 : (0 : Int) ≤ (m : Int) := by omega
    clear hz hlen hvl hso hsp hu hs hcl
    go_wp2_with fail
    go_ret2
    refine ⟨Au, cu, rfl, ?_, HB2.out⟩
    exact HS.out.mono fun b _ hb => by have := hb.1; omega
end Go.Proofs.Ytcigobiolbojhaa.Vb

/- Law 18's own: what lent makes. -/
namespace Go.Proofs.Ytcigobiolbojhaa.Vb
open Go.RowKit

/-- each list in memory of its own, with one offer of 4242 coins behind it -/
def GivM (w : World) (lo : Nat) (v : Value) (bs : List (List Off)) : Prop :=
  ∃ vs, w.ownsRow lo 41 1 v bs.length vs ∧ ∀ (k : Nat) (l : List Off), bs[k]? = some l → ∃ b cap, vs[k]? = some (.slice (some ⟨b, 0, none⟩) l.length cap) ∧
    w.ownsRow lo 45 2 (.slice (some ⟨b, 0, none⟩) (l.length + 1) cap) (l.length + 1) (Off.all (l ++ [⟨0, 4242⟩])) ∧ ∀ o ∈ l, o.wf
theorem GivM.grow {w w' : World} {lo : Nat} {v : Value} {bs : List (List Off)} (h : GivM w lo v bs) (hb : Below w.heap.size w w') : GivM w' lo v bs := by
  obtain ⟨vs, hs, ho⟩ := h
  exact ⟨vs, own_grow hs hb, fun k l hk => let ⟨b, c, h1, h2, h3⟩ := ho k l hk; ⟨b, c, h1, own_grow h2 hb, h3⟩⟩
theorem GivM.mono {w : World} {lo lo' : Nat} {v : Value} {bs : List (List Off)} (h : GivM w lo v bs) (hl : lo' ≤ lo) : GivM w lo' v bs := by
  obtain ⟨vs, hs, ho⟩ := h
  exact ⟨vs, own_mono hs hl, fun k l hk => let ⟨b, c, h1, h2, h3⟩ := ho k l hk; ⟨b, c, h1, own_mono h2 hl, h3⟩⟩
theorem GivM.far {w w' : World} {lo : Nat} {v : Value} {bs : List (List Off)} {row : Option Nat} (h : GivM w lo v bs) (hg : w.grownBy w' row) (hr : ∀ k, row = some k → k < lo) : GivM w' lo v bs := by
  obtain ⟨vs, hs, ho⟩ := h
  exact ⟨vs, own_lo hs hg hr, fun k l hk => let ⟨b, c, h1, h2, h3⟩ := ho k l hk; ⟨b, c, h1, own_lo h2 hg hr, h3⟩⟩
theorem GivM.buys {w : World} {lo : Nat} {v : Value} {bs : List (List Off)} (h : GivM w lo v bs) : Buys w (fun _ => True) v bs := by
  obtain ⟨vs, hs, ho⟩ := h
  refine ⟨vs, (Sl.of_own hs).mono fun _ _ _ => trivial, fun k l hk => ?_⟩
  obtain ⟨b, c, h1, h2, h3⟩ := ho k l hk
  obtain ⟨_, A, cap, hv, hnc, hcm, hcs⟩ := Sl.of_own h2
  injection hv with hA _ hc
  subst hA hc
  refine ⟨_, h1, ⟨by rw [Off.all_length], _, _, rfl, by omega, hcm, fun h0 => ?_⟩, h3⟩
  obtain ⟨b', off, e, _, hlt, hcell⟩ := hcs (by omega)
  refine ⟨b', off, e, trivial, hlt, fun j u hj => hcell j u ?_⟩
  have : Off.all (l ++ [⟨0, 4242⟩]) = Off.all l ++ Off.all [⟨0, 4242⟩] := by simp [Off.all]
  rw [this, List.getElem?_append_left (List.getElem?_eq_some_iff.1 hj).1]
  exact hj
/-- One list more. -/
theorem GivM.snoc {w w' : World} {lo : Nat} {v : Value} {bs : List (List Off)} {vs : List Value} {l : List Off} {b cap : Nat} {A' : Option Addr} {cap' n : Nat} (hn : bs.length = n)
    (hs : w.ownsRow lo 41 1 v n vs)
    (ho : ∀ (k : Nat) (l : List Off), bs[k]? = some l → ∃ b cap, vs[k]? = some (.slice (some ⟨b, 0, none⟩) l.length cap) ∧ w.ownsRow lo 45 2 (.slice (some ⟨b, 0, none⟩) (l.length + 1) cap) (l.length + 1) (Off.all (l ++ [⟨0, 4242⟩])) ∧ ∀ o ∈ l, o.wf)
    (hl : w.ownsRow lo 45 2 (.slice (some ⟨b, 0, none⟩) (l.length + 1) cap) (l.length + 1) (Off.all (l ++ [⟨0, 4242⟩]))) (hw : ∀ o ∈ l, o.wf)
    (hown : w'.ownsRow lo 41 1 (.slice A' (n + 1) cap') (n + 1) (vs ++ [.slice (some ⟨b, 0, none⟩) l.length cap])) (hg : w.grownBy w' v.ownBlock) : GivM w' lo (.slice A' (n + 1) cap') (bs ++ [l]) := by
  subst hn
  have hlen : vs.length = bs.length := by simpa using hs.1
  have step : ∀ {u : Value} {m : Nat} {xs : List Value}, w.ownsRow lo 45 2 u m xs → w'.ownsRow lo 45 2 u m xs := fun h => own_far h hg fun g e => own_ne hs h (by decide) e
  refine ⟨vs ++ [.slice (some ⟨b, 0, none⟩) l.length cap], by simpa using hown, fun k l' hk => ?_⟩
  by_cases hkl : k < bs.length
  · rw [List.getElem?_append_left hkl] at hk
    obtain ⟨b', c', h1, h2, h3⟩ := ho k l' hk
    exact ⟨b', c', by rw [List.getElem?_append_left (by omega)]; exact h1, step h2, h3⟩
  · have : k = bs.length := by
      rcases Nat.lt_or_ge k (bs ++ [l]).length with h | h
      · simp at h; omega
      · rw [List.getElem?_eq_none h] at hk; cases hk
    subst this
    simp at hk
    subst hk
    exact ⟨b, cap, by rw [← hlen]; simp, step hl, hw⟩

/-- .. and one list more behind all -/
def Lent (w : World) (lo : Nat) (v : Value) (bs : List (List Off)) : Prop :=
  ∃ (gb cap gs : Nat) (vs : List Value), v = .slice (some ⟨gb, 0, none⟩) bs.length cap ∧ w.ownsRow lo 41 1 (.slice (some ⟨gb, 0, none⟩) (bs.length + 1) cap) (bs.length + 1) (vs ++ [.slice (some ⟨gs, 0, none⟩) 1 1]) ∧ vs.length = bs.length ∧
    Blk w gs 45 #[.int .u32 0, .int .i64 4243] ∧ lo ≤ gs ∧ ∀ (k : Nat) (l : List Off), bs[k]? = some l → ∃ b cap, vs[k]? = some (.slice (some ⟨b, 0, none⟩) l.length cap) ∧
    w.ownsRow lo 45 2 (.slice (some ⟨b, 0, none⟩) (l.length + 1) cap) (l.length + 1) (Off.all (l ++ [⟨0, 4242⟩])) ∧ ∀ o ∈ l, o.wf
theorem Lent.grow {w w' : World} {lo : Nat} {v : Value} {bs : List (List Off)} (h : Lent w lo v bs) (hb : Below w.heap.size w w') : Lent w' lo v bs := by
  obtain ⟨gb, cap, gs, vs, h1, h2, h3, h4, h5, h6⟩ := h
  exact ⟨gb, cap, gs, vs, h1, own_grow h2 hb, h3, h4.grow hb, h5, fun k l hk => let ⟨b, c, a1, a2, a3⟩ := h6 k l hk; ⟨b, c, a1, own_grow a2 hb, a3⟩⟩
theorem Lent.buys {w : World} {lo : Nat} {v : Value} {bs : List (List Off)} (h : Lent w lo v bs) : Buys w (fun _ => True) v bs := by
  obtain ⟨gb, cap, gs, vs, rfl, h2, h3, _, _, h6⟩ := h
  refine ⟨vs, ?_, fun k l hk => ?_⟩
  · obtain ⟨_, A, c, hv, hnc, hcm, hcs⟩ := Sl.of_own h2
    injection hv with hA _ hc
    subst hA hc
    refine ⟨by simpa using h3, _, _, rfl, by omega, hcm, fun h0 => ?_⟩
    obtain ⟨b', off, e, _, hlt, hcell⟩ := hcs (by omega)
    refine ⟨b', off, e, trivial, hlt, fun j u hj => hcell j u ?_⟩
    rw [List.getElem?_append_left (List.getElem?_eq_some_iff.1 hj).1]
    exact hj
  · obtain ⟨b, c, h1, h2, h3⟩ := h6 k l hk
    obtain ⟨_, A, cap, hv, hnc, hcm, hcs⟩ := Sl.of_own h2
    injection hv with hA _ hc
    subst hA hc
    refine ⟨_, h1, ⟨by rw [Off.all_length], _, _, rfl, by omega, hcm, fun h0 => ?_⟩, h3⟩
    obtain ⟨b', off, e, _, hlt, hcell⟩ := hcs (by omega)
    refine ⟨b', off, e, trivial, hlt, fun j u hj => hcell j u ?_⟩
    have : Off.all (l ++ [⟨0, 4242⟩]) = Off.all l ++ Off.all [⟨0, 4242⟩] := by simp [Off.all]
    rw [this, List.getElem?_append_left (List.getElem?_eq_some_iff.1 hj).1]
    exact hj
end Go.Proofs.Ytcigobiolbojhaa.Vb

/- Law 18's own: lent. -/
namespace Go.Proofs.Ytcigobiolbojhaa.Vb
open Go.RowKit

set_option maxRecDepth 100000 in
set_option maxHeartbeats 3200000 in
theorem lent_any (n : Int) (bs : List (List Off)) (v : Value) (R : Nat → Prop) (w : World) (hl : Buys w R v bs) (hsm : Small bs) :
    Calls Try.prog 38 #[.agg #[.int .i64 n, v]] w fun e w' => ∃ v', e = .returned (.agg #[.int .i64 n, v']) ∧ Lent w' w.heap.size v' bs ∧ Below w.heap.size w w' := by
  obtain ⟨vs, ⟨hlen, A, cap, rfl, hncap, hcap, hcells⟩, hvs⟩ := id hl
  have hsm1 := hsm.1
  have HSM := Lib.hid hsm.2
  have HC := Lib.hid hcells
  have HV := Lib.hid hvs
  clear hl hcells hvs hlen hcap hsm
  go_enter Try.func38, Try.ntmps38
  go_wp2
  have hw0 : ∃ W0, W0 = ((w.alloc (.cells #[.int .i64 n, .slice A bs.length cap] 24)).alloc (.cells #[.int .i64 0, .slice none 0 0] 24)).alloc (.cells #[.int .i64 n, .slice none 0 0] 24) := ⟨_, rfl⟩
  obtain ⟨W0, hW0⟩ := hw0
  have HX := Lib.hid (show Blk W0 w.heap.size 24 #[.int .i64 n, .slice A bs.length cap] from by rw [hW0]; exact ((Blk.new w _ _).alloc _).alloc _)
  have HR := Lib.hid (show Blk W0 (w.heap.size + 1) 24 #[.int .i64 0, .slice none 0 0] from by rw [hW0]; exact (Blk.new' _ _ (by simp)).alloc _)
  have HY := Lib.hid (show Blk W0 (w.heap.size + 2) 24 #[.int .i64 n, .slice none 0 0] from by rw [hW0]; exact Blk.new' _ _ (by simp))
  have HBW := Lib.hid (show Below w.heap.size w W0 from by rw [hW0]; exact (((Below.refl _ _).alloc (Nat.le_refl _) _).alloc (by simp) _).alloc (by simp; omega) _)
  have hs0 : W0.heap.size = w.heap.size + 3 := by rw [hW0]; simp
  rw [← hW0]
  clear hW0
  go_loopw [4] (fun i wr => ∃ (k : Nat) (A' : Option Addr) (cap' : Nat), k ≤ bs.length ∧ i = .int .i64 k ∧ GivM wr (w.heap.size + 3) (.slice A' k cap') (bs.take k) ∧ Blk wr (w.heap.size + 2) 24 #[.int .i64 n, .slice A' k cap'] ∧ Below (w.heap.size + 2) W0 wr)
    (fun i _ => bs.length - (intOf i).toNat)
  case atStart => exact ⟨0, none, 0, Nat.zero_le _, rfl, ⟨[], World.ownsRow_nil _ _ _ _, fun k l hk => by simp at hk⟩, HY.out, Below.refl _ _⟩
  case round =>
    obtain ⟨k, A', cap', hk, rfl, hgv, hy, hb⟩ := hrel
    have hx := HX.out.below hb (by omega)
    have hbw := HBW.out.trans (hb.mono (by omega))
    have x1 : wr.cell? ⟨w.heap.size, 1, none⟩ = some (.slice A bs.length cap) := hx.cell 1
    have y1 : wr.cell? ⟨w.heap.size + 2, 1, none⟩ = some (.slice A' k cap') := hy.cell 1
    have y0 : wr.cell? ⟨w.heap.size + 2, 0, none⟩ = some (.int .i64 n) := hy.cell 0
    have hsz : w.heap.size + 3 ≤ wr.heap.size := by have := hy.lt; omega
    have HGV := Lib.hid hgv
    have HY2 := Lib.hid hy
    have HB2 := Lib.hid hb
    have HBW2 := Lib.hid hbw
    by_cases hlt : k < bs.length
    · obtain ⟨bq, off, rfl, _, hbq, hcs⟩ := HC.out (by omega)
      obtain ⟨l, ho⟩ : ∃ l, bs[k]? = some l := ⟨_, List.getElem?_eq_getElem hlt⟩
      obtain ⟨u, hu, hol⟩ := HV.out k l ho
      have c0 : wr.cell? ⟨bq, off + k, none⟩ = some u := by have h := (hbw.cell hbq).trans (hcs _ _ hu); simpa using h
      have hbqr : bq < w.heap.size := hbq
      have HOL := Lib.hid (hol.grow hbw)
      have hll : l.length ≤ 64 := HSM.out l (List.mem_of_getElem? ho)
      obtain ⟨⟨_, A1, cap1, rfl, _⟩, _⟩ := hol
      have HO := Lib.hid ho
      obtain ⟨vs', hs', ho'⟩ := hgv
      have hlk : (bs.take k).length = k := by simp; omega
      rw [hlk] at hs'
      have HS := Lib.hid hs'
      have HO' := Lib.hid ho'
      have HLK := Lib.hid hlk
      clear hcs hu ho hx hy hb hbw hs' ho' hlk
      have e1 : (0 : Int) ≤ (k : Int) := by omega
      have e2 : (k : Int) < (bs.length : Int) := by omega
      have HP0 : Below wr.heap.size wr wr.drew := (Below.refl _ _).drew
      go_wp2_with fail
      refine wp_region_F (Below (w.heap.size + 3) wr) [21] (by kernel_rfl) ((Below.refl _ _).drew) (fun hS => ?_)
      obtain ⟨V0, hV⟩ : ∃ V, V = wr.drew := ⟨_, rfl⟩
      rw [← hV] at hS HP0 ⊢
      replace HP0 := Lib.hid HP0
      clear hV
      refine wpAnyF_take (i := 0) (oi := { dst := some 15, op := Go.Op.fieldAddr 24 (Go.Operand.tmp 3) 1, type := 0, pos := "law.go:39", after := #[], guard := none }) (v := ?_) rfl (by kernel_rfl) (by kernel_rfl) (by kernel_rfl) (by kernel_rfl) (fun _ _ _ h => h) (Or.inl ⟨by rfl, ?_⟩) hS ?_
      rotate_left
      · intro w' hSw; have q1 := (hSw.cell (p := ⟨w.heap.size, 1, none⟩) (by simp <;> omega)).trans x1; have q2 := (hSw.cell (p := ⟨bq, off + k, none⟩) (by simp <;> omega)).trans c0; have q3 : w'.cell? ⟨w.heap.size + 1 + 1, 1, none⟩ = _ := (hSw.cell (p := ⟨w.heap.size + 2, 1, none⟩) (by simp <;> omega)).trans y1; go_simp; try with_reducible rfl
      try simp only [Act.put, List.setIfInBounds_toArray, List.set_cons_zero, List.set_cons_succ]
      refine wpAnyF_take (i := 1) (oi := { dst := some 16, op := Go.Op.load 22 (Go.Operand.tmp 15), type := 22, pos := "law.go:39", after := #[{ on := 0, ground := Go.Ground.data }], guard := none }) (v := ?_) rfl (by kernel_rfl) (by kernel_rfl) (by kernel_rfl) (by kernel_rfl) (fun _ _ _ h => h) (Or.inl ⟨by rfl, ?_⟩) hS ?_
      rotate_left
      · intro w' hSw; have q1 := (hSw.cell (p := ⟨w.heap.size, 1, none⟩) (by simp <;> omega)).trans x1; have q2 := (hSw.cell (p := ⟨bq, off + k, none⟩) (by simp <;> omega)).trans c0; have q3 : w'.cell? ⟨w.heap.size + 1 + 1, 1, none⟩ = _ := (hSw.cell (p := ⟨w.heap.size + 2, 1, none⟩) (by simp <;> omega)).trans y1; go_simp; try with_reducible rfl
      try simp only [Act.put, List.setIfInBounds_toArray, List.set_cons_zero, List.set_cons_succ]
      refine wpAnyF_take (i := 2) (oi := { dst := some 17, op := Go.Op.fieldAddr 24 (Go.Operand.tmp 1) 1, type := 0, pos := "law.go:39", after := #[], guard := none }) (v := ?_) rfl (by kernel_rfl) (by kernel_rfl) (by kernel_rfl) (by kernel_rfl) (fun _ _ _ h => h) (Or.inl ⟨by rfl, ?_⟩) hS ?_
      rotate_left
      · intro w' hSw; have q1 := (hSw.cell (p := ⟨w.heap.size, 1, none⟩) (by simp <;> omega)).trans x1; have q2 := (hSw.cell (p := ⟨bq, off + k, none⟩) (by simp <;> omega)).trans c0; have q3 : w'.cell? ⟨w.heap.size + 1 + 1, 1, none⟩ = _ := (hSw.cell (p := ⟨w.heap.size + 2, 1, none⟩) (by simp <;> omega)).trans y1; go_simp; try with_reducible rfl
      try simp only [Act.put, List.setIfInBounds_toArray, List.set_cons_zero, List.set_cons_succ]
      refine wpAnyF_take (i := 3) (oi := { dst := some 18, op := Go.Op.load 22 (Go.Operand.tmp 17), type := 22, pos := "law.go:39", after := #[{ on := 2, ground := Go.Ground.data }], guard := none }) (v := ?_) rfl (by kernel_rfl) (by kernel_rfl) (by kernel_rfl) (by kernel_rfl) (fun _ _ _ h => h) (Or.inl ⟨by rfl, ?_⟩) hS ?_
      rotate_left
      · intro w' hSw; have q1 := (hSw.cell (p := ⟨w.heap.size, 1, none⟩) (by simp <;> omega)).trans x1; have q2 := (hSw.cell (p := ⟨bq, off + k, none⟩) (by simp <;> omega)).trans c0; have q3 : w'.cell? ⟨w.heap.size + 1 + 1, 1, none⟩ = _ := (hSw.cell (p := ⟨w.heap.size + 2, 1, none⟩) (by simp <;> omega)).trans y1; go_simp; try with_reducible rfl
      try simp only [Act.put, List.setIfInBounds_toArray, List.set_cons_zero, List.set_cons_succ]
      refine wpAnyF_take (i := 4) (oi := { dst := some 19, op := Go.Op.move (Go.Operand.tmp 4), type := 3, pos := "law.go:39", after := #[], guard := none }) (v := ?_) rfl (by kernel_rfl) (by kernel_rfl) (by kernel_rfl) (by kernel_rfl) (fun _ _ _ h => h) (Or.inl ⟨by rfl, ?_⟩) hS ?_
      rotate_left
      · intro w' hSw; have q1 := (hSw.cell (p := ⟨w.heap.size, 1, none⟩) (by simp <;> omega)).trans x1; have q2 := (hSw.cell (p := ⟨bq, off + k, none⟩) (by simp <;> omega)).trans c0; have q3 : w'.cell? ⟨w.heap.size + 1 + 1, 1, none⟩ = _ := (hSw.cell (p := ⟨w.heap.size + 2, 1, none⟩) (by simp <;> omega)).trans y1; go_simp; try with_reducible rfl
      try simp only [Act.put, List.setIfInBounds_toArray, List.set_cons_zero, List.set_cons_succ]
      refine wpAnyF_take (i := 5) (oi := { dst := some 20, op := Go.Op.indexAddr 22 (Go.Operand.tmp 18) (Go.Operand.tmp 19), type := 0, pos := "law.go:39", after := #[{ on := 3, ground := Go.Ground.data }, { on := 4, ground := Go.Ground.data }], guard := none }) (v := ?_) rfl (by kernel_rfl) (by kernel_rfl) (by kernel_rfl) (by kernel_rfl) (fun _ _ _ h => h) (Or.inl ⟨by rfl, ?_⟩) hS ?_
      rotate_left
      · intro w' hSw; have q1 := (hSw.cell (p := ⟨w.heap.size, 1, none⟩) (by simp <;> omega)).trans x1; have q2 := (hSw.cell (p := ⟨bq, off + k, none⟩) (by simp <;> omega)).trans c0; have q3 : w'.cell? ⟨w.heap.size + 1 + 1, 1, none⟩ = _ := (hSw.cell (p := ⟨w.heap.size + 2, 1, none⟩) (by simp <;> omega)).trans y1; go_simp; try with_reducible rfl
      try simp only [Act.put, List.setIfInBounds_toArray, List.set_cons_zero, List.set_cons_succ]
      refine wpAnyF_take (i := 6) (oi := { dst := some 21, op := Go.Op.load 41 (Go.Operand.tmp 20), type := 41, pos := "law.go:39", after := #[{ on := 5, ground := Go.Ground.data }], guard := none }) (v := ?_) rfl (by kernel_rfl) (by kernel_rfl) (by kernel_rfl) (by kernel_rfl) (fun _ _ _ h => h) (Or.inl ⟨by rfl, ?_⟩) hS ?_
      rotate_left
      · intro w' hSw; have q1 := (hSw.cell (p := ⟨w.heap.size, 1, none⟩) (by simp <;> omega)).trans x1; have q2 := (hSw.cell (p := ⟨bq, off + k, none⟩) (by simp <;> omega)).trans c0; have q3 : w'.cell? ⟨w.heap.size + 1 + 1, 1, none⟩ = _ := (hSw.cell (p := ⟨w.heap.size + 2, 1, none⟩) (by simp <;> omega)).trans y1; go_simp; try with_reducible rfl
      try simp only [Act.put, List.setIfInBounds_toArray, List.set_cons_zero, List.set_cons_succ]
      refine wpAnyF_take (i := 8) (oi := { dst := some 23, op := Go.Op.build 45 #[(1, Go.Operand.const (Go.Value.int Go.IntKind.i64 4242))], type := 45, pos := "law.go:39", after := #[], guard := none }) (v := ?_) rfl (by kernel_rfl) (by kernel_rfl) (by kernel_rfl) (by kernel_rfl) (fun _ _ _ h => h) (Or.inl ⟨by rfl, ?_⟩) hS ?_
      rotate_left
      · intro w' hSw; have q1 := (hSw.cell (p := ⟨w.heap.size, 1, none⟩) (by simp <;> omega)).trans x1; have q2 := (hSw.cell (p := ⟨bq, off + k, none⟩) (by simp <;> omega)).trans c0; have q3 : w'.cell? ⟨w.heap.size + 1 + 1, 1, none⟩ = _ := (hSw.cell (p := ⟨w.heap.size + 2, 1, none⟩) (by simp <;> omega)).trans y1; go_simp; try with_reducible rfl
      try simp only [Act.put, List.setIfInBounds_toArray, List.set_cons_zero, List.set_cons_succ]
      refine wpAnyF_take (i := 11) (oi := { dst := some 26, op := Go.Op.fieldAddr 24 (Go.Operand.tmp 1) 1, type := 0, pos := "law.go:39", after := #[], guard := none }) (v := ?_) rfl (by kernel_rfl) (by kernel_rfl) (by kernel_rfl) (by kernel_rfl) (fun _ _ _ h => h) (Or.inl ⟨by rfl, ?_⟩) hS ?_
      rotate_left
      · intro w' hSw; have q1 := (hSw.cell (p := ⟨w.heap.size, 1, none⟩) (by simp <;> omega)).trans x1; have q2 := (hSw.cell (p := ⟨bq, off + k, none⟩) (by simp <;> omega)).trans c0; have q3 : w'.cell? ⟨w.heap.size + 1 + 1, 1, none⟩ = _ := (hSw.cell (p := ⟨w.heap.size + 2, 1, none⟩) (by simp <;> omega)).trans y1; go_simp; try with_reducible rfl
      try simp only [Act.put, List.setIfInBounds_toArray, List.set_cons_zero, List.set_cons_succ]
      refine wpAnyF_take (i := 12) (oi := { dst := some 27, op := Go.Op.load 22 (Go.Operand.tmp 26), type := 22, pos := "law.go:39", after := #[{ on := 11, ground := Go.Ground.data }], guard := none }) (v := ?_) rfl (by kernel_rfl) (by kernel_rfl) (by kernel_rfl) (by kernel_rfl) (fun _ _ _ h => h) (Or.inl ⟨by rfl, ?_⟩) hS ?_
      rotate_left
      · intro w' hSw; have q1 := (hSw.cell (p := ⟨w.heap.size, 1, none⟩) (by simp <;> omega)).trans x1; have q2 := (hSw.cell (p := ⟨bq, off + k, none⟩) (by simp <;> omega)).trans c0; have q3 : w'.cell? ⟨w.heap.size + 1 + 1, 1, none⟩ = _ := (hSw.cell (p := ⟨w.heap.size + 2, 1, none⟩) (by simp <;> omega)).trans y1; go_simp; try with_reducible rfl
      try simp only [Act.put, List.setIfInBounds_toArray, List.set_cons_zero, List.set_cons_succ]
      refine wpAnyF_take (i := 13) (oi := { dst := some 28, op := Go.Op.move (Go.Operand.tmp 4), type := 3, pos := "law.go:39", after := #[], guard := none }) (v := ?_) rfl (by kernel_rfl) (by kernel_rfl) (by kernel_rfl) (by kernel_rfl) (fun _ _ _ h => h) (Or.inl ⟨by rfl, ?_⟩) hS ?_
      rotate_left
      · intro w' hSw; have q1 := (hSw.cell (p := ⟨w.heap.size, 1, none⟩) (by simp <;> omega)).trans x1; have q2 := (hSw.cell (p := ⟨bq, off + k, none⟩) (by simp <;> omega)).trans c0; have q3 : w'.cell? ⟨w.heap.size + 1 + 1, 1, none⟩ = _ := (hSw.cell (p := ⟨w.heap.size + 2, 1, none⟩) (by simp <;> omega)).trans y1; go_simp; try with_reducible rfl
      try simp only [Act.put, List.setIfInBounds_toArray, List.set_cons_zero, List.set_cons_succ]
      refine wpAnyF_take (i := 14) (oi := { dst := some 29, op := Go.Op.indexAddr 22 (Go.Operand.tmp 27) (Go.Operand.tmp 28), type := 0, pos := "law.go:39", after := #[{ on := 12, ground := Go.Ground.data }, { on := 13, ground := Go.Ground.data }], guard := none }) (v := ?_) rfl (by kernel_rfl) (by kernel_rfl) (by kernel_rfl) (by kernel_rfl) (fun _ _ _ h => h) (Or.inl ⟨by rfl, ?_⟩) hS ?_
      rotate_left
      · intro w' hSw; have q1 := (hSw.cell (p := ⟨w.heap.size, 1, none⟩) (by simp <;> omega)).trans x1; have q2 := (hSw.cell (p := ⟨bq, off + k, none⟩) (by simp <;> omega)).trans c0; have q3 : w'.cell? ⟨w.heap.size + 1 + 1, 1, none⟩ = _ := (hSw.cell (p := ⟨w.heap.size + 2, 1, none⟩) (by simp <;> omega)).trans y1; go_simp; try with_reducible rfl
      try simp only [Act.put, List.setIfInBounds_toArray, List.set_cons_zero, List.set_cons_succ]
      refine wpAnyF_take (i := 15) (oi := { dst := some 30, op := Go.Op.load 41 (Go.Operand.tmp 29), type := 41, pos := "law.go:39", after := #[{ on := 14, ground := Go.Ground.data }], guard := none }) (v := ?_) rfl (by kernel_rfl) (by kernel_rfl) (by kernel_rfl) (by kernel_rfl) (fun _ _ _ h => h) (Or.inl ⟨by rfl, ?_⟩) hS ?_
      rotate_left
      · intro w' hSw; have q1 := (hSw.cell (p := ⟨w.heap.size, 1, none⟩) (by simp <;> omega)).trans x1; have q2 := (hSw.cell (p := ⟨bq, off + k, none⟩) (by simp <;> omega)).trans c0; have q3 : w'.cell? ⟨w.heap.size + 1 + 1, 1, none⟩ = _ := (hSw.cell (p := ⟨w.heap.size + 2, 1, none⟩) (by simp <;> omega)).trans y1; go_simp; try with_reducible rfl
      try simp only [Act.put, List.setIfInBounds_toArray, List.set_cons_zero, List.set_cons_succ]
      refine wpAnyF_take (i := 16) (oi := { dst := some 31, op := Go.Op.call { callee := Go.Callee.builtin Go.Builtin.len, args := #[Go.Operand.tmp 30], argTypes := #[41] }, type := 3, pos := "law.go:39", after := #[{ on := 15, ground := Go.Ground.data }], guard := none }) (v := ?_) rfl (by kernel_rfl) (by kernel_rfl) (by kernel_rfl) (by kernel_rfl) (fun _ _ _ h => h) (Or.inl ⟨by rfl, ?_⟩) hS ?_
      rotate_left
      · intro w' hSw; have q1 := (hSw.cell (p := ⟨w.heap.size, 1, none⟩) (by simp <;> omega)).trans x1; have q2 := (hSw.cell (p := ⟨bq, off + k, none⟩) (by simp <;> omega)).trans c0; have q3 : w'.cell? ⟨w.heap.size + 1 + 1, 1, none⟩ = _ := (hSw.cell (p := ⟨w.heap.size + 2, 1, none⟩) (by simp <;> omega)).trans y1; go_simp; try with_reducible rfl
      try simp only [Act.put, List.setIfInBounds_toArray, List.set_cons_zero, List.set_cons_succ]
      refine wpAnyF_ready (rs := [7, 9]) (by kernel_rfl) (by simp) ?_
      refine AllReadyF.cons (o := { dst := some 22, op := Go.Op.call { callee := Go.Callee.builtin Go.Builtin.append, args := #[Go.Operand.const (Go.Value.slice none 0 0), Go.Operand.tmp 21], argTypes := #[41, 41] }, type := 41, pos := "law.go:39", after := #[{ on := 6, ground := Go.Ground.data }], guard := none }) rfl (by rfl) (fun K hK => ?_) ?_
      · refine step_app V0 rfl (.const (.slice none 0 0)) (.tmp 21) et_off rfl wr.heap.size (.slice none 0 0) 0 [] rfl (World.ownsRow_nil _ _ _ _) R _ l.length (Off.all l) rfl (show Sl V0 R _ _ _ _ from (HOL.out.grow HP0.out).1) (Off.all_one l) (by omega) (by unfold maxLen; omega) (by have := HP0.out.size; omega) ?_
        intro A2 c2 V1 hown hg hloc
        rw [Nat.zero_add]
        refine hK.out _ _ ?_ (fun hS => ?_)
        · exact hS.grown hg (by have := HP0.out.size; omega) (fun g e => by simp [Value.ownBlock] at e)
        clear hK K
        try simp only [Act.put, List.setIfInBounds_toArray, List.set_cons_zero, List.set_cons_succ]
        rw [Nat.zero_add, List.nil_append] at hown
        have hB := HP0.out.grown hg (by have := HP0.out.size; omega) (fun g e => by simp [Value.ownBlock] at e)
        have HP1 := Lib.hid hB
        have HO1 := Lib.hid hown
        clear hown hg hloc hB
        refine wpAnyF_ready (rs := [9]) (by kernel_rfl) (by simp) ?_
        refine AllReadyF.cons (o := { dst := some 24, op := Go.Op.buildSlice 41 1 #[(0, Go.Operand.tmp 23)], type := 41, pos := "law.go:39", after := #[{ on := 8, ground := Go.Ground.data }], guard := none }) rfl (by rfl) (fun K hK => ?_) ?_
        · go_simp
          refine hK.out _ _ ?_ (fun hS => ?_)
          · exact hS.alloc (by have := HP1.out.size; omega) _
          clear hK K
          try simp only [Act.put, List.setIfInBounds_toArray, List.set_cons_zero, List.set_cons_succ]
          have hL := Blk.new V1 45 #[.int .u32 0, .int .i64 4242]
          have hB := HP1.out.alloc (by have := HP1.out.size; omega) (.cells #[.int .u32 0, .int .i64 4242] 45)
          have hO := own_alloc HO1.out (.cells #[.int .u32 0, .int .i64 4242] 45)
          obtain ⟨V2, hV⟩ : ∃ V, V = V1.alloc (.cells #[.int .u32 0, .int .i64 4242] 45) := ⟨_, rfl⟩
          rw [← hV] at hL hB hS ⊢
          rw [← hV] at hO
          have HO1 := Lib.hid hO
          clear hO
          have HL := Lib.hid hL
          have HP2 := Lib.hid hB
          clear hV hL hB
          refine wpAnyF_ready (rs := [10]) (by kernel_rfl) (by simp) ?_
          refine AllReadyF.cons (o := { dst := some 25, op := Go.Op.call { callee := Go.Callee.builtin Go.Builtin.append, args := #[Go.Operand.tmp 22, Go.Operand.tmp 24], argTypes := #[41, 41] }, type := 41, pos := "law.go:39", after := #[{ on := 7, ground := Go.Ground.data }, { on := 9, ground := Go.Ground.data }, { on := 7, ground := Go.Ground.chain }], guard := none }) rfl (by rfl) (fun K hK => ?_) ?_
          · refine step_app V2 rfl (.tmp 22) (.tmp 24) et_off rfl wr.heap.size (.slice A2 l.length c2) l.length (Off.all l) rfl HO1.out (fun _ => True) (.slice (some ⟨V1.heap.size, 0, none⟩) 1 1) 1 [.int .u32 0, .int .i64 4242] rfl (Sl.blk (sz := 2) HL.out (Nat.le_refl 1) (by unfold maxLen; omega) rfl) (by simp [Value.oneCell']) (by omega) (by unfold maxLen; omega) (by have := HP2.out.size; omega) ?_
            intro A3 c3 V3 hown hg hloc
            refine hK.out _ _ ?_ (fun hS => ?_)
            · exact hS.grown hg (by have := HP2.out.size; omega) (fun g e => by have := (HO1.out.lt g e).1; omega)
            clear hK K
            try simp only [Act.put, List.setIfInBounds_toArray, List.set_cons_zero, List.set_cons_succ]
            have hB := HP2.out.grown hg (by have := HP2.out.size; omega) (fun g e => (HO1.out.lt g e).1)
            have hall : Off.all l ++ [.int .u32 0, .int .i64 4242] = Off.all (l ++ [⟨0, 4242⟩]) := (by simp [Off.all, Off.cells])
            rw [hall] at hown
            obtain ⟨gb, cb, hform, hgb, hgb2⟩ := World.ownsRow.form hown (by omega)
            injection hform with hA3 _ hc3
            subst hA3 hc3
            obtain ⟨_, A9, _, hv3, hnc3, hcm3, _⟩ := Sl.of_own hown
            injection hv3 with hA9 _ hc3'
            subst hc3' hA9
            have hc31 : ((l.length : Nat) : Int) ≤ (c3 : Int) := by omega
            have hc30 : (0 : Int) ≤ ((l.length : Nat) : Int) := by omega
            have HP3 := Lib.hid hB
            have HO2 := Lib.hid hown
            clear hown hg hloc hB hall
            refine wpAnyF_take (i := 17) (oi := { dst := some 32, op := Go.Op.slice 41 (Go.Operand.tmp 25) none (some (Go.Operand.tmp 31)) none, type := 41, pos := "law.go:39", after := #[{ on := 10, ground := Go.Ground.data }, { on := 16, ground := Go.Ground.data }], guard := none }) (v := ?_) rfl (by kernel_rfl) (by kernel_rfl) (by kernel_rfl) (by kernel_rfl) (fun _ _ _ h => h) (Or.inl ⟨by rfl, ?_⟩) hS ?_
            rotate_left
            · intro w' hSw; have q1 := (hSw.cell (p := ⟨w.heap.size, 1, none⟩) (by simp <;> omega)).trans x1; have q2 := (hSw.cell (p := ⟨bq, off + k, none⟩) (by simp <;> omega)).trans c0; have q3 : w'.cell? ⟨w.heap.size + 1 + 1, 1, none⟩ = _ := (hSw.cell (p := ⟨w.heap.size + 2, 1, none⟩) (by simp <;> omega)).trans y1; go_simp; try with_reducible rfl
            try simp only [Act.put, List.setIfInBounds_toArray, List.set_cons_zero, List.set_cons_succ]
            refine wpAnyF_ready (rs := [18]) (by kernel_rfl) (by simp) ?_
            refine AllReadyF.cons (o := { dst := some 33, op := Go.Op.buildSlice 22 1 #[(0, Go.Operand.tmp 32)], type := 22, pos := "law.go:39", after := #[{ on := 17, ground := Go.Ground.data }], guard := none }) rfl (by rfl) (fun K hK => ?_) ?_
            · go_simp
              refine hK.out _ _ ?_ (fun hS => ?_)
              · exact hS.alloc (by have := HP3.out.size; omega) _
              clear hK K
              try simp only [Act.put, List.setIfInBounds_toArray, List.set_cons_zero, List.set_cons_succ]
              have hN := Blk.new V3 41 #[.slice (some ⟨gb, 0, none⟩) l.length c3]
              have hB := HP3.out.alloc (by have := HP3.out.size; omega) (.cells #[.slice (some ⟨gb, 0, none⟩) l.length c3] 41)
              have hO := own_alloc HO2.out (.cells #[.slice (some ⟨gb, 0, none⟩) l.length c3] 41)
              obtain ⟨V4, hV⟩ : ∃ V, V = V3.alloc (.cells #[.slice (some ⟨gb, 0, none⟩) l.length c3] 41) := ⟨_, rfl⟩
              rw [← hV] at hN hB hS hO ⊢
              have HN1 := Lib.hid hN
              have HP4 := Lib.hid hB
              have HO3 := Lib.hid hO
              have HS2 := Lib.hid (own_grow HS.out hB)
              clear hV hN hB hO
              refine wpAnyF_ready (rs := [19]) (by kernel_rfl) (by simp) ?_
              refine AllReadyF.cons (o := { dst := some 34, op := Go.Op.call { callee := Go.Callee.builtin Go.Builtin.append, args := #[Go.Operand.tmp 16, Go.Operand.tmp 33], argTypes := #[22, 22] }, type := 22, pos := "law.go:39", after := #[{ on := 1, ground := Go.Ground.data }, { on := 18, ground := Go.Ground.data }, { on := 10, ground := Go.Ground.chain }], guard := none }) rfl (by rfl) (fun K hK => ?_) ?_
              · refine step_app V4 rfl (.tmp 16) (.tmp 33) et_offs rfl (w.heap.size + 3) (.slice A' k cap') k vs' rfl HS2.out (fun _ => True) (.slice (some ⟨V3.heap.size, 0, none⟩) 1 1) 1 [.slice (some ⟨gb, 0, none⟩) l.length c3] rfl (Sl.blk (sz := 1) HN1.out (Nat.le_refl 1) (by unfold maxLen; omega) rfl) (by simp [Value.oneCell']) (by omega) (by unfold maxLen; omega) (by have := HP4.out.size; omega) ?_
                intro A4 c4 V5 hown hg hloc
                refine hK.out _ _ ?_ (fun hS => ?_)
                · exact hS.grown hg (by have := HP4.out.size; omega) (fun g e => (HS2.out.lt g e).1)
                clear hK K
                try simp only [Act.put, List.setIfInBounds_toArray, List.set_cons_zero, List.set_cons_succ]
                have hfar : ∀ b, b < w.heap.size + 3 → some b ≠ (Value.slice A' k cap').ownBlock := (fun b hb e => by have := (HS2.out.lt b e.symm).1; omega)
                have hyV := (HY2.out.grow HP4.out).grown hg (hfar _ (by omega))
                have yc : V5.cell? ⟨w.heap.size + 1 + 1, 1, none⟩ = some (.slice A' k cap') := hyV.cell 1
                have yf : V5.frozen? ⟨w.heap.size + 1 + 1, 1, none⟩ = false := hyV.frozen 1
                have HYV := Lib.hid hyV
                have HGV := Lib.hid hg
                have HOV := Lib.hid hown
                have HBV := HP4
                have HWV := Lib.hid hS
                clear hyV hg hown hloc hfar
                refine wpAnyF_take (i := 20) (oi := { dst := some 35, op := Go.Op.fieldAddr 24 (Go.Operand.tmp 3) 1, type := 0, pos := "law.go:39", after := #[{ on := 0, ground := Go.Ground.phase }, { on := 1, ground := Go.Ground.phase }, { on := 2, ground := Go.Ground.phase }, { on := 3, ground := Go.Ground.phase }, { on := 4, ground := Go.Ground.phase }, { on := 5, ground := Go.Ground.phase }, { on := 6, ground := Go.Ground.phase }, { on := 7, ground := Go.Ground.phase }, { on := 8, ground := Go.Ground.phase }, { on := 9, ground := Go.Ground.phase }, { on := 10, ground := Go.Ground.phase }, { on := 11, ground := Go.Ground.phase }, { on := 12, ground := Go.Ground.phase }, { on := 13, ground := Go.Ground.phase }, { on := 14, ground := Go.Ground.phase }, { on := 15, ground := Go.Ground.phase }, { on := 16, ground := Go.Ground.phase }, { on := 17, ground := Go.Ground.phase }, { on := 18, ground := Go.Ground.phase }, { on := 19, ground := Go.Ground.phase }], guard := none }) (v := ?_) rfl (by kernel_rfl) (by kernel_rfl) (by kernel_rfl) (by kernel_rfl) (fun _ _ _ h => h) (Or.inl ⟨by rfl, ?_⟩) hS ?_
                rotate_left
                · intro w' hSw; have q1 := (hSw.cell (p := ⟨w.heap.size, 1, none⟩) (by simp <;> omega)).trans x1; have q2 := (hSw.cell (p := ⟨bq, off + k, none⟩) (by simp <;> omega)).trans c0; have q3 : w'.cell? ⟨w.heap.size + 1 + 1, 1, none⟩ = _ := (hSw.cell (p := ⟨w.heap.size + 2, 1, none⟩) (by simp <;> omega)).trans y1; go_simp; try with_reducible rfl
                try simp only [Act.put, List.setIfInBounds_toArray, List.set_cons_zero, List.set_cons_succ]
                refine wpAnyF_ready (rs := [21]) (by kernel_rfl) (by simp) ?_
                refine AllReadyF.fin (o := { dst := none, op := Go.Op.store 22 (Go.Operand.tmp 35) (Go.Operand.tmp 34), type := 0, pos := "law.go:39", after := #[{ on := 20, ground := Go.Ground.data }, { on := 19, ground := Go.Ground.data }, { on := 19, ground := Go.Ground.chain }, { on := 0, ground := Go.Ground.phase }, { on := 1, ground := Go.Ground.phase }, { on := 2, ground := Go.Ground.phase }, { on := 3, ground := Go.Ground.phase }, { on := 4, ground := Go.Ground.phase }, { on := 5, ground := Go.Ground.phase }, { on := 6, ground := Go.Ground.phase }, { on := 7, ground := Go.Ground.phase }, { on := 8, ground := Go.Ground.phase }, { on := 9, ground := Go.Ground.phase }, { on := 10, ground := Go.Ground.phase }, { on := 11, ground := Go.Ground.phase }, { on := 12, ground := Go.Ground.phase }, { on := 13, ground := Go.Ground.phase }, { on := 14, ground := Go.Ground.phase }, { on := 15, ground := Go.Ground.phase }, { on := 16, ground := Go.Ground.phase }, { on := 17, ground := Go.Ground.phase }, { on := 18, ground := Go.Ground.phase }, { on := 19, ground := Go.Ground.phase }], guard := none }) rfl (by rfl) (fun K hK => ?_) ?_
                · go_simp
                  refine hK.out _ _ ?_
                  clear hK K
                  try simp only [Act.put, List.setIfInBounds_toArray, List.set_cons_zero, List.set_cons_succ]
                  refine wpAnyF_done (by kernel_rfl) ?_ _
                  go_wp2_with fail
                  go_roundw
                  case rel =>
                    have hsn := GivM.snoc (bs := bs.take k) (l := l) HLK.out HS2.out (fun j l' hj => let ⟨b, c, h1, h2, h3⟩ := HO'.out j l' hj; ⟨b, c, h1, own_grow h2 HP4.out, h3⟩) (own_mono HO3.out (by omega)) HOL.out.2 HOV.out HGV.out
                    have htk : bs.take (k + 1) = bs.take k ++ [l] := by rw [List.take_add_one, HO.out]; rfl
                    refine ⟨k + 1, A4, c4, by omega, by go_num, ?_, ?_, ?_⟩
                    · rw [htk]
                      exact hsn.far (grownBy_setCell _ ⟨w.heap.size + 1 + 1, 1, none⟩ _) (fun b e => by simp at e; omega)
                    · exact HYV.out.set_ 1 (.slice A4 (k + 1) c4)
                    · exact (HB2.out.trans (HWV.out.mono (B' := w.heap.size + 2) (by omega))).setCell (p := ⟨w.heap.size + 1 + 1, 1, none⟩) (by simp) _
                  case measure => simp [intOf]; omega
                exact AllReadyF.nil
              exact AllReadyF.nil
            exact AllReadyF.nil
          exact AllReadyF.nil
        exact AllReadyF.nil
      refine AllReadyF.cons (o := { dst := some 24, op := Go.Op.buildSlice 41 1 #[(0, Go.Operand.tmp 23)], type := 41, pos := "law.go:39", after := #[{ on := 8, ground := Go.Ground.data }], guard := none }) rfl (by rfl) (fun K hK => ?_) ?_
      · go_simp
        refine hK.out _ _ ?_ (fun hS => ?_)
        · exact hS.alloc (by have := HP0.out.size; omega) _
        clear hK K
        try simp only [Act.put, List.setIfInBounds_toArray, List.set_cons_zero, List.set_cons_succ]
        have hL := Blk.new V0 45 #[.int .u32 0, .int .i64 4242]
        have hB := HP0.out.alloc (by have := HP0.out.size; omega) (.cells #[.int .u32 0, .int .i64 4242] 45)
        obtain ⟨V1, hV⟩ : ∃ V, V = V0.alloc (.cells #[.int .u32 0, .int .i64 4242] 45) := ⟨_, rfl⟩
        rw [← hV] at hL hB hS ⊢
        have HL := Lib.hid hL
        have HP1 := Lib.hid hB
        clear hV hL hB
        refine wpAnyF_ready (rs := [7]) (by kernel_rfl) (by simp) ?_
        refine AllReadyF.cons (o := { dst := some 22, op := Go.Op.call { callee := Go.Callee.builtin Go.Builtin.append, args := #[Go.Operand.const (Go.Value.slice none 0 0), Go.Operand.tmp 21], argTypes := #[41, 41] }, type := 41, pos := "law.go:39", after := #[{ on := 6, ground := Go.Ground.data }], guard := none }) rfl (by rfl) (fun K hK => ?_) ?_
        · refine step_app V1 rfl (.const (.slice none 0 0)) (.tmp 21) et_off rfl wr.heap.size (.slice none 0 0) 0 [] rfl (World.ownsRow_nil _ _ _ _) R _ l.length (Off.all l) rfl (show Sl V1 R _ _ _ _ from (HOL.out.grow HP1.out).1) (Off.all_one l) (by omega) (by unfold maxLen; omega) (by have := HP1.out.size; omega) ?_
          intro A2 c2 V2 hown hg hloc
          rw [Nat.zero_add]
          refine hK.out _ _ ?_ (fun hS => ?_)
          · exact hS.grown hg (by have := HP1.out.size; omega) (fun g e => by simp [Value.ownBlock] at e)
          clear hK K
          try simp only [Act.put, List.setIfInBounds_toArray, List.set_cons_zero, List.set_cons_succ]
          rw [Nat.zero_add, List.nil_append] at hown
          have hB := HP1.out.grown hg (by have := HP1.out.size; omega) (fun g e => by simp [Value.ownBlock] at e)
          have HL := Lib.hid (HL.out.grown hg (by simp [Value.ownBlock]))
          have HP2 := Lib.hid hB
          have HO1 := Lib.hid hown
          clear hown hg hloc hB
          refine wpAnyF_ready (rs := [10]) (by kernel_rfl) (by simp) ?_
          refine AllReadyF.cons (o := { dst := some 25, op := Go.Op.call { callee := Go.Callee.builtin Go.Builtin.append, args := #[Go.Operand.tmp 22, Go.Operand.tmp 24], argTypes := #[41, 41] }, type := 41, pos := "law.go:39", after := #[{ on := 7, ground := Go.Ground.data }, { on := 9, ground := Go.Ground.data }, { on := 7, ground := Go.Ground.chain }], guard := none }) rfl (by rfl) (fun K hK => ?_) ?_
          · refine step_app V2 rfl (.tmp 22) (.tmp 24) et_off rfl wr.heap.size (.slice A2 l.length c2) l.length (Off.all l) rfl HO1.out (fun _ => True) (.slice (some ⟨V0.heap.size, 0, none⟩) 1 1) 1 [.int .u32 0, .int .i64 4242] rfl (Sl.blk (sz := 2) HL.out (Nat.le_refl 1) (by unfold maxLen; omega) rfl) (by simp [Value.oneCell']) (by omega) (by unfold maxLen; omega) (by have := HP2.out.size; omega) ?_
            intro A3 c3 V3 hown hg hloc
            refine hK.out _ _ ?_ (fun hS => ?_)
            · exact hS.grown hg (by have := HP2.out.size; omega) (fun g e => by have := (HO1.out.lt g e).1; omega)
            clear hK K
            try simp only [Act.put, List.setIfInBounds_toArray, List.set_cons_zero, List.set_cons_succ]
            have hB := HP2.out.grown hg (by have := HP2.out.size; omega) (fun g e => (HO1.out.lt g e).1)
            have hall : Off.all l ++ [.int .u32 0, .int .i64 4242] = Off.all (l ++ [⟨0, 4242⟩]) := (by simp [Off.all, Off.cells])
            rw [hall] at hown
            obtain ⟨gb, cb, hform, hgb, hgb2⟩ := World.ownsRow.form hown (by omega)
            injection hform with hA3 _ hc3
            subst hA3 hc3
            obtain ⟨_, A9, _, hv3, hnc3, hcm3, _⟩ := Sl.of_own hown
            injection hv3 with hA9 _ hc3'
            subst hc3' hA9
            have hc31 : ((l.length : Nat) : Int) ≤ (c3 : Int) := by omega
            have hc30 : (0 : Int) ≤ ((l.length : Nat) : Int) := by omega
            have HP3 := Lib.hid hB
            have HO2 := Lib.hid hown
            clear hown hg hloc hB hall
            refine wpAnyF_take (i := 17) (oi := { dst := some 32, op := Go.Op.slice 41 (Go.Operand.tmp 25) none (some (Go.Operand.tmp 31)) none, type := 41, pos := "law.go:39", after := #[{ on := 10, ground := Go.Ground.data }, { on := 16, ground := Go.Ground.data }], guard := none }) (v := ?_) rfl (by kernel_rfl) (by kernel_rfl) (by kernel_rfl) (by kernel_rfl) (fun _ _ _ h => h) (Or.inl ⟨by rfl, ?_⟩) hS ?_
            rotate_left
            · intro w' hSw; have q1 := (hSw.cell (p := ⟨w.heap.size, 1, none⟩) (by simp <;> omega)).trans x1; have q2 := (hSw.cell (p := ⟨bq, off + k, none⟩) (by simp <;> omega)).trans c0; have q3 : w'.cell? ⟨w.heap.size + 1 + 1, 1, none⟩ = _ := (hSw.cell (p := ⟨w.heap.size + 2, 1, none⟩) (by simp <;> omega)).trans y1; go_simp; try with_reducible rfl
            try simp only [Act.put, List.setIfInBounds_toArray, List.set_cons_zero, List.set_cons_succ]
            refine wpAnyF_ready (rs := [18]) (by kernel_rfl) (by simp) ?_
            refine AllReadyF.cons (o := { dst := some 33, op := Go.Op.buildSlice 22 1 #[(0, Go.Operand.tmp 32)], type := 22, pos := "law.go:39", after := #[{ on := 17, ground := Go.Ground.data }], guard := none }) rfl (by rfl) (fun K hK => ?_) ?_
            · go_simp
              refine hK.out _ _ ?_ (fun hS => ?_)
              · exact hS.alloc (by have := HP3.out.size; omega) _
              clear hK K
              try simp only [Act.put, List.setIfInBounds_toArray, List.set_cons_zero, List.set_cons_succ]
              have hN := Blk.new V3 41 #[.slice (some ⟨gb, 0, none⟩) l.length c3]
              have hB := HP3.out.alloc (by have := HP3.out.size; omega) (.cells #[.slice (some ⟨gb, 0, none⟩) l.length c3] 41)
              have hO := own_alloc HO2.out (.cells #[.slice (some ⟨gb, 0, none⟩) l.length c3] 41)
              obtain ⟨V4, hV⟩ : ∃ V, V = V3.alloc (.cells #[.slice (some ⟨gb, 0, none⟩) l.length c3] 41) := ⟨_, rfl⟩
              rw [← hV] at hN hB hS hO ⊢
              have HN1 := Lib.hid hN
              have HP4 := Lib.hid hB
              have HO3 := Lib.hid hO
              have HS2 := Lib.hid (own_grow HS.out hB)
              clear hV hN hB hO
              refine wpAnyF_ready (rs := [19]) (by kernel_rfl) (by simp) ?_
              refine AllReadyF.cons (o := { dst := some 34, op := Go.Op.call { callee := Go.Callee.builtin Go.Builtin.append, args := #[Go.Operand.tmp 16, Go.Operand.tmp 33], argTypes := #[22, 22] }, type := 22, pos := "law.go:39", after := #[{ on := 1, ground := Go.Ground.data }, { on := 18, ground := Go.Ground.data }, { on := 10, ground := Go.Ground.chain }], guard := none }) rfl (by rfl) (fun K hK => ?_) ?_
              · refine step_app V4 rfl (.tmp 16) (.tmp 33) et_offs rfl (w.heap.size + 3) (.slice A' k cap') k vs' rfl HS2.out (fun _ => True) (.slice (some ⟨V3.heap.size, 0, none⟩) 1 1) 1 [.slice (some ⟨gb, 0, none⟩) l.length c3] rfl (Sl.blk (sz := 1) HN1.out (Nat.le_refl 1) (by unfold maxLen; omega) rfl) (by simp [Value.oneCell']) (by omega) (by unfold maxLen; omega) (by have := HP4.out.size; omega) ?_
                intro A4 c4 V5 hown hg hloc
                refine hK.out _ _ ?_ (fun hS => ?_)
                · exact hS.grown hg (by have := HP4.out.size; omega) (fun g e => (HS2.out.lt g e).1)
                clear hK K
                try simp only [Act.put, List.setIfInBounds_toArray, List.set_cons_zero, List.set_cons_succ]
                have hfar : ∀ b, b < w.heap.size + 3 → some b ≠ (Value.slice A' k cap').ownBlock := (fun b hb e => by have := (HS2.out.lt b e.symm).1; omega)
                have hyV := (HY2.out.grow HP4.out).grown hg (hfar _ (by omega))
                have yc : V5.cell? ⟨w.heap.size + 1 + 1, 1, none⟩ = some (.slice A' k cap') := hyV.cell 1
                have yf : V5.frozen? ⟨w.heap.size + 1 + 1, 1, none⟩ = false := hyV.frozen 1
                have HYV := Lib.hid hyV
                have HGV := Lib.hid hg
                have HOV := Lib.hid hown
                have HBV := HP4
                have HWV := Lib.hid hS
                clear hyV hg hown hloc hfar
                refine wpAnyF_take (i := 20) (oi := { dst := some 35, op := Go.Op.fieldAddr 24 (Go.Operand.tmp 3) 1, type := 0, pos := "law.go:39", after := #[{ on := 0, ground := Go.Ground.phase }, { on := 1, ground := Go.Ground.phase }, { on := 2, ground := Go.Ground.phase }, { on := 3, ground := Go.Ground.phase }, { on := 4, ground := Go.Ground.phase }, { on := 5, ground := Go.Ground.phase }, { on := 6, ground := Go.Ground.phase }, { on := 7, ground := Go.Ground.phase }, { on := 8, ground := Go.Ground.phase }, { on := 9, ground := Go.Ground.phase }, { on := 10, ground := Go.Ground.phase }, { on := 11, ground := Go.Ground.phase }, { on := 12, ground := Go.Ground.phase }, { on := 13, ground := Go.Ground.phase }, { on := 14, ground := Go.Ground.phase }, { on := 15, ground := Go.Ground.phase }, { on := 16, ground := Go.Ground.phase }, { on := 17, ground := Go.Ground.phase }, { on := 18, ground := Go.Ground.phase }, { on := 19, ground := Go.Ground.phase }], guard := none }) (v := ?_) rfl (by kernel_rfl) (by kernel_rfl) (by kernel_rfl) (by kernel_rfl) (fun _ _ _ h => h) (Or.inl ⟨by rfl, ?_⟩) hS ?_
                rotate_left
                · intro w' hSw; have q1 := (hSw.cell (p := ⟨w.heap.size, 1, none⟩) (by simp <;> omega)).trans x1; have q2 := (hSw.cell (p := ⟨bq, off + k, none⟩) (by simp <;> omega)).trans c0; have q3 : w'.cell? ⟨w.heap.size + 1 + 1, 1, none⟩ = _ := (hSw.cell (p := ⟨w.heap.size + 2, 1, none⟩) (by simp <;> omega)).trans y1; go_simp; try with_reducible rfl
                try simp only [Act.put, List.setIfInBounds_toArray, List.set_cons_zero, List.set_cons_succ]
                refine wpAnyF_ready (rs := [21]) (by kernel_rfl) (by simp) ?_
                refine AllReadyF.fin (o := { dst := none, op := Go.Op.store 22 (Go.Operand.tmp 35) (Go.Operand.tmp 34), type := 0, pos := "law.go:39", after := #[{ on := 20, ground := Go.Ground.data }, { on := 19, ground := Go.Ground.data }, { on := 19, ground := Go.Ground.chain }, { on := 0, ground := Go.Ground.phase }, { on := 1, ground := Go.Ground.phase }, { on := 2, ground := Go.Ground.phase }, { on := 3, ground := Go.Ground.phase }, { on := 4, ground := Go.Ground.phase }, { on := 5, ground := Go.Ground.phase }, { on := 6, ground := Go.Ground.phase }, { on := 7, ground := Go.Ground.phase }, { on := 8, ground := Go.Ground.phase }, { on := 9, ground := Go.Ground.phase }, { on := 10, ground := Go.Ground.phase }, { on := 11, ground := Go.Ground.phase }, { on := 12, ground := Go.Ground.phase }, { on := 13, ground := Go.Ground.phase }, { on := 14, ground := Go.Ground.phase }, { on := 15, ground := Go.Ground.phase }, { on := 16, ground := Go.Ground.phase }, { on := 17, ground := Go.Ground.phase }, { on := 18, ground := Go.Ground.phase }, { on := 19, ground := Go.Ground.phase }], guard := none }) rfl (by rfl) (fun K hK => ?_) ?_
                · go_simp
                  refine hK.out _ _ ?_
                  clear hK K
                  try simp only [Act.put, List.setIfInBounds_toArray, List.set_cons_zero, List.set_cons_succ]
                  refine wpAnyF_done (by kernel_rfl) ?_ _
                  go_wp2_with fail
                  go_roundw
                  case rel =>
                    have hsn := GivM.snoc (bs := bs.take k) (l := l) HLK.out HS2.out (fun j l' hj => let ⟨b, c, h1, h2, h3⟩ := HO'.out j l' hj; ⟨b, c, h1, own_grow h2 HP4.out, h3⟩) (own_mono HO3.out (by omega)) HOL.out.2 HOV.out HGV.out
                    have htk : bs.take (k + 1) = bs.take k ++ [l] := by rw [List.take_add_one, HO.out]; rfl
                    refine ⟨k + 1, A4, c4, by omega, by go_num, ?_, ?_, ?_⟩
                    · rw [htk]
                      exact hsn.far (grownBy_setCell _ ⟨w.heap.size + 1 + 1, 1, none⟩ _) (fun b e => by simp at e; omega)
                    · exact HYV.out.set_ 1 (.slice A4 (k + 1) c4)
                    · exact (HB2.out.trans (HWV.out.mono (B' := w.heap.size + 2) (by omega))).setCell (p := ⟨w.heap.size + 1 + 1, 1, none⟩) (by simp) _
                  case measure => simp [intOf]; omega
                exact AllReadyF.nil
              exact AllReadyF.nil
            exact AllReadyF.nil
          exact AllReadyF.nil
        exact AllReadyF.nil
      exact AllReadyF.nil
    · obtain rfl : k = bs.length := by omega
      have htl : bs.take bs.length = bs := List.take_length
      rw [htl] at hgv
      obtain ⟨vs', hs', ho'⟩ := hgv
      have hrr := HR.out.below hb (by omega)
      have HRR := Lib.hid hrr
      have HS := Lib.hid hs'
      have HO' := Lib.hid ho'
      clear hrr hs' ho' hx hy hb hbw HGV htl
      have HP0 : Below wr.heap.size wr wr.drew := (Below.refl _ _).drew
      go_wp2_with fail
      refine wp_region_F (Below (w.heap.size + 3) wr) [11] (by kernel_rfl) ((Below.refl _ _).drew) (fun hS => ?_)
      obtain ⟨V0, hV⟩ : ∃ V, V = wr.drew := ⟨_, rfl⟩
      rw [← hV] at hS HP0 ⊢
      replace HP0 := Lib.hid HP0
      clear hV
      refine wpAnyF_take (i := 0) (oi := { dst := some 36, op := Go.Op.fieldAddr 24 (Go.Operand.tmp 3) 1, type := 0, pos := "law.go:41", after := #[], guard := none }) (v := ?_) rfl (by kernel_rfl) (by kernel_rfl) (by kernel_rfl) (by kernel_rfl) (fun _ _ _ h => h) (Or.inl ⟨by rfl, ?_⟩) hS ?_
      rotate_left
      · intro w' hSw; have q1 := (hSw.cell (p := ⟨w.heap.size, 1, none⟩) (by simp <;> omega)).trans x1; have q3 : w'.cell? ⟨w.heap.size + 1 + 1, 1, none⟩ = _ := (hSw.cell (p := ⟨w.heap.size + 2, 1, none⟩) (by simp <;> omega)).trans y1; go_simp; try with_reducible rfl
      try simp only [Act.put, List.setIfInBounds_toArray, List.set_cons_zero, List.set_cons_succ]
      refine wpAnyF_take (i := 1) (oi := { dst := some 37, op := Go.Op.load 22 (Go.Operand.tmp 36), type := 22, pos := "law.go:41", after := #[{ on := 0, ground := Go.Ground.data }], guard := none }) (v := ?_) rfl (by kernel_rfl) (by kernel_rfl) (by kernel_rfl) (by kernel_rfl) (fun _ _ _ h => h) (Or.inl ⟨by rfl, ?_⟩) hS ?_
      rotate_left
      · intro w' hSw; have q1 := (hSw.cell (p := ⟨w.heap.size, 1, none⟩) (by simp <;> omega)).trans x1; have q3 : w'.cell? ⟨w.heap.size + 1 + 1, 1, none⟩ = _ := (hSw.cell (p := ⟨w.heap.size + 2, 1, none⟩) (by simp <;> omega)).trans y1; go_simp; try with_reducible rfl
      try simp only [Act.put, List.setIfInBounds_toArray, List.set_cons_zero, List.set_cons_succ]
      refine wpAnyF_take (i := 2) (oi := { dst := some 38, op := Go.Op.build 45 #[(1, Go.Operand.const (Go.Value.int Go.IntKind.i64 4243))], type := 45, pos := "law.go:41", after := #[], guard := none }) (v := ?_) rfl (by kernel_rfl) (by kernel_rfl) (by kernel_rfl) (by kernel_rfl) (fun _ _ _ h => h) (Or.inl ⟨by rfl, ?_⟩) hS ?_
      rotate_left
      · intro w' hSw; have q1 := (hSw.cell (p := ⟨w.heap.size, 1, none⟩) (by simp <;> omega)).trans x1; have q3 : w'.cell? ⟨w.heap.size + 1 + 1, 1, none⟩ = _ := (hSw.cell (p := ⟨w.heap.size + 2, 1, none⟩) (by simp <;> omega)).trans y1; go_simp; try with_reducible rfl
      try simp only [Act.put, List.setIfInBounds_toArray, List.set_cons_zero, List.set_cons_succ]
      refine wpAnyF_take (i := 6) (oi := { dst := some 42, op := Go.Op.fieldAddr 24 (Go.Operand.tmp 1) 1, type := 0, pos := "law.go:41", after := #[], guard := none }) (v := ?_) rfl (by kernel_rfl) (by kernel_rfl) (by kernel_rfl) (by kernel_rfl) (fun _ _ _ h => h) (Or.inl ⟨by rfl, ?_⟩) hS ?_
      rotate_left
      · intro w' hSw; have q1 := (hSw.cell (p := ⟨w.heap.size, 1, none⟩) (by simp <;> omega)).trans x1; have q3 : w'.cell? ⟨w.heap.size + 1 + 1, 1, none⟩ = _ := (hSw.cell (p := ⟨w.heap.size + 2, 1, none⟩) (by simp <;> omega)).trans y1; go_simp; try with_reducible rfl
      try simp only [Act.put, List.setIfInBounds_toArray, List.set_cons_zero, List.set_cons_succ]
      refine wpAnyF_take (i := 7) (oi := { dst := some 43, op := Go.Op.load 22 (Go.Operand.tmp 42), type := 22, pos := "law.go:41", after := #[{ on := 6, ground := Go.Ground.data }], guard := none }) (v := ?_) rfl (by kernel_rfl) (by kernel_rfl) (by kernel_rfl) (by kernel_rfl) (fun _ _ _ h => h) (Or.inl ⟨by rfl, ?_⟩) hS ?_
      rotate_left
      · intro w' hSw; have q1 := (hSw.cell (p := ⟨w.heap.size, 1, none⟩) (by simp <;> omega)).trans x1; have q3 : w'.cell? ⟨w.heap.size + 1 + 1, 1, none⟩ = _ := (hSw.cell (p := ⟨w.heap.size + 2, 1, none⟩) (by simp <;> omega)).trans y1; go_simp; try with_reducible rfl
      try simp only [Act.put, List.setIfInBounds_toArray, List.set_cons_zero, List.set_cons_succ]
      refine wpAnyF_take (i := 8) (oi := { dst := some 44, op := Go.Op.call { callee := Go.Callee.builtin Go.Builtin.len, args := #[Go.Operand.tmp 43], argTypes := #[22] }, type := 3, pos := "law.go:41", after := #[{ on := 7, ground := Go.Ground.data }], guard := none }) (v := ?_) rfl (by kernel_rfl) (by kernel_rfl) (by kernel_rfl) (by kernel_rfl) (fun _ _ _ h => h) (Or.inl ⟨by rfl, ?_⟩) hS ?_
      rotate_left
      · intro w' hSw; have q1 := (hSw.cell (p := ⟨w.heap.size, 1, none⟩) (by simp <;> omega)).trans x1; have q3 : w'.cell? ⟨w.heap.size + 1 + 1, 1, none⟩ = _ := (hSw.cell (p := ⟨w.heap.size + 2, 1, none⟩) (by simp <;> omega)).trans y1; go_simp; try with_reducible rfl
      try simp only [Act.put, List.setIfInBounds_toArray, List.set_cons_zero, List.set_cons_succ]
      refine wpAnyF_ready (rs := [3]) (by kernel_rfl) (by simp) ?_
      refine AllReadyF.cons (o := { dst := some 39, op := Go.Op.buildSlice 41 1 #[(0, Go.Operand.tmp 38)], type := 41, pos := "law.go:41", after := #[{ on := 2, ground := Go.Ground.data }], guard := none }) rfl (by rfl) (fun K hK => ?_) ?_
      · go_simp
        refine hK.out _ _ ?_ (fun hS => ?_)
        · exact hS.alloc (by have := HP0.out.size; omega) _
        clear hK K
        try simp only [Act.put, List.setIfInBounds_toArray, List.set_cons_zero, List.set_cons_succ]
        have hL := Blk.new V0 45 #[.int .u32 0, .int .i64 4243]
        have hB := HP0.out.alloc (by have := HP0.out.size; omega) (.cells #[.int .u32 0, .int .i64 4243] 45)
        obtain ⟨V1, hV⟩ : ∃ V, V = V0.alloc (.cells #[.int .u32 0, .int .i64 4243] 45) := ⟨_, rfl⟩
        rw [← hV] at hL hB hS ⊢
        have HL1 := Lib.hid hL
        have HP1 := Lib.hid hB
        clear hV hL hB
        refine wpAnyF_ready (rs := [4]) (by kernel_rfl) (by simp) ?_
        refine AllReadyF.cons (o := { dst := some 40, op := Go.Op.buildSlice 22 1 #[(0, Go.Operand.tmp 39)], type := 22, pos := "law.go:41", after := #[{ on := 3, ground := Go.Ground.data }], guard := none }) rfl (by rfl) (fun K hK => ?_) ?_
        · go_simp
          refine hK.out _ _ ?_ (fun hS => ?_)
          · exact hS.alloc (by have := HP1.out.size; omega) _
          clear hK K
          try simp only [Act.put, List.setIfInBounds_toArray, List.set_cons_zero, List.set_cons_succ]
          have hN := Blk.new V1 41 #[.slice (some ⟨V0.heap.size, 0, none⟩) 1 1]
          have hL := HL1.out.alloc (.cells #[.slice (some ⟨V0.heap.size, 0, none⟩) 1 1] 41)
          have hB := HP1.out.alloc (by have := HP1.out.size; omega) (.cells #[.slice (some ⟨V0.heap.size, 0, none⟩) 1 1] 41)
          obtain ⟨V2, hV⟩ : ∃ V, V = V1.alloc (.cells #[.slice (some ⟨V0.heap.size, 0, none⟩) 1 1] 41) := ⟨_, rfl⟩
          rw [← hV] at hN hL hB hS ⊢
          have HN1 := Lib.hid hN
          have HL2 := Lib.hid hL
          have HP2 := Lib.hid hB
          have HS2 := Lib.hid (own_grow HS.out hB)
          clear hV hN hL hB
          refine wpAnyF_ready (rs := [5]) (by kernel_rfl) (by simp) ?_
          refine AllReadyF.cons (o := { dst := some 41, op := Go.Op.call { callee := Go.Callee.builtin Go.Builtin.append, args := #[Go.Operand.tmp 37, Go.Operand.tmp 40], argTypes := #[22, 22] }, type := 22, pos := "law.go:41", after := #[{ on := 1, ground := Go.Ground.data }, { on := 4, ground := Go.Ground.data }], guard := none }) rfl (by rfl) (fun K hK => ?_) ?_
          · refine step_app V2 rfl (.tmp 37) (.tmp 40) et_offs rfl (w.heap.size + 3) (.slice A' bs.length cap') bs.length vs' rfl HS2.out (fun _ => True) (.slice (some ⟨V1.heap.size, 0, none⟩) 1 1) 1 [.slice (some ⟨V0.heap.size, 0, none⟩) 1 1] rfl (Sl.blk (sz := 1) HN1.out (Nat.le_refl 1) (by unfold maxLen; omega) rfl) (by simp [Value.oneCell']) (by omega) (by unfold maxLen; omega) (by have := HP2.out.size; omega) ?_
            intro A4 c4 V3 hown hg hloc
            refine hK.out _ _ ?_ (fun hS => ?_)
            · exact hS.grown hg (by have := HP2.out.size; omega) (fun g e => (HS2.out.lt g e).1)
            clear hK K
            try simp only [Act.put, List.setIfInBounds_toArray, List.set_cons_zero, List.set_cons_succ]
            have hfar : ∀ b, b < w.heap.size + 3 → some b ≠ (Value.slice A' bs.length cap').ownBlock := (fun b hb e => by have := (HS2.out.lt b e.symm).1; omega)
            have hyV := (HY2.out.grow HP2.out).grown hg (hfar _ (by omega))
            have hrV := (HRR.out.grow HP2.out).grown hg (hfar _ (by omega))
            have hlV := HL2.out.grown hg (fun e => by have := (HS.out.lt _ e.symm).2; have := HP0.out.size; omega)
            have hrows : ∀ (j : Nat) (l : List Off), bs[j]? = some l → ∃ b cap, vs'[j]? = some (.slice (some ⟨b, 0, none⟩) l.length cap) ∧ V3.ownsRow (w.heap.size + 3) 45 2 (.slice (some ⟨b, 0, none⟩) (l.length + 1) cap) (l.length + 1) (Off.all (l ++ [⟨0, 4242⟩])) ∧ ∀ o ∈ l, o.wf := (fun j l hj => (HO'.out j l hj).elim fun b h => h.elim fun c h => ⟨b, c, h.1, own_far (own_grow h.2.1 HP2.out) hg (fun g e => own_ne HS2.out (own_grow h.2.1 HP2.out) (by decide) e), h.2.2⟩)
            obtain ⟨gb, cb, hform, hgb, hgb2⟩ := World.ownsRow.form hown (by omega)
            injection hform with hA3 _ hc3
            subst hA3 hc3
            obtain ⟨_, A9, _, hv3, hnc3, hcm3, _⟩ := Sl.of_own hown
            injection hv3 with hA9 _ hc3'
            subst hc3' hA9
            have hc31 : ((bs.length : Nat) : Int) ≤ (c4 : Int) := by omega
            have hc30 : (0 : Int) ≤ ((bs.length : Nat) : Int) := by omega
            have yc : V3.cell? ⟨w.heap.size + 1 + 1, 1, none⟩ = some (.slice A' bs.length cap') := hyV.cell 1
            have yf : V3.frozen? ⟨w.heap.size + 1 + 1, 1, none⟩ = false := hyV.frozen 1
            have HYV := Lib.hid hyV
            have HRV := Lib.hid hrV
            have HLV := Lib.hid hlV
            have HROWS := Lib.hid hrows
            have HOV := Lib.hid hown
            have HWV := Lib.hid hS
            clear hyV hrV hlV hrows hg hown hloc hfar
            refine wpAnyF_take (i := 9) (oi := { dst := some 45, op := Go.Op.slice 22 (Go.Operand.tmp 41) none (some (Go.Operand.tmp 44)) none, type := 22, pos := "law.go:41", after := #[{ on := 5, ground := Go.Ground.data }, { on := 8, ground := Go.Ground.data }], guard := none }) (v := ?_) rfl (by kernel_rfl) (by kernel_rfl) (by kernel_rfl) (by kernel_rfl) (fun _ _ _ h => h) (Or.inl ⟨by rfl, ?_⟩) hS ?_
            rotate_left
            · intro w' hSw; have q1 := (hSw.cell (p := ⟨w.heap.size, 1, none⟩) (by simp <;> omega)).trans x1; have q3 : w'.cell? ⟨w.heap.size + 1 + 1, 1, none⟩ = _ := (hSw.cell (p := ⟨w.heap.size + 2, 1, none⟩) (by simp <;> omega)).trans y1; go_simp; try with_reducible rfl
            try simp only [Act.put, List.setIfInBounds_toArray, List.set_cons_zero, List.set_cons_succ]
            refine wpAnyF_take (i := 10) (oi := { dst := some 46, op := Go.Op.fieldAddr 24 (Go.Operand.tmp 3) 1, type := 0, pos := "law.go:41", after := #[{ on := 0, ground := Go.Ground.phase }, { on := 1, ground := Go.Ground.phase }, { on := 2, ground := Go.Ground.phase }, { on := 3, ground := Go.Ground.phase }, { on := 4, ground := Go.Ground.phase }, { on := 5, ground := Go.Ground.phase }, { on := 6, ground := Go.Ground.phase }, { on := 7, ground := Go.Ground.phase }, { on := 8, ground := Go.Ground.phase }, { on := 9, ground := Go.Ground.phase }], guard := none }) (v := ?_) rfl (by kernel_rfl) (by kernel_rfl) (by kernel_rfl) (by kernel_rfl) (fun _ _ _ h => h) (Or.inl ⟨by rfl, ?_⟩) hS ?_
            rotate_left
            · intro w' hSw; have q1 := (hSw.cell (p := ⟨w.heap.size, 1, none⟩) (by simp <;> omega)).trans x1; have q3 : w'.cell? ⟨w.heap.size + 1 + 1, 1, none⟩ = _ := (hSw.cell (p := ⟨w.heap.size + 2, 1, none⟩) (by simp <;> omega)).trans y1; go_simp; try with_reducible rfl
            try simp only [Act.put, List.setIfInBounds_toArray, List.set_cons_zero, List.set_cons_succ]
            refine wpAnyF_ready (rs := [11]) (by kernel_rfl) (by simp) ?_
            refine AllReadyF.fin (o := { dst := none, op := Go.Op.store 22 (Go.Operand.tmp 46) (Go.Operand.tmp 45), type := 0, pos := "law.go:41", after := #[{ on := 10, ground := Go.Ground.data }, { on := 9, ground := Go.Ground.data }, { on := 5, ground := Go.Ground.chain }, { on := 0, ground := Go.Ground.phase }, { on := 1, ground := Go.Ground.phase }, { on := 2, ground := Go.Ground.phase }, { on := 3, ground := Go.Ground.phase }, { on := 4, ground := Go.Ground.phase }, { on := 5, ground := Go.Ground.phase }, { on := 6, ground := Go.Ground.phase }, { on := 7, ground := Go.Ground.phase }, { on := 8, ground := Go.Ground.phase }, { on := 9, ground := Go.Ground.phase }], guard := none }) rfl (by rfl) (fun K hK => ?_) ?_
            · go_simp
              refine hK.out _ _ ?_
              clear hK K
              try simp only [Act.put, List.setIfInBounds_toArray, List.set_cons_zero, List.set_cons_succ]
              refine wpAnyF_done (by kernel_rfl) ?_ _
              clear hS yc yf
              have hy2 : Blk (V3.setCell ⟨w.heap.size + 1 + 1, 1, none⟩ (.slice (some ⟨gb, 0, none⟩) bs.length c4)) (w.heap.size + 1 + 1) 24 #[.int .i64 n, .slice (some ⟨gb, 0, none⟩) bs.length c4] := HYV.out.set_ 1 (.slice (some ⟨gb, 0, none⟩) bs.length c4)
              have hr2 : Blk (V3.setCell ⟨w.heap.size + 1 + 1, 1, none⟩ (.slice (some ⟨gb, 0, none⟩) bs.length c4)) (w.heap.size + 1) 24 #[.int .i64 0, .slice none 0 0] := HRV.out.far (p := ⟨w.heap.size + 1 + 1, 1, none⟩) (by simp) _
              obtain ⟨V4, hV4⟩ : ∃ V, V = V3.setCell ⟨w.heap.size + 1 + 1, 1, none⟩ (.slice (some ⟨gb, 0, none⟩) bs.length c4) := ⟨_, rfl⟩
              have hown4 := own_lo HOV.out (grownBy_setCell V3 ⟨w.heap.size + 1 + 1, 1, none⟩ (.slice (some ⟨gb, 0, none⟩) bs.length c4)) (fun g e => by simp at e; omega)
              have hl4 := HLV.out.far (p := ⟨w.heap.size + 1 + 1, 1, none⟩) (by have := HP0.out.size; simp; omega) (.slice (some ⟨gb, 0, none⟩) bs.length c4)
              have hrows4 : ∀ (j : Nat) (l : List Off), bs[j]? = some l → ∃ b cap, vs'[j]? = some (.slice (some ⟨b, 0, none⟩) l.length cap) ∧ V4.ownsRow (w.heap.size + 3) 45 2 (.slice (some ⟨b, 0, none⟩) (l.length + 1) cap) (l.length + 1) (Off.all (l ++ [⟨0, 4242⟩])) ∧ ∀ o ∈ l, o.wf := fun j l hj => by
                obtain ⟨b, c, h1, h2, h3⟩ := HROWS.out j l hj
                exact ⟨b, c, h1, by rw [hV4]; exact own_lo h2 (grownBy_setCell _ _ _) (fun g e => by simp at e; omega), h3⟩
              have hB4 : Below w.heap.size w V4 := by rw [hV4]; exact (HBW2.out.trans (HWV.out.mono (by omega))).setCell (p := ⟨w.heap.size + 1 + 1, 1, none⟩) (by simp; omega) _
              rw [← hV4] at hy2 hr2 hown4 hl4 ⊢
              have s0 : V4.cell? ⟨w.heap.size + 1 + 1, 0, none⟩ = some (.int .i64 n) := hy2.cell 0
              have s1 : V4.cell? ⟨w.heap.size + 1 + 1, 1, none⟩ = some (.slice (some ⟨gb, 0, none⟩) bs.length c4) := hy2.cell 1
              have r0 : V4.cell? ⟨w.heap.size + 1, 0, none⟩ = some (.int .i64 0) := hr2.cell 0
              have r1 : V4.cell? ⟨w.heap.size + 1, 1, none⟩ = some (.slice none 0 0) := hr2.cell 1
              have rf := hr2.frozen
              have hfin := ((hr2.set_ 0 (.int .i64 n)).set_ 1 (.slice (some ⟨gb, 0, none⟩) bs.length c4))
              have q0 := hfin.cell 0
              have q1 := hfin.cell 1
              simp at q0 q1
              have HOWN4 := Lib.hid hown4
              have HL4 := Lib.hid hl4
              have HROWS4 := Lib.hid hrows4
              have HB4 := Lib.hid hB4
              have hs00 : wr.heap.size ≤ V0.heap.size := HP0.out.size
              have hvl : vs'.length = bs.length := by simpa using HS.out.1
              have HVL := Lib.hid hvl
              clear hy2 hr2 hown4 hl4 hrows4 hB4 hfin hV4 hvl
              go_wp2_with fail
              refine bodyPost_ret (v := .agg #[.int .i64 n, .slice (some ⟨gb, 0, none⟩) bs.length c4]) (by simp [results, Try.results38, go_sem, q0, q1]) rfl ⟨_, rfl, ?_, ?_⟩
              · have far2 : ∀ {e : TypeId} {sz m : Nat} {u : Value} {xs : List Value}, V4.ownsRow (w.heap.size + 3) e sz u m xs → ((V4.setCell ⟨w.heap.size + 1, 0, none⟩ (.int .i64 n)).setCell ⟨w.heap.size + 1, 1, none⟩ (.slice (some ⟨gb, 0, none⟩) bs.length c4)).ownsRow w.heap.size e sz u m xs := fun h => own_mono (own_lo (own_lo h (grownBy_setCell _ ⟨w.heap.size + 1, 0, none⟩ _) (fun g e => by simp at e; omega)) (grownBy_setCell _ ⟨w.heap.size + 1, 1, none⟩ _) (fun g e => by simp at e; omega)) (by omega)
                refine ⟨gb, c4, V0.heap.size, vs', rfl, far2 HOWN4.out, HVL.out, (HL4.out.far (p := ⟨w.heap.size + 1, 0, none⟩) (by simp; omega) _).far (p := ⟨w.heap.size + 1, 1, none⟩) (by simp; omega) _, by omega, fun j l hj => ?_⟩
                obtain ⟨b, c, h1, h2, h3⟩ := HROWS4.out j l hj
                exact ⟨b, c, h1, far2 h2, h3⟩
              · exact (HB4.out.setCell (p := ⟨w.heap.size + 1, 0, none⟩) (by simp) _).setCell (p := ⟨w.heap.size + 1, 1, none⟩) (by simp) _
            exact AllReadyF.nil
          exact AllReadyF.nil
        exact AllReadyF.nil
      exact AllReadyF.nil
end Go.Proofs.Ytcigobiolbojhaa.Vb

/- Law 18's own: kept, over. -/
namespace Go.Proofs.Ytcigobiolbojhaa.Vb
open Go.RowKit

set_option maxRecDepth 100000 in
set_option maxHeartbeats 1600000 in
theorem kept_any (n : Int) (bs : List (List Off)) (vy vx : Value) (lo : Nat) (R : Nat → Prop) (w : World) (hy : Lent w lo vy bs) (hx : Buys w R vx bs) (hsm : Small bs) :
    Calls Try.prog 44 #[.agg #[.int .i64 n, vy], .agg #[.int .i64 n, vx]] w fun e w' => e = .returned (.bool true) ∧ Below w.heap.size w w' := by
  have HGY := Lib.hid hy
  have HGX := Lib.hid hx
  have HSM := Lib.hid hsm.2
  have hlen64 := hsm.1
  obtain ⟨gy, cy, gs, ws, rfl, hsy, hwl, hgs, _, hwy⟩ := hy
  obtain ⟨vs, ⟨hlen, A, cap, rfl, hncap, hcap, hcells⟩, hvs⟩ := hx
  obtain ⟨_, _, _, hv9, hnc9, hcm9, _⟩ := Sl.of_own hsy
  injection hv9 with hA9 _ hc9
  subst hA9 hc9
  unfold maxLen at hcap hcm9
  have hgylt := (hsy.lt gy rfl).2
  have hgslt := hgs.lt
  have hlast := hsy.cellAt bs.length (by omega)
  rw [List.getElem?_append_right (by omega), hwl, Nat.sub_self] at hlast
  have hlast : w.cell? ⟨gy, bs.length, none⟩ = some (.slice (some ⟨gs, 0, none⟩) 1 1) := hlast
  have hg1 : w.cell? ⟨gs, 1, none⟩ = some (.int .i64 4243) := hgs.cell 1
  have HLAST := Lib.hid hlast
  have HG1 := Lib.hid hg1
  have HC := Lib.hid hcells
  have HC' := Lib.hid hsy
  have HV := Lib.hid hvs
  have HV' := Lib.hid hwy
  have HWL := Lib.hid hwl
  clear hcells hvs hwy hlen hsy hsm hlast hg1 hgs hwl
  go_enter Try.func44, Try.ntmps44
  go_wp2
  go_loopw [5] (fun i wr => ∃ k : Nat, k ≤ bs.length ∧ i = .int .i64 k ∧ Below (w.heap.size + 2) ((w.alloc (.cells #[.int .i64 n, .slice (some ⟨gy, 0, none⟩) bs.length cy] 24)).alloc (.cells #[.int .i64 n, .slice A bs.length cap] 24)) wr) (fun i _ => bs.length - (intOf i).toNat)
  case atStart => exact ⟨0, Nat.zero_le _, rfl, Below.refl _ _⟩
  case round =>
    obtain ⟨k, hk, rfl, hb⟩ := hrel
    obtain ⟨cx0, cx1, cy0, cy1, fx, fy, hs, hbw⟩ := two_new hb
    have HB := Lib.hid hb
    have HBW := Lib.hid hbw
    by_cases hlt : k < bs.length
    · obtain ⟨bb, off, rfl, _, hbb, hcs⟩ := HC.out (by omega)
      obtain ⟨l, ho⟩ : ∃ l, bs[k]? = some l := ⟨_, List.getElem?_eq_getElem hlt⟩
      have hll := HSM.out l (List.mem_of_getElem? ho)
      obtain ⟨u, hu, hol⟩ := HV.out k l ho
      obtain ⟨gb, gc, hgu, hgo, hgw⟩ := HV'.out k l ho
      have c0 := (hbw.cell hbb).trans (hcs _ _ hu)
      have d1 := HC'.out.cellAt k (by omega)
      rw [List.getElem?_append_left (by rw [HWL.out]; exact hlt), hgu] at d1
      have d0 := (hbw.cell (p := ⟨gy, k, none⟩) hgylt).trans d1
      obtain ⟨⟨_, A1, cap1, rfl, _⟩, _⟩ := hol
      obtain ⟨_, _, _, hv1, hnc1, hcm1, hcc1⟩ := Sl.of_own hgo
      injection hv1 with hA1 _ hc1
      subst hA1 hc1
      obtain ⟨b1, o1, hb1, _, hlt1, hcc⟩ := hcc1 (by omega)
      injection hb1 with hb1
      injection hb1 with hb1 ho1 _
      subst hb1 ho1
      have h77 : (Off.all (l ++ [⟨0, 4242⟩]))[l.length * 2 + 1]? = some (.int .i64 4242) := Off.all_snd (l ++ [⟨0, 4242⟩]) l.length ⟨0, 4242⟩ (by simp)
      have g77 := (hbw.cell (p := ⟨gb, 0 + (l.length * 2 + 1), none⟩) hlt1).trans (hcc _ _ h77)
      have hwr : IntKind.i64.wrap ((l.length : Int) + 1) = l.length + 1 := IntWalk.i64_in _ (by omega)
      have hn0 : (0 : Int) ≤ (l.length : Int) := by omega
      have hn1 : (l.length : Int) + 1 ≤ (gc : Int) := by omega
      have hn2 : (0 : Int) ≤ (l.length : Int) + 1 := by omega
      have hn3 : ((l.length : Int) + 1).toNat = l.length + 1 := by omega
      have hn4 : (l.length : Int) < ((l.length + 1 : Nat) : Int) := by omega
      rw [Nat.zero_add] at g77
      clear hcs hu hgu hgo ho hcc hcc1 h77 hb hbw hgw d1
      go_wp2_with fail
      go_quiet (fail)
      go_wp2_with fail
      go_roundw
      case rel =>
        exact ⟨k + 1, by omega, by go_num, below_drewN HB.out _⟩
      case measure => simp [intOf]; omega
    · clear hb hbw
      go_wp2_with (go_at_call 83; refine (refSameInst_true n bs _ _ _ _ _ (HGY.out.buys.grow HBW.out) (HGX.out.grow HBW.out)).mono ?_; rintro e w1 ⟨rfl, hb1⟩; obtain ⟨c1, d1, k1, k2⟩ : w1.cell? ⟨w.heap.size, 1, none⟩ = some (.slice (some ⟨gy, 0, none⟩) bs.length cy) ∧ w1.cell? ⟨w.heap.size + 1, 1, none⟩ = some (.slice A bs.length cap) ∧ w1.cell? ⟨gy, bs.length, none⟩ = some (.slice (some ⟨gs, 0, none⟩) 1 1) ∧ w1.cell? ⟨gs, 1, none⟩ = some (.int .i64 4243) := ⟨(hb1.cell (p := ⟨w.heap.size, 1, none⟩) (by simp; omega)).trans cx1, (hb1.cell (p := ⟨w.heap.size + 1, 1, none⟩) (by simp; omega)).trans cy1, (hb1.cell (p := ⟨gy, bs.length, none⟩) (by simp; omega)).trans ((HBW.out.cell (p := ⟨gy, bs.length, none⟩) hgylt).trans HLAST.out), (hb1.cell (p := ⟨gs, 1, none⟩) (by simp; omega)).trans ((HBW.out.cell (p := ⟨gs, 1, none⟩) hgslt).trans HG1.out)⟩; have HB1 := Lib.hid (HBW.out.trans (hb1.mono HBW.out.size)); clear hb1)
      have hwr : IntKind.i64.wrap ((bs.length : Int) + 1) = bs.length + 1 := IntWalk.i64_in _ (by omega)
      have hn0 : (0 : Int) ≤ (bs.length : Int) := by omega
      have hn1 : (bs.length : Int) + 1 ≤ (cy : Int) := by omega
      have hn2 : (0 : Int) ≤ (bs.length : Int) + 1 := by omega
      have hn3 : ((bs.length : Int) + 1).toNat = bs.length + 1 := by omega
      have hn4 : (bs.length : Int) < ((bs.length + 1 : Nat) : Int) := by omega
      go_quiet (fail)
      go_wp2_with fail
      go_ret
      exact ⟨rfl, below_drewN HB1.out _⟩
end Go.Proofs.Ytcigobiolbojhaa.Vb

/- Law 18's own: large, total. -/
namespace Go.Proofs.Ytcigobiolbojhaa.Vb
open Go.RowKit

def largeB (bs : List (List Off)) : Bool := (bs.take 41).any (fun l => decide (20 < l.length)) || decide (40 < bs.length)
theorem largeB_of {bs : List (List Off)} {k : Nat} {l : List Off} (h : bs[k]? = some l) (hk : k < 41) (hl : 20 < l.length) : largeB bs = true := by
  unfold largeB
  rw [List.any_eq_true.2 ⟨l, List.mem_of_getElem? (i := k) (by rw [List.getElem?_take, if_pos hk]; exact h), by simpa using hl⟩]
  rfl
theorem largeB_none {bs : List (List Off)} (h : ∀ j l, j < min bs.length 41 → bs[j]? = some l → ¬ 20 < l.length) : largeB bs = decide (40 < bs.length) := by
  unfold largeB
  have : (bs.take 41).any (fun l => decide (20 < l.length)) = false := by
    rw [List.any_eq_false]
    intro l hl
    obtain ⟨j, hj, rfl⟩ := List.getElem_of_mem hl
    rw [List.length_take] at hj
    rw [List.getElem_take]
    simpa using h j _ (by omega) (List.getElem?_eq_getElem (by omega))
  rw [this]
  rfl
theorem largeB_small {bs : List (List Off)} (h : largeB bs = false) : bs.length ≤ 40 ∧ ∀ l ∈ bs, l.length ≤ 20 := by
  unfold largeB at h
  rw [Bool.or_eq_false_iff] at h
  obtain ⟨h1, h2⟩ := h
  have h2 : bs.length ≤ 40 := by simpa using h2
  refine ⟨h2, fun l hl => ?_⟩
  rw [List.any_eq_false] at h1
  rw [List.take_of_length_le (by omega)] at h1
  simpa using h1 l hl

set_option maxHeartbeats 800000 in
theorem large_any (n : Int) (bs : List (List Off)) (v : Value) (R : Nat → Prop) (w : World) (hl : Buys w R v bs) :
    Calls Try.prog 36 #[.agg #[.int .i64 n, v]] w fun e w' => e = .returned (.bool (largeB bs)) ∧ Below w.heap.size w w' := by
  obtain ⟨vs, ⟨hlen, A, cap, rfl, hncap, hcap, hcells⟩, hvs⟩ := id hl
  unfold maxLen at hcap
  have hnl : bs.length ≤ 9223372036854775807 := by omega
  have HC := Lib.hid hcells
  have HV := Lib.hid hvs
  clear hl hcells hvs hlen
  go_enter Try.func36, Try.ntmps36
  go_wp2
  go_loop [3] (fun i => ∃ k : Nat, k ≤ min bs.length 41 ∧ i = .int .i64 k ∧ ∀ j l, j < k → bs[j]? = some l → ¬ 20 < l.length) (fun i => bs.length - (intOf i).toNat)
  case atStart => exact ⟨0, Nat.zero_le _, rfl, fun j x hj => by omega⟩
  case round =>
    obtain ⟨k, hk, rfl, hno⟩ := hrel
    have HN := Lib.hid hno
    clear hno
    by_cases hlt : k < bs.length
    · by_cases h41 : k < 41
      · obtain ⟨bb, off, rfl, _, hbb, hcs⟩ := HC.out (by omega)
        obtain ⟨l, ho⟩ : ∃ l, bs[k]? = some l := ⟨_, List.getElem?_eq_getElem hlt⟩
        obtain ⟨u, hu, hol⟩ := HV.out k l ho
        have c0 := cellAlloc (hcs _ _ hu)
        obtain ⟨⟨_, A', cap', rfl, _⟩, _⟩ := hol
        clear hcs hu
        have HO := Lib.hid ho
        clear ho
        by_cases h8 : 20 < l.length
        · have h8' := Lib.hid h8
          go_wp2
          go_ret
          rw [largeB_of HO.out h41 h8'.out]
          exact ⟨rfl, (Below.refl _ _).alloc (Nat.le_refl _) _⟩
        · have h8' := Lib.hid h8
          go_wp2
          go_round
          case rel =>
            refine ⟨k + 1, by omega, by go_num, fun j x hj hx => ?_⟩
            by_cases hjk : j < k
            · exact HN.out j x hjk hx
            · obtain rfl : j = k := by omega
              rw [HO.out] at hx
              cases hx
              exact h8'.out
          case measure => simp [intOf]; omega
      · have hg := largeB_none (bs := bs) (fun j l hj => HN.out j l (by omega))
        have HG := Lib.hid hg
        clear hg
        go_wp2
        go_ret
        refine ⟨ret_bool ?_, (Below.refl _ _).alloc (Nat.le_refl _) _⟩
        rw [HG.out, Bool.eq_iff_iff]
        simp
        omega
    · have hg := largeB_none (bs := bs) (fun j l hj => HN.out j l (by omega))
      have HG := Lib.hid hg
      clear hg
      go_wp2
      go_ret
      refine ⟨ret_bool ?_, (Below.refl _ _).alloc (Nat.le_refl _) _⟩
      rw [HG.out, Bool.eq_iff_iff]
      simp
      omega
end Go.Proofs.Ytcigobiolbojhaa.Vb

/- Law 18's own: small, known. -/
namespace Go.Proofs.Ytcigobiolbojhaa.Vb
open Go.RowKit

theorem same18_true (cs : List Int) (ca cb : Value) (R1 R2 : Nat → Prop) (w : World) (h1 : Sl w R1 ca cs.length 1 (ints cs)) (h2 : Sl w R2 cb cs.length 1 (ints cs)) :
    Calls Try.prog 43 #[ca, cb] w fun e w' => e = .returned (.bool true) ∧ Below w.heap.size w w' := by
  obtain ⟨_, A1, c1, rfl, hn1, hc1, hs1⟩ := h1
  obtain ⟨_, A2, c2, rfl, hn2, hc2, hs2⟩ := h2
  unfold maxLen at hc1 hc2
  have H1 := Lib.hid hs1
  have H2 := Lib.hid hs2
  clear hs1 hs2
  go_enter Try.func43, Try.ntmps43
  go_wp2
  go_loopw [5] (fun i wr => ∃ k : Nat, k ≤ cs.length ∧ i = .int .i64 k ∧ Below w.heap.size w wr) (fun i _ => cs.length - (intOf i).toNat)
  case atStart => exact ⟨0, Nat.zero_le _, rfl, Below.refl _ _⟩
  case round =>
    obtain ⟨k, hk, rfl, hb⟩ := hrel
    by_cases hlt : k < cs.length
    · obtain ⟨c, hc⟩ : ∃ c, cs[k]? = some c := ⟨_, List.getElem?_eq_getElem hlt⟩
      obtain ⟨b1, o1, rfl, _, hb1, hx1⟩ := H1.out (by omega)
      obtain ⟨b2, o2, rfl, _, hb2, hx2⟩ := H2.out (by omega)
      have e1 := (hb.cell hb1).trans (hx1 _ _ (ints_get hc))
      have e2 := (hb.cell hb2).trans (hx2 _ _ (ints_get hc))
      have HB := Lib.hid hb
      clear hx1 hx2 hb hc
      go_wp2_with fail
      go_quiet (fail)
      go_wp2_with fail
      go_roundw
      case rel => exact ⟨k + 1, by omega, by go_num, below_drewN HB.out _⟩
      case measure => simp [intOf]; omega
    · have HB := Lib.hid hb
      clear hb
      go_wp2_with fail
      go_ret
      exact ⟨rfl, HB.out⟩

def bsS : List (List Off) := [[⟨1, 10⟩], [⟨2, 10⟩], [⟨3, 10⟩]]

theorem small_buys {w : World} {g g1 g2 g3 : Nat} {t u : TypeId} (h1 : Blk w g1 t #[.int .u32 1, .int .i64 10]) (h2 : Blk w g2 t #[.int .u32 2, .int .i64 10]) (h3 : Blk w g3 t #[.int .u32 3, .int .i64 10])
    (h : Blk w g u #[.slice (some ⟨g1, 0, none⟩) 1 1, .slice (some ⟨g2, 0, none⟩) 1 1, .slice (some ⟨g3, 0, none⟩) 1 1]) : Buys w (fun _ => True) (.slice (some ⟨g, 0, none⟩) 3 3) bsS := by
  refine ⟨_, Sl.blk (sz := 1) h (by omega) (by unfold maxLen; omega) rfl, fun k l hk => ?_⟩
  rcases k with _ | _ | _ | k
  · obtain rfl : [⟨1, 10⟩] = l := by simpa [bsS] using hk
    exact ⟨_, rfl, Sl.blk (sz := 2) h1 (by omega) (by unfold maxLen; omega) rfl, fun o ho => by simp at ho; subst ho; simp [Off.wf]⟩
  · obtain rfl : [⟨2, 10⟩] = l := by simpa [bsS] using hk
    exact ⟨_, rfl, Sl.blk (sz := 2) h2 (by omega) (by unfold maxLen; omega) rfl, fun o ho => by simp at ho; subst ho; simp [Off.wf]⟩
  · obtain rfl : [⟨3, 10⟩] = l := by simpa [bsS] using hk
    exact ⟨_, rfl, Sl.blk (sz := 2) h3 (by omega) (by unfold maxLen; omega) rfl, fun o ho => by simp at ho; subst ho; simp [Off.wf]⟩
  · simp [bsS] at hk

set_option maxHeartbeats 800000 in
theorem small_any (w : World) :
    Calls Try.prog 92 #[] w fun e w' => ∃ A cap, e = .returned (.agg #[.int .i64 2, .slice A 3 cap]) ∧ Buys w' (fun _ => True) (.slice A 3 cap) bsS ∧ Below w.heap.size w w' := by
  go_enter Try.func92, Try.ntmps92
  go_wp2
  refine bodyPost_ret (v := .agg #[.int .i64 2, .slice (some ⟨w.heap.size + 1 + 1 + 1 + 1, 0, none⟩) 3 3]) (by simp [results, Try.results92, go_sem]) rfl ⟨_, _, rfl, small_buys (((Blk.new' _ _ (by simp)).alloc _).alloc _ |>.alloc _) (((Blk.new' _ _ (by simp)).alloc _).alloc _) ((Blk.new' _ _ (by simp)).alloc _) (Blk.new' _ _ (by simp)), ?_⟩
  exact (((((Below.refl _ _).alloc (Nat.le_refl _) _).alloc (by simp) _).alloc (by simp; omega) _).alloc (by simp; omega) _).alloc (by simp; omega) _

theorem bsS_inst : instE 2 bsS = 0 := by decide
theorem bsS_pay : payTo 2 bsS 3 = [0, 10, 0] := by decide +kernel
theorem bsS_ask0 : askE 2 bsS [0, 0, 0] = 0 := by decide +kernel
theorem bsS_blockB : blockB 2 bsS [0, 0, 0] = true := by decide +kernel
theorem bsS_blockL : blockL 2 bsS [0, 0, 0] = [2] := by decide +kernel
theorem bsS_blockM : blockM 2 bsS [0, 0, 0] = 10 := by decide +kernel
theorem bsS_least : leastV 2 bsS [9, 6, 0] 0 = 4 := by decide +kernel
theorem bsS_leastE : leastE 2 bsS [9, 6, 0] 0 = 0 := by decide +kernel
end Go.Proofs.Ytcigobiolbojhaa.Vb

/- Law 18's own: known. -/
namespace Go.Proofs.Ytcigobiolbojhaa.Vb
open Go.RowKit

set_option maxRecDepth 100000 in
set_option maxHeartbeats 1600000 in
theorem known_any (w : World) : Calls Try.prog 37 #[] w fun e w' => e = .returned (.bool true) ∧ Below w.heap.size w w' := by
  have hz3 : ∀ (W : World) (a b c : Int), Sl (W.alloc (.cells #[.int .i64 a, .int .i64 b, .int .i64 c] 2)) (fun _ => True) (.slice (some ⟨W.heap.size, 0, none⟩) 3 3) [a, b, c].length 1 (ints [a, b, c]) := fun W a b c => Sl.blk (Blk.new W _ _) (by omega) (by unfold maxLen; omega) rfl
  go_enter Try.func37, Try.ntmps37
  go_wp2_with fail
  refine (small_any w).mono ?_
  rintro e w1 ⟨T1, k1, rfl, ht1, hb1⟩
  have HT1 := Lib.hid ht1
  have HB1 := Lib.hid hb1
  clear hb1 ht1
  go_wp2_with fail
  refine (corePay_ok 2 bsS _ _ _ HT1.out bsS_inst).mono ?_
  rintro e w2 ⟨AP, kP, rfl, hown, hb2⟩
  have hown : w2.ownsRow w1.heap.size 2 1 (.slice AP 3 kP) 3 (ints [0, 10, 0]) := by rw [← bsS_pay]; exact hown
  have HP2 := Lib.hid hown
  have HB2 := Lib.hid (HB1.out.trans (hb2.mono HB1.out.size))
  clear hb2 hown
  go_wp2_with fail
  refine (small_any w2).mono ?_
  rintro e w3 ⟨T3, k3, rfl, ht3, hb3⟩
  have HT3 := Lib.hid ht3
  have HP3 := Lib.hid (own_grow HP2.out hb3)
  have HB3 := Lib.hid (HB2.out.trans (hb3.mono HB2.out.size))
  clear hb3 ht3
  go_wp2_with fail
  refine (coreBlocks_ok 2 bsS _ _ _ [0, 0, 0] _ _ (HT3.out.alloc _) (hz3 w3 0 0 0) bsS_ask0).mono ?_
  rintro e w4 ⟨A4, k4, rfl, hown4, hb4⟩
  rw [bsS_blockL] at hown4 ⊢
  rw [bsS_blockM, bsS_blockB, bsS_ask0]
  obtain ⟨g, rfl, _, _, _, _, _⟩ := own_some hown4 (by decide)
  have HO4 := Lib.hid hown4
  have HP4 := Lib.hid (own_grow (own_alloc HP3.out _) hb4)
  have HB4 := Lib.hid ((HB3.out.alloc HB3.out.size _).trans (hb4.mono (by have := HB3.out.size; simp; omega)))
  clear hb4 hown4
  go_wp2_with fail
  obtain ⟨w5, hw5⟩ : ∃ V, V = w4.alloc (.cells #[.slice (some ⟨g, 0, none⟩) 1 k4, .int .i64 10] 85) := ⟨_, rfl⟩
  have HQ5 := Lib.hid (show Blk w5 w4.heap.size 85 #[.slice (some ⟨g, 0, none⟩) 1 k4, .int .i64 10] from by rw [hw5]; exact Blk.new w4 _ _)
  have HO5 := Lib.hid (show w5.ownsRow (w3.alloc (.cells #[.int .i64 0, .int .i64 0, .int .i64 0] 2)).heap.size 3 1 (.slice (some ⟨g, 0, none⟩) 1 k4) 1 (ints [2]) from by rw [hw5]; exact own_alloc HO4.out _)
  have HP5 := Lib.hid (show w5.ownsRow w1.heap.size 2 1 (.slice AP 3 kP) 3 (ints [0, 10, 0]) from by rw [hw5]; exact own_alloc HP4.out _)
  have HB5 := Lib.hid (show Below w.heap.size w w5 from by rw [hw5]; exact HB4.out.alloc HB4.out.size _)
  rw [← hw5]
  clear hw5
  refine (small_any w5).mono ?_
  rintro e w6 ⟨T6, k6, rfl, ht6, hb6⟩
  have HT6 := Lib.hid ht6
  have HQ6 := Lib.hid (HQ5.out.grow hb6)
  have HO6 := Lib.hid (own_grow HO5.out hb6)
  have HP6 := Lib.hid (own_grow HP5.out hb6)
  have HB6 := Lib.hid (HB5.out.trans (hb6.mono HB5.out.size))
  clear hb6 ht6
  go_wp2_with fail
  refine (coreLeast_any 2 bsS _ _ _ [9, 6, 0] _ 0 _ (HT6.out.alloc _) (hz3 w6 9 6 0)).mono ?_
  rintro e w7 ⟨rfl, hb7⟩
  rw [bsS_least, bsS_leastE]
  have hbs := (Below.refl w6.heap.size w6).alloc (Nat.le_refl _) (.cells #[.int .i64 9, .int .i64 6, .int .i64 0] 2)
  have hQ7 := (HQ6.out.grow hbs).grow hb7
  have hO7 := own_grow (own_grow HO6.out hbs) hb7
  have hP7 := own_grow (own_grow HP6.out hbs) hb7
  have hB7 := (HB6.out.trans (hbs.mono HB6.out.size)).trans (hb7.mono (by have := HB6.out.size; simp; omega))
  have hal := (Below.refl w7.heap.size w7).alloc (Nat.le_refl _) (.cells #[.int .i64 0, .int .i64 10, .int .i64 0] 2)
  have HQ7 := Lib.hid (hQ7.grow hal)
  have HO7 := Lib.hid (own_grow hO7 hal)
  have HP7 := Lib.hid (own_grow hP7 hal)
  have HB7 := Lib.hid (hB7.trans (hal.mono hB7.size))
  clear hbs hQ7 hO7 hP7 hB7 hal hb7
  go_wp2_with (go_at_call 43; refine (same18_true [0, 10, 0] _ _ _ _ _ (Sl.of_own HP7.out) (hz3 w7 0 10 0)).mono ?_; rintro e w8 ⟨rfl, hb8⟩; obtain ⟨q0, q1, o0⟩ : w8.cell? ⟨w4.heap.size, 0, none⟩ = some (.slice (some ⟨g, 0, none⟩) 1 k4) ∧ w8.cell? ⟨w4.heap.size, 1, none⟩ = some (.int .i64 10) ∧ w8.cell? ⟨g, 0, none⟩ = some (.int .i64 2) := ⟨(HQ7.out.grow hb8).cell 0, (HQ7.out.grow hb8).cell 1, (own_grow HO7.out hb8).cellAt 0 (by decide)⟩; have HB8 := Lib.hid (HB7.out.trans (hb8.mono HB7.out.size)); clear hb8)
  go_ret
  exact ⟨rfl, HB8.out⟩
end Go.Proofs.Ytcigobiolbojhaa.Vb

/- Law 18: what CoreAsks needs. -/
namespace Go.Proofs.Ytcigobiolbojhaa.Vb
open Go.RowKit

theorem coreBlocks_all (n : Int) (bs : List (List Off)) (v : Value) (R Rp : Nat → Prop) (pay : List Int) (vp : Value) (w : World) (hl : Buys w R v bs) (hp : Sl w Rp vp pay.length 1 (ints pay)) :
    Calls Try.prog 46 #[.agg #[.int .i64 n, v], vp] w (BlocksPost n bs pay w) := by
  by_cases he : askE n bs pay = 0
  · exact coreBlocks_ok n bs v R Rp pay vp w hl hp he
  · exact coreBlocks_err n bs v R Rp pay vp w hl hp he
theorem refBlocks_all (n : Int) (bs : List (List Off)) (v : Value) (R Rp : Nat → Prop) (pay : List Int) (vp : Value) (w : World) (hl : Buys w R v bs) (hp : Sl w Rp vp pay.length 1 (ints pay)) :
    Calls Try.prog 50 #[.agg #[.int .i64 n, v], vp] w (BlocksPost n bs pay w) := by
  by_cases he : askE n bs pay = 0
  · exact refBlocks_ok n bs v R Rp pay vp w hl hp he
  · exact refBlocks_err n bs v R Rp pay vp w hl hp he
def lowA (n : Int) (bs : List (List Off)) (pay : List Int) : List (List Off) := if askE n bs pay = 0 then lowB n bs pay else []
def lowN (n : Int) (bs : List (List Off)) (pay : List Int) : Int := if askE n bs pay = 0 then n else 0
theorem lowA_small {n : Int} {bs : List (List Off)} {pay : List Int} (h : Small bs) : Small (lowA n bs pay) := by
  unfold lowA
  split
  · refine ⟨by rw [lowB_length]; exact h.1, fun l hl => ?_⟩
    obtain ⟨k, hk, rfl⟩ := List.getElem_of_mem hl
    have hkb : k < bs.length := by rwa [lowB_length] at hk
    simp only [lowB, List.getElem_mapIdx]
    exact Nat.le_trans (lowL_len _ _) (h.2 _ (List.getElem_mem hkb))
  · exact ⟨by simp, fun l hl => by simp at hl⟩
theorem coreLowered_all (n : Int) (bs : List (List Off)) (v : Value) (R Rp : Nat → Prop) (pay : List Int) (vp : Value) (w : World) (hl : Buys w R v bs) (hp : Sl w Rp vp pay.length 1 (ints pay)) :
    Calls Try.prog 54 #[.agg #[.int .i64 n, v], vp] w fun e w' => ∃ A' cap', e = .returned (.tuple #[.agg #[.int .i64 (lowN n bs pay), .slice A' (lowA n bs pay).length cap'], .int .i64 (askE n bs pay)]) ∧ Buys w' (fun _ => True) (.slice A' (lowA n bs pay).length cap') (lowA n bs pay) ∧ Below w.heap.size w w' := by
  by_cases he : askE n bs pay = 0
  · refine (coreLowered_ok n bs v R Rp pay vp w hl hp he).mono ?_
    rintro e w' ⟨A', c', rfl, h1, h2⟩
    have ha : lowA n bs pay = lowB n bs pay := by unfold lowA; rw [if_pos he]
    have hn : lowN n bs pay = n := by unfold lowN; rw [if_pos he]
    rw [ha, hn, lowB_length, he]
    exact ⟨A', c', rfl, h1.buys.any, h2⟩
  · refine (coreLowered_err n bs v R Rp pay vp w hl hp he).mono ?_
    rintro e w' ⟨rfl, h2⟩
    have ha : lowA n bs pay = [] := by unfold lowA; rw [if_neg he]
    have hn : lowN n bs pay = 0 := by unfold lowN; rw [if_neg he]
    rw [ha, hn]
    exact ⟨none, 0, rfl, ⟨[], ⟨rfl, none, 0, rfl, Nat.le_refl _, Nat.zero_le _, fun h => absurd h (by simp)⟩, fun k l hk => by simp at hk⟩, h2⟩
theorem blockL_len {n : Int} {bs : List (List Off)} {pay : List Int} : (blockL n bs pay).length ≤ bs.length := by
  unfold blockL
  split
  · exact whoTo_len _ _
  · simp
/-- numbers with one mark behind -/
theorem sl_front {w : World} {lo g n cap : Nat} {ps : List Int} {e : TypeId} (h : w.ownsRow lo e 1 (.slice (some ⟨g, 0, none⟩) (n + 1) cap) (n + 1) (ints (ps ++ [4242]))) (hn : ps.length = n) : Sl w (fun _ => True) (.slice (some ⟨g, 0, none⟩) n cap) n 1 (ints ps) := by
  obtain ⟨_, A, c, hv, hnc, hcm, hcs⟩ := Sl.of_own h
  injection hv with hA _ hc
  subst hA hc
  refine ⟨by simp [ints, hn], _, _, rfl, by omega, hcm, fun h0 => ?_⟩
  obtain ⟨b', off, e, _, hlt, hcell⟩ := hcs (by omega)
  refine ⟨b', off, e, trivial, hlt, fun j u hj => hcell j u ?_⟩
  have : ints (ps ++ [4242]) = ints ps ++ [.int .i64 4242] := by simp [ints]
  rw [this, List.getElem?_append_left (List.getElem?_eq_some_iff.1 hj).1]
  exact hj
end Go.Proofs.Ytcigobiolbojhaa.Vb

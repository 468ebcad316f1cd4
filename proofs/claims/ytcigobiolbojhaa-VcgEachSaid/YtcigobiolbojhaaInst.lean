/- offers.Instance. -/
import Derived.Test.YtcigobiolbojhaaCheck
namespace Go.Proofs.Ytcigobiolbojhaa.Vb
open Go.RowKit

/-- The slice v reads as the buyers' lists bs. -/
def Buys (w : World) (R : Nat → Prop) (v : Value) (bs : List (List Off)) : Prop :=
  ∃ vs : List Value, Sl w R v bs.length 1 vs ∧ ∀ (k : Nat) (l : List Off), bs[k]? = some l → ∃ u, vs[k]? = some u ∧ Offs w R u l

theorem Buys.grow {w w' : World} {R : Nat → Prop} {v : Value} {bs : List (List Off)} (h : Buys w R v bs) (hb : Below w.heap.size w w') : Buys w' R v bs := by
  obtain ⟨vs, hs, ho⟩ := h
  exact ⟨vs, hs.grow hb, fun k l hk => let ⟨u, hu, hl⟩ := ho k l hk; ⟨u, hu, hl.grow hb⟩⟩
theorem Buys.drew {w : World} {R : Nat → Prop} {v : Value} {bs : List (List Off)} (h : Buys w R v bs) : Buys w.drew R v bs := h
theorem Buys.alloc {w : World} {R : Nat → Prop} {v : Value} {bs : List (List Off)} (h : Buys w R v bs) (o : Obj) : Buys (w.alloc o) R v bs := by
  obtain ⟨vs, hs, ho⟩ := h
  exact ⟨vs, hs.alloc o, fun k l hk => let ⟨u, hu, hl⟩ := ho k l hk; ⟨u, hu, hl.alloc o⟩⟩

def longB (l : List Off) : Bool := decide (8 < l.length)
def longAt : List (List Off) → Option Nat
  | [] => none
  | l :: bs => if longB l then some 0 else (longAt bs).map (· + 1)
def longInt (bs : List (List Off)) : Int := match longAt bs with | some k => k | none => -1

theorem longAt_none : ∀ bs : List (List Off), (∀ l ∈ bs, longB l = false) → longAt bs = none
  | [], _ => rfl
  | o :: l, h => by simp [longAt, h o (by simp), longAt_none l (fun x hx => h x (by simp [hx]))]
theorem longAt_some : ∀ (bs : List (List Off)) (k : Nat) (l : List Off), bs[k]? = some l → longB l = true → (∀ j x, j < k → bs[j]? = some x → longB x = false) → longAt bs = some k
  | [], k, o, h, _, _ => by simp at h
  | x :: l, 0, o, h, hb, _ => by simp at h; subst h; simp [longAt, hb]
  | x :: l, k + 1, o, h, hb, hn => by
    have h0 := hn 0 x (by omega) rfl
    have := longAt_some l k o (by simpa using h) hb (fun j y hj hy => hn (j + 1) y (by omega) (by simpa using hy))
    simp [longAt, h0, this]

set_option maxHeartbeats 400000 in
theorem long_any (A : Option Addr) (n c : Nat) (w : World) :
    Calls Try.prog 146 #[.slice A n c] w fun e w' => e = .returned (.bool (decide (8 < n))) ∧ w = w' := by
  go_enter Try.func146, Try.ntmps146
  go_wp2
  go_ret
  exact ⟨ret_bool (by rw [Bool.eq_iff_iff]; simp; omega), rfl⟩

set_option maxHeartbeats 400000 in
theorem indexLong_any (bs : List (List Off)) (v : Value) (R : Nat → Prop) (w : World) (hl : Buys w R v bs) :
    Calls Try.prog 166 #[v, .func (.func 146) #[] #[]] w fun e w' => e = .returned (.int .i64 (longInt bs)) ∧ w = w' := by
  obtain ⟨vs, ⟨hlen, A, cap, rfl, hncap, hcap, hcells⟩, hvs⟩ := hl
  unfold maxLen at hcap
  have hn : bs.length ≤ 9223372036854775807 := by omega
  have HC := Lib.hid hcells
  have HL := Lib.hid hlen
  have HV := Lib.hid hvs
  clear hcells hlen hvs
  go_enter Try.func166, Try.ntmps166
  go_wp2
  go_loop [8] (fun i => ∃ k : Nat, k ≤ bs.length ∧ i = .int .i64 k ∧ ∀ j x, j < k → bs[j]? = some x → longB x = false) (fun i => bs.length - (intOf i).toNat)
  case atStart => exact ⟨0, Nat.zero_le _, rfl, fun j x hj => by omega⟩
  case round =>
    obtain ⟨k, hk, rfl, hno⟩ := hrel
    have HN := Lib.hid hno
    clear hno
    by_cases hlt : k < bs.length
    · obtain ⟨bb, off, rfl, _, hbb, hcs⟩ := HC.out (by omega)
      obtain ⟨l, ho⟩ : ∃ l, bs[k]? = some l := ⟨_, List.getElem?_eq_getElem hlt⟩
      obtain ⟨u, hu, ⟨_, A', cap', rfl, _⟩, _⟩ := HV.out k l ho
      have c0 := hcs _ _ hu
      clear hcs hu
      have HO := Lib.hid ho
      clear ho
      go_wp2_with (go_at_call 146; refine (long_any _ _ _ _).mono ?_; rintro e w1 ⟨rfl, rfl⟩)
      · go_ret
        have hbad : longB l = true := by unfold longB; simp; assumption
        refine ⟨ret_int ?_, rfl⟩
        unfold longInt
        rw [longAt_some bs k l HO.out hbad HN.out]
      · have hbad : longB l = false := by unfold longB; simp; omega
        go_round
        case rel =>
          refine ⟨k + 1, by omega, by go_num, fun j x hj hx => ?_⟩
          by_cases hjk : j < k
          · exact HN.out j x hjk hx
          · obtain rfl : j = k := by omega
            rw [HO.out] at hx
            cases hx
            exact hbad
        case measure => simp [intOf]; omega
    · go_wp2
      go_ret
      refine ⟨ret_int ?_, rfl⟩
      unfold longInt
      rw [longAt_none bs (fun o ho => ?_)]
      obtain ⟨j, hj, rfl⟩ := List.getElem_of_mem ho
      exact HN.out j _ (by omega) (List.getElem?_eq_getElem hj)

theorem longInt_ge (bs : List (List Off)) : decide (0 ≤ longInt bs) = bs.any longB := by
  have h : ∀ bs : List (List Off), (longAt bs).isSome = bs.any longB := by
    intro bs
    induction bs with
    | nil => rfl
    | cons l bs ih => by_cases h : longB l = true <;> simp [longAt, h, ih]
  rw [← h, Bool.eq_iff_iff]
  unfold longInt
  cases longAt bs <;> simp

set_option maxHeartbeats 400000 in
theorem contains_any (bs : List (List Off)) (v : Value) (R : Nat → Prop) (w : World) (hl : Buys w R v bs) :
    Calls Try.prog 147 #[v, .func (.func 146) #[] #[]] w fun e w' => e = .returned (.bool (bs.any longB)) ∧ w = w' := by
  have hg := longInt_ge bs
  rw [← hg]
  clear hg
  go_enter Try.func147, Try.ntmps147
  go_wp2_with (go_at_call 166; refine (indexLong_any bs v R _ hl).mono ?_; rintro e w1 ⟨rfl, rfl⟩)
  go_ret
  exact ⟨rfl, rfl⟩

def instLoop (n : Int) : List (List Off) → Int
  | [] => 0
  | l :: bs => if checkE n l ≠ 0 then checkE n l else instLoop n bs
def instE (n : Int) (bs : List (List Off)) : Int := if n < 1 ∨ 10 < n then 2 else if 32 < bs.length ∨ bs.any longB = true then 3 else instLoop n bs

theorem instLoop_none (n : Int) : ∀ bs : List (List Off), (∀ l ∈ bs, checkE n l = 0) → instLoop n bs = 0
  | [], _ => rfl
  | o :: l, h => by simp [instLoop, h o (by simp), instLoop_none n l (fun x hx => h x (by simp [hx]))]
theorem instLoop_some (n : Int) : ∀ (bs : List (List Off)) (k : Nat) (l : List Off), bs[k]? = some l → checkE n l ≠ 0 → (∀ j x, j < k → bs[j]? = some x → checkE n x = 0) → instLoop n bs = checkE n l
  | [], k, o, h, _, _ => by simp at h
  | x :: l, 0, o, h, hb, _ => by simp at h; subst h; simp [instLoop, hb]
  | x :: l, k + 1, o, h, hb, hn => by
    have h0 := hn 0 x (by omega) rfl
    have := instLoop_some n l k o (by simpa using h) hb (fun j y hj hy => hn (j + 1) y (by omega) (by simpa using hy))
    simp [instLoop, h0, this]
end Go.Proofs.Ytcigobiolbojhaa.Vb

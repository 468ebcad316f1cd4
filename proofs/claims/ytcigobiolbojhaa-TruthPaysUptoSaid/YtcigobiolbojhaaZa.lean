/- Joined by program: Base Goods Index Check Inst Law Close Own Sec Regn Sealed Inst2 Types Copy With With2 Without Spec MapG. -/
import Derived.Test.YtcigobiolbojhaaRows
import Derived.WalkKit
import Derived.ProofKit
import Derived.Deep.RegionHeld3
import Derived.Deep.QuietTactic
import Derived.BigQuiet
import Derived.Deep.DrawnRows
import Derived.Deep.Draws
import Derived.Lib.Hide
import Derived.Deep.LoopGhost
import Derived.WalkSpells
import Derived.WalkLawsBesides
import Derived.ChangeStays
import Derived.ReadAgain
import Derived.ChangeSame
import Derived.OpenShut
import Derived.Lib.SmallJoins
import Derived.Deep.Slices
import Derived.JoinedOf
import Derived.Maps.AppendAt
import Derived.Deep.AppendLies
import Derived.Maps.OwnSet
/- Words for memory: a slice that reads as a list of cells; frames. -/
namespace Go.Proofs.Ytcigobiolbojhaa.Vb
open Go.RowKit

theorem ret_int {k : IntKind} {a b : Int} (h : a = b) : Ending.returned (.int k a) = .returned (.int k b) := by rw [h]
theorem ret_bool {a b : Bool} (h : a = b) : Ending.returned (.bool a) = .returned (.bool b) := by rw [h]


theorem natBeq0 (g : Nat) : ((g : Int) == 0) = (g == 0) := by rw [Bool.eq_iff_iff]; simp
theorem cellAlloc {w : World} {p : Addr} {v : Value} (h : w.cell? p = some v) (o : Obj) : (w.alloc o).cell? p = some v :=
  (World.cell?_alloc_lt w o p (World.block_lt_of_cell? w p h)).trans h

/-- The slice value v of n elements (sz cells each) reads as the cells xs; where there is one they lie in one block that R names. -/
def Sl (w : World) (R : Nat → Prop) (v : Value) (n sz : Nat) (xs : List Value) : Prop :=
  xs.length = n * sz ∧ ∃ A cap, v = .slice A n cap ∧ n ≤ cap ∧ cap ≤ maxLen ∧
    (0 < n → ∃ b off, A = some ⟨b, off, none⟩ ∧ R b ∧ b < w.heap.size ∧ ∀ j u, xs[j]? = some u → w.cell? ⟨b, off + j, none⟩ = some u)

section
variable {w w' : World} {R R' : Nat → Prop} {v : Value} {n sz : Nat} {xs : List Value}
theorem Sl.keep (h : Sl w R v n sz xs) (hs : w.heap.size ≤ w'.heap.size) (hk : ∀ b, b < w.heap.size → R b → w'.heap[b]? = w.heap[b]?) : Sl w' R v n sz xs := by
  obtain ⟨hl, A, cap, rfl, h1, h2, h3⟩ := h
  refine ⟨hl, A, cap, rfl, h1, h2, fun hn => ?_⟩
  obtain ⟨b, off, rfl, hb, hlt, hc⟩ := h3 hn
  exact ⟨b, off, rfl, hb, Nat.lt_of_lt_of_le hlt hs, fun j u hu => (World.cell?_of_block (hk b hlt hb)).trans (hc j u hu)⟩
theorem Sl.below {B : Nat} (h : Sl w R v n sz xs) (hb : Below B w w') (hR : ∀ b, b < w.heap.size → R b → b < B) : Sl w' R v n sz xs :=
  h.keep hb.size fun b hlt hr => hb.block b (hR b hlt hr)
theorem Sl.grow (h : Sl w R v n sz xs) (hb : Below w.heap.size w w') : Sl w' R v n sz xs := h.keep hb.size fun b hlt _ => hb.block b hlt
theorem Sl.alloc (h : Sl w R v n sz xs) (o : Obj) : Sl (w.alloc o) R v n sz xs := h.keep (by simp) fun b hlt _ => Below.heap_alloc w o b hlt
theorem Sl.drew (h : Sl w R v n sz xs) : Sl w.drew R v n sz xs := h
theorem Sl.mono (h : Sl w R v n sz xs) (hR : ∀ b, b < w.heap.size → R b → R' b) : Sl w R' v n sz xs := by
  obtain ⟨hl, A, cap, rfl, h1, h2, h3⟩ := h
  refine ⟨hl, A, cap, rfl, h1, h2, fun hn => ?_⟩
  obtain ⟨b, off, rfl, hb, hlt, hc⟩ := h3 hn
  exact ⟨b, off, rfl, hR b hlt hb, hlt, hc⟩
end

end Go.Proofs.Ytcigobiolbojhaa.Vb

/- Sets of goods, offers, as the program has them. -/
namespace Go.Proofs.Ytcigobiolbojhaa.Vb
open Go.RowKit

/-- a without b, as numbers. -/
def andNot (a b : Nat) : Nat := a &&& (4294967295 - b)
theorem andNot_le (a b : Nat) : andNot a b ≤ a := Nat.and_le_left

set_option maxHeartbeats 400000 in
theorem within_any (a b : Nat) (ha : a < 4294967296) (hb : b < 4294967296) (w : World) :
    Calls Try.prog 135 #[.int .u32 a, .int .u32 b] w fun e w' => e = .returned (.bool (andNot a b == 0)) ∧ w = w' := by
  have hbits : bits .andNot .u32 (a : Int) (b : Int) = ((andNot a b : Nat) : Int) := u32_andNot_nat a b ha hb
  go_enter Try.func135, Try.ntmps135
  go_wp2
  go_ret
  exact ⟨ret_bool (by rw [Bool.eq_iff_iff]; simp), rfl⟩

theorem pow32 (n : Nat) (h : n ≤ 32) : 2 ^ n ≤ 4294967296 := Nat.le_trans (Nat.pow_le_pow_right (by omega) h) (by decide)
theorem all_num (n : Nat) (h : n ≤ 32) : IntKind.u64.wrap (IntKind.u64.wrap (2 ^ n) - 1) % 4294967296 = ((2 ^ n - 1 : Nat) : Int) := by
  have h1 := pow32 n h
  have h2 : 0 < 2 ^ n := Nat.two_pow_pos n
  have h3 : ((2 : Int) ^ n) = ((2 ^ n : Nat) : Int) := by simp
  have h4 := IntWalk.u64_in ((2 ^ n : Nat) : Int) (by omega)
  have h5 := IntWalk.u64_in (((2 ^ n : Nat) : Int) - 1) (by omega)
  rw [h3, h4, h5]
  omega

/-- goods.All's answer -/
def allOf (n : Int) : Nat := if n < 0 ∨ 32 < n then 0 else 2 ^ n.toNat - 1
def allErr (n : Int) : Int := if n < 0 ∨ 32 < n then 2 else 0

theorem allOf_lt (n : Int) : allOf n < 4294967296 := by
  unfold allOf
  split
  · omega
  · have := pow32 n.toNat (by omega)
    have h2 : 0 < 2 ^ n.toNat := Nat.two_pow_pos _
    omega

set_option maxHeartbeats 400000 in
theorem all_any (n : Int) (w : World) :
    Calls Try.prog 123 #[.int .i64 n] w fun e w' => e = .returned (.tuple #[.int .u32 (allOf n : Nat), .int .i64 (allErr n)]) ∧ w = w' := by
  by_cases h0 : n < 0
  · go_enter Try.func123, Try.ntmps123
    go_wp2
    go_ret2
    exact ⟨by simp [allOf, allErr, h0], rfl⟩
  · by_cases h1 : 32 < n
    · go_enter Try.func123, Try.ntmps123
      go_wp2
      go_ret2
      exact ⟨by simp [allOf, allErr, h1], rfl⟩
    · have hn := all_num n.toNat (by omega)
      go_enter Try.func123, Try.ntmps123
      go_wp2
      go_ret2
      exact ⟨by simp only [allOf, allErr, if_neg (show ¬ (n < 0 ∨ 32 < n) by omega), ← hn]; rfl, rfl⟩

/-- an offer -/
structure Off where
  g : Nat
  c : Int
def Off.wf (o : Off) : Prop := o.g < 4294967296 ∧ -9223372036854775808 ≤ o.c ∧ o.c ≤ 9223372036854775807
def Off.cells (o : Off) : List Value := [.int .u32 o.g, .int .i64 o.c]
def Off.val (o : Off) : Value := .agg #[.int .u32 o.g, .int .i64 o.c]
def badB (all : Nat) (o : Off) : Bool := o.g == 0 || !(andNot o.g all == 0) || decide (o.c < 1) || decide (1099511627776 < o.c)

set_option maxHeartbeats 400000 in
theorem bad_any (all : Nat) (hall : all < 4294967296) (o : Off) (ho : o.wf) (b : Nat) (w : World) (hc : w.cell? ⟨b, 0, none⟩ = some (.int .u32 all)) :
    Calls Try.prog 148 #[.agg #[.int .u32 o.g, .int .i64 o.c], .pointer (some ⟨b, 0, none⟩)] w fun e w' => e = .returned (.bool (badB all o)) ∧ Below w.heap.size w w' := by
  obtain ⟨g, c⟩ := o
  obtain ⟨hg, hc0, hc1⟩ := ho
  simp only at hg hc0 hc1
  have hca := cellAlloc hc
  go_enter Try.func148, Try.ntmps148
  go_wp2_with (go_at_call 135; refine (within_any _ _ (by omega) (by omega) _).mono ?_; rintro e w' ⟨rfl, rfl⟩)
  all_goals go_ret
  all_goals refine ⟨ret_bool ?_, (Below.refl _ _).alloc (Nat.le_refl _) _⟩
  all_goals simp [badB, natBeq0, *]

def Off.all (l : List Off) : List Value := l.flatMap Off.cells
theorem Off.all_length (l : List Off) : (Off.all l).length = l.length * 2 := by
  induction l with
  | nil => rfl
  | cons o l ih => simp only [Off.all, List.flatMap_cons, List.length_append] at *; simp [Off.cells, ih]; omega
theorem Off.all_fst : ∀ (l : List Off) (k : Nat) (o : Off), l[k]? = some o → (Off.all l)[k * 2]? = some (.int .u32 o.g)
  | [], k, o, h => by simp at h
  | x :: l, 0, o, h => by simp at h; subst h; rfl
  | x :: l, k + 1, o, h => by
    have := Off.all_fst l k o (by simpa using h)
    simp only [Off.all, List.flatMap_cons, Off.cells] at *
    rw [show (k + 1) * 2 = k * 2 + 2 from by omega]
    simpa using this
theorem Off.all_snd : ∀ (l : List Off) (k : Nat) (o : Off), l[k]? = some o → (Off.all l)[k * 2 + 1]? = some (.int .i64 o.c)
  | [], k, o, h => by simp at h
  | x :: l, 0, o, h => by simp at h; subst h; rfl
  | x :: l, k + 1, o, h => by
    have := Off.all_snd l k o (by simpa using h)
    simp only [Off.all, List.flatMap_cons, Off.cells] at *
    rw [show (k + 1) * 2 + 1 = k * 2 + 1 + 2 from by omega]
    simpa using this

/-- The slice v reads as the offers l. -/
def Offs (w : World) (R : Nat → Prop) (v : Value) (l : List Off) : Prop := Sl w R v l.length 2 (Off.all l) ∧ ∀ o ∈ l, o.wf

theorem Offs.grow {w w' : World} {R : Nat → Prop} {v : Value} {l : List Off} (h : Offs w R v l) (hb : Below w.heap.size w w') : Offs w' R v l := ⟨h.1.grow hb, h.2⟩
theorem Offs.alloc {w : World} {R : Nat → Prop} {v : Value} {l : List Off} (h : Offs w R v l) (o : Obj) : Offs (w.alloc o) R v l := ⟨h.1.alloc o, h.2⟩

/-- The first offer that may not be, from k on. -/
def badAt (all : Nat) : List Off → Option Nat
  | [] => none
  | o :: l => if badB all o then some 0 else (badAt all l).map (· + 1)
def badInt (all : Nat) (l : List Off) : Int := match badAt all l with | some k => k | none => -1
end Go.Proofs.Ytcigobiolbojhaa.Vb

/- slices.IndexFunc over offers. -/
namespace Go.Proofs.Ytcigobiolbojhaa.Vb
open Go.RowKit

theorem badAt_none (all : Nat) : ∀ l : List Off, (∀ o ∈ l, badB all o = false) → badAt all l = none
  | [], _ => rfl
  | o :: l, h => by simp [badAt, h o (by simp), badAt_none all l (fun x hx => h x (by simp [hx]))]
theorem badAt_some (all : Nat) : ∀ (l : List Off) (k : Nat) (o : Off), l[k]? = some o → badB all o = true → (∀ j x, j < k → l[j]? = some x → badB all x = false) → badAt all l = some k
  | [], k, o, h, _, _ => by simp at h
  | x :: l, 0, o, h, hb, _ => by simp at h; subst h; simp [badAt, hb]
  | x :: l, k + 1, o, h, hb, hn => by
    have h0 := hn 0 x (by omega) rfl
    have := badAt_some all l k o (by simpa using h) hb (fun j y hj hy => hn (j + 1) y (by omega) (by simpa using hy))
    simp [badAt, h0, this]

set_option maxHeartbeats 400000 in
theorem index_any (all : Nat) (hall : all < 4294967296) (l : List Off) (v : Value) (R : Nat → Prop) (b : Nat) (w : World) (hl : Offs w R v l) (hc : w.cell? ⟨b, 0, none⟩ = some (.int .u32 all)) :
    Calls Try.prog 149 #[v, .func (.func 148) #[] #[.pointer (some ⟨b, 0, none⟩)]] w fun e w' => e = .returned (.int .i64 (badInt all l)) ∧ Below w.heap.size w w' := by
  obtain ⟨⟨hlen, A, cap, rfl, hncap, hcap, hcells⟩, hwf⟩ := hl
  unfold maxLen at hcap
  have hn : l.length ≤ 9223372036854775807 := by omega
  have hcb := World.block_lt_of_cell? w _ hc
  have HC := Lib.hid hcells
  have HL := Lib.hid hlen
  clear hcells hlen
  go_enter Try.func149, Try.ntmps149
  go_wp2
  go_loopw [8] (fun i wr => ∃ k : Nat, k ≤ l.length ∧ i = .int .i64 k ∧ Below w.heap.size w wr ∧ ∀ j x, j < k → l[j]? = some x → badB all x = false) (fun i _ => l.length - (intOf i).toNat)
  case atStart => exact ⟨0, Nat.zero_le _, rfl, Below.refl _ _, fun j x hj => by omega⟩
  case round =>
    obtain ⟨k, hk, rfl, hb, hno⟩ := hrel
    have HN := Lib.hid hno
    clear hno
    by_cases hlt : k < l.length
    · obtain ⟨bb, off, rfl, _, hbb, hcs⟩ := HC.out (by omega)
      have ho : l[k]? = some l[k] := List.getElem?_eq_getElem hlt
      obtain ⟨o, hol⟩ : ∃ o, o = l[k] := ⟨_, rfl⟩
      rw [← hol] at ho
      have c0 : wr.cell? ⟨bb, off + k * 2, none⟩ = some (.int .u32 o.g) := (hb.cell hbb).trans (hcs _ _ (Off.all_fst l k o ho))
      have c1 : wr.cell? ⟨bb, off + k * 2 + 1, none⟩ = some (.int .i64 o.c) := (hb.cell hbb).trans (hcs _ _ (Off.all_snd l k o ho))
      have hcr : wr.cell? ⟨b, 0, none⟩ = some (.int .u32 all) := (hb.cell hcb).trans hc
      have hwo := hwf o (by rw [hol]; exact List.getElem_mem hlt)
      clear hcs
      have HO := Lib.hid ho
      have HOL := Lib.hid hol
      clear ho hol
      go_wp2_with (go_at_call 148; refine (bad_any all hall o hwo b _ hcr).mono ?_; rintro e w1 ⟨rfl, hb1⟩)
      · go_ret
        refine ⟨ret_int ?_, hb.trans (hb1.mono hb.size)⟩
        have hbad : badB all o = true := by assumption
        unfold badInt
        rw [badAt_some all l k o HO.out hbad HN.out]
      · have hbad : badB all o = false := by assumption
        go_roundw
        case rel =>
          refine ⟨k + 1, by omega, by go_num, hb.trans (hb1.mono hb.size), fun j x hj hx => ?_⟩
          by_cases hjk : j < k
          · exact HN.out j x hjk hx
          · obtain rfl : j = k := by omega
            rw [HO.out] at hx
            cases hx
            exact hbad
        case measure => simp [intOf]; omega
    · go_wp2
      go_ret
      refine ⟨ret_int ?_, hb⟩
      unfold badInt
      rw [badAt_none all l (fun o ho => ?_)]
      obtain ⟨j, hj, rfl⟩ := List.getElem_of_mem ho
      exact HN.out j _ (by omega) (List.getElem?_eq_getElem hj)
end Go.Proofs.Ytcigobiolbojhaa.Vb

/- offers.Check. -/
namespace Go.Proofs.Ytcigobiolbojhaa.Vb
open Go.RowKit

def checkI (n : Int) (l : List Off) : Int := if n < 1 ∨ 10 < n then 0 else if 8 < l.length then 0 else match badAt (2 ^ n.toNat - 1) l with | some k => k | none => 0
def checkE (n : Int) (l : List Off) : Int := if n < 1 ∨ 10 < n then 2 else if 8 < l.length then 3 else match badAt (2 ^ n.toNat - 1) l with | some _ => 180 | none => 0

set_option maxHeartbeats 400000 in
theorem check_any (n : Int) (l : List Off) (v : Value) (R : Nat → Prop) (w : World) (hl : Offs w R v l) :
    Calls Try.prog 125 #[.int .i64 n, v] w fun e w' => e = .returned (.tuple #[.int .i64 (checkI n l), .int .i64 (checkE n l)]) ∧ Below w.heap.size w w' := by
  have hl' := hl
  obtain ⟨⟨hlen, A, cap, rfl, hncap, hcap, hcells⟩, hwf⟩ := hl
  unfold maxLen at hcap
  have HL := Lib.hid hl'
  clear hlen hcells hwf hl'
  by_cases hn : n < 1 ∨ 10 < n
  · have hI : checkI n l = 0 := by unfold checkI; rw [if_pos hn]
    have hE : checkE n l = 2 := by unfold checkE; rw [if_pos hn]
    have HI := Lib.hid hI
    have HE := Lib.hid hE
    clear hI hE
    rcases hn with hn | hn
    all_goals
      go_enter Try.func125, Try.ntmps125
      go_wp2_with (go_at_call 123; refine (all_any n _).mono ?_; rintro e w' ⟨rfl, rfl⟩)
      all_goals go_ret2
      all_goals rw [HI.out, HE.out]
      all_goals exact ⟨rfl, (Below.refl _ _).alloc (Nat.le_refl _) _⟩
  · have hr : 1 ≤ n ∧ n ≤ 10 := by omega
    have he : allErr n = 0 := by unfold allErr; rw [if_neg (by omega)]
    have ha : allOf n = 2 ^ n.toNat - 1 := by unfold allOf; rw [if_neg (by omega)]
    obtain ⟨hr0, hr1⟩ := hr
    obtain ⟨al, hal⟩ : ∃ al, al = allOf n := ⟨_, rfl⟩
    have hlt := allOf_lt n
    rw [← hal] at hlt ha
    have HA := Lib.hid ha
    have HAL := Lib.hid hal
    by_cases h8 : 8 < l.length
    · have hI : checkI n l = 0 := by unfold checkI; rw [if_neg hn, if_pos h8]
      have hE : checkE n l = 3 := by unfold checkE; rw [if_neg hn, if_pos h8]
      have HI := Lib.hid hI
      have HE := Lib.hid hE
      clear hI hE ha hal hn
      go_enter Try.func125, Try.ntmps125
      go_wp2_with (go_at_call 123; refine (all_any n _).mono ?_; rintro e w' ⟨rfl, rfl⟩; rw [he])
      go_ret2
      rw [HI.out, HE.out]
      exact ⟨rfl, (Below.refl _ _).alloc (Nat.le_refl _) _⟩
    · have hI : checkI n l = match badAt al l with | some k => (k : Int) | none => 0 := by unfold checkI; rw [if_neg hn, if_neg h8, ← HA.out]
      have hE : checkE n l = match badAt al l with | some _ => 180 | none => 0 := by unfold checkE; rw [if_neg hn, if_neg h8, ← HA.out]
      have HI := Lib.hid hI
      have HE := Lib.hid hE
      clear hI hE ha hn
      have HH := Lib.hid he
      clear he hal
      cases hb : badAt al l with
      | none =>
        have hbi : badInt al l = -1 := by unfold badInt; rw [hb]
        rw [hb] at HI HE
        clear hb
        go_enter Try.func125, Try.ntmps125
        go_wp2_with (first | (go_at_call 123; refine (all_any n _).mono ?_; rintro e w' ⟨rfl, rfl⟩; rw [HH.out, ← HAL.out]) | (go_at_call 149; refine (index_any al hlt l _ R w.heap.size _ (HL.out.alloc _) (by simp)).mono ?_; rintro e w1 ⟨rfl, hb1⟩))
        go_ret2
        rw [HI.out, HE.out]
        exact ⟨rfl, ((Below.refl _ _).alloc (Nat.le_refl _) _).trans (hb1.mono (by simp))⟩
      | some k =>
        have hbi : badInt al l = k := by unfold badInt; rw [hb]
        rw [hb] at HI HE
        clear hb
        go_enter Try.func125, Try.ntmps125
        go_wp2_with (first | (go_at_call 123; refine (all_any n _).mono ?_; rintro e w' ⟨rfl, rfl⟩; rw [HH.out, ← HAL.out]) | (go_at_call 149; refine (index_any al hlt l _ R w.heap.size _ (HL.out.alloc _) (by simp)).mono ?_; rintro e w1 ⟨rfl, hb1⟩))
        go_ret2
        rw [HI.out, HE.out]
        exact ⟨rfl, ((Below.refl _ _).alloc (Nat.le_refl _) _).trans (hb1.mono (by simp))⟩
end Go.Proofs.Ytcigobiolbojhaa.Vb

/- offers.Instance. -/
namespace Go.Proofs.Ytcigobiolbojhaa.Vb
open Go.RowKit

/-- The slice v reads as the buyers' lists bs. -/
def Buys (w : World) (R : Nat → Prop) (v : Value) (bs : List (List Off)) : Prop :=
  ∃ vs : List Value, Sl w R v bs.length 1 vs ∧ ∀ (k : Nat) (l : List Off), bs[k]? = some l → ∃ u, vs[k]? = some u ∧ Offs w R u l

theorem Buys.grow {w w' : World} {R : Nat → Prop} {v : Value} {bs : List (List Off)} (h : Buys w R v bs) (hb : Below w.heap.size w w') : Buys w' R v bs := by
  obtain ⟨vs, hs, ho⟩ := h
  exact ⟨vs, hs.grow hb, fun k l hk => let ⟨u, hu, hl⟩ := ho k l hk; ⟨u, hu, hl.grow hb⟩⟩
theorem Buys.drew {w : World} {R : Nat → Prop} {v : Value} {bs : List (List Off)} (h : Buys w R v bs) : Buys w.drew R v bs := h
theorem Buys.alloc {w : World} {R : Nat → Prop} {v : Value} {bs : List (List Off)} (h : Buys w R v bs) (o : Obj) : Buys (w.alloc o) R v bs := by
  obtain ⟨vs, hs, ho⟩ := h
  exact ⟨vs, hs.alloc o, fun k l hk => let ⟨u, hu, hl⟩ := ho k l hk; ⟨u, hu, hl.alloc o⟩⟩

def longB (l : List Off) : Bool := decide (8 < l.length)
def longAt : List (List Off) → Option Nat
  | [] => none
  | l :: bs => if longB l then some 0 else (longAt bs).map (· + 1)
def longInt (bs : List (List Off)) : Int := match longAt bs with | some k => k | none => -1

theorem longAt_none : ∀ bs : List (List Off), (∀ l ∈ bs, longB l = false) → longAt bs = none
  | [], _ => rfl
  | o :: l, h => by simp [longAt, h o (by simp), longAt_none l (fun x hx => h x (by simp [hx]))]
theorem longAt_some : ∀ (bs : List (List Off)) (k : Nat) (l : List Off), bs[k]? = some l → longB l = true → (∀ j x, j < k → bs[j]? = some x → longB x = false) → longAt bs = some k
  | [], k, o, h, _, _ => by simp at h
  | x :: l, 0, o, h, hb, _ => by simp at h; subst h; simp [longAt, hb]
  | x :: l, k + 1, o, h, hb, hn => by
    have h0 := hn 0 x (by omega) rfl
    have := longAt_some l k o (by simpa using h) hb (fun j y hj hy => hn (j + 1) y (by omega) (by simpa using hy))
    simp [longAt, h0, this]

set_option maxHeartbeats 400000 in
theorem long_any (A : Option Addr) (n c : Nat) (w : World) :
    Calls Try.prog 146 #[.slice A n c] w fun e w' => e = .returned (.bool (decide (8 < n))) ∧ w = w' := by
  go_enter Try.func146, Try.ntmps146
  go_wp2
  go_ret
  exact ⟨ret_bool (by rw [Bool.eq_iff_iff]; simp; omega), rfl⟩

set_option maxHeartbeats 400000 in
theorem indexLong_any (bs : List (List Off)) (v : Value) (R : Nat → Prop) (w : World) (hl : Buys w R v bs) :
    Calls Try.prog 166 #[v, .func (.func 146) #[] #[]] w fun e w' => e = .returned (.int .i64 (longInt bs)) ∧ w = w' := by
  obtain ⟨vs, ⟨hlen, A, cap, rfl, hncap, hcap, hcells⟩, hvs⟩ := hl
  unfold maxLen at hcap
  have hn : bs.length ≤ 9223372036854775807 := by omega
  have HC := Lib.hid hcells
  have HL := Lib.hid hlen
  have HV := Lib.hid hvs
  clear hcells hlen hvs
  go_enter Try.func166, Try.ntmps166
  go_wp2
  go_loop [8] (fun i => ∃ k : Nat, k ≤ bs.length ∧ i = .int .i64 k ∧ ∀ j x, j < k → bs[j]? = some x → longB x = false) (fun i => bs.length - (intOf i).toNat)
  case atStart => exact ⟨0, Nat.zero_le _, rfl, fun j x hj => by omega⟩
  case round =>
    obtain ⟨k, hk, rfl, hno⟩ := hrel
    have HN := Lib.hid hno
    clear hno
    by_cases hlt : k < bs.length
    · obtain ⟨bb, off, rfl, _, hbb, hcs⟩ := HC.out (by omega)
      obtain ⟨l, ho⟩ : ∃ l, bs[k]? = some l := ⟨_, List.getElem?_eq_getElem hlt⟩
      obtain ⟨u, hu, ⟨_, A', cap', rfl, _⟩, _⟩ := HV.out k l ho
      have c0 := hcs _ _ hu
      clear hcs hu
      have HO := Lib.hid ho
      clear ho
      go_wp2_with (go_at_call 146; refine (long_any _ _ _ _).mono ?_; rintro e w1 ⟨rfl, rfl⟩)
      · go_ret
        have hbad : longB l = true := by unfold longB; simp; assumption
        refine ⟨ret_int ?_, rfl⟩
        unfold longInt
        rw [longAt_some bs k l HO.out hbad HN.out]
      · have hbad : longB l = false := by unfold longB; simp; omega
        go_round
        case rel =>
          refine ⟨k + 1, by omega, by go_num, fun j x hj hx => ?_⟩
          by_cases hjk : j < k
          · exact HN.out j x hjk hx
          · obtain rfl : j = k := by omega
            rw [HO.out] at hx
            cases hx
            exact hbad
        case measure => simp [intOf]; omega
    · go_wp2
      go_ret
      refine ⟨ret_int ?_, rfl⟩
      unfold longInt
      rw [longAt_none bs (fun o ho => ?_)]
      obtain ⟨j, hj, rfl⟩ := List.getElem_of_mem ho
      exact HN.out j _ (by omega) (List.getElem?_eq_getElem hj)

theorem longInt_ge (bs : List (List Off)) : decide (0 ≤ longInt bs) = bs.any longB := by
  have h : ∀ bs : List (List Off), (longAt bs).isSome = bs.any longB := by
    intro bs
    induction bs with
    | nil => rfl
    | cons l bs ih => by_cases h : longB l = true <;> simp [longAt, h, ih]
  rw [← h, Bool.eq_iff_iff]
  unfold longInt
  cases longAt bs <;> simp

set_option maxHeartbeats 400000 in
theorem contains_any (bs : List (List Off)) (v : Value) (R : Nat → Prop) (w : World) (hl : Buys w R v bs) :
    Calls Try.prog 147 #[v, .func (.func 146) #[] #[]] w fun e w' => e = .returned (.bool (bs.any longB)) ∧ w = w' := by
  have hg := longInt_ge bs
  rw [← hg]
  clear hg
  go_enter Try.func147, Try.ntmps147
  go_wp2_with (go_at_call 166; refine (indexLong_any bs v R _ hl).mono ?_; rintro e w1 ⟨rfl, rfl⟩)
  go_ret
  exact ⟨rfl, rfl⟩

def instLoop (n : Int) : List (List Off) → Int
  | [] => 0
  | l :: bs => if checkE n l ≠ 0 then checkE n l else instLoop n bs
def instE (n : Int) (bs : List (List Off)) : Int := if n < 1 ∨ 10 < n then 2 else if 32 < bs.length ∨ bs.any longB = true then 3 else instLoop n bs

theorem instLoop_none (n : Int) : ∀ bs : List (List Off), (∀ l ∈ bs, checkE n l = 0) → instLoop n bs = 0
  | [], _ => rfl
  | o :: l, h => by simp [instLoop, h o (by simp), instLoop_none n l (fun x hx => h x (by simp [hx]))]
theorem instLoop_some (n : Int) : ∀ (bs : List (List Off)) (k : Nat) (l : List Off), bs[k]? = some l → checkE n l ≠ 0 → (∀ j x, j < k → bs[j]? = some x → checkE n x = 0) → instLoop n bs = checkE n l
  | [], k, o, h, _, _ => by simp at h
  | x :: l, 0, o, h, hb, _ => by simp at h; subst h; simp [instLoop, hb]
  | x :: l, k + 1, o, h, hb, hn => by
    have h0 := hn 0 x (by omega) rfl
    have := instLoop_some n l k o (by simpa using h) hb (fun j y hj hy => hn (j + 1) y (by omega) (by simpa using hy))
    simp [instLoop, h0, this]
end Go.Proofs.Ytcigobiolbojhaa.Vb

/- A law's statement out of its walk: what stands below is read as it was; an instance, opened. -/
namespace Go.Proofs.Ytcigobiolbojhaa.Vb
open Go.RowKit Go.WideShapes Go.ChangeShapes Go.ChangeAt Go.Joins Go.Deep

section
variable {H : Type} {enc : TypeId × Value → H} {P : Program} {w w' : World} {T : TypeId → Prop}
theorem sameAt_of {p : MemPlace} (hb : Below w.heap.size w w') (hp : p.block < w.heap.size) : w.sameAt w' p := by
  cases p with
  | cell b off => exact hb.cell (p := ⟨b, off, none⟩) hp
  | map b => exact hb.block b hp
theorem trodAll_stays (K : Kids P T) (hz : ∀ t e, T t → P.underlying t = some (.slice e) → 0 < P.cellsOf e) {base : Nat} {sp' : Nat → Bool} (hb : Below w.heap.size w w') :
    ∀ {ts : List TypeId} {vs : List Value} {ds : List (DataW H)} {ps : List MemPlace}, (∀ t ∈ ts, T t) → DataW.TrodAll enc P w base (fun _ => true) true ts vs ds ps → (∀ p ∈ ps, p.block < w.heap.size) → (∀ p ∈ ps, sp' p.block = true) →
      DataW.TrodAll enc P w' base sp' true ts vs ds ps
  | [], [], [], _, _, h, _, _ => h
  | _ :: _, _ :: _, _ :: _, _, hT, ⟨p, q, ⟨fuel, h1⟩, h2, e⟩, hl, hs => by
    subst e
    exact ⟨p, q, ⟨fuel, DataW.trod_stays K (fun h1 h2 => hz _ _ h1 h2) (fun h => by cases h) (hT _ (List.mem_cons.2 (Or.inl rfl))) h1 (fun x hx => sameAt_of hb (hl x (List.mem_append_left _ hx))) (fun x hx => hs x (List.mem_append_left _ hx))⟩,
      trodAll_stays K hz hb (fun t ht => hT t (List.mem_cons.2 (Or.inr ht))) h2 (fun x hx => hl x (List.mem_append_right _ hx)) (fun x hx => hs x (List.mem_append_right _ hx)), rfl⟩

/-- the law's last step: true is told, and all that stood stands -/
theorem post_law {f : Func} {s : ChangeSpec} {apart fresh handsOn again : Bool} {W W' : World} {args : Array Value} {ds gs : List (DataW H)} {before : List MemPlace} {tb : TypeId}
    (K : Kids P T) (hz : ∀ t e, T t → P.underlying t = some (.slice e) → 0 < P.cellsOf e) (hT : ∀ t ∈ f.params.toList, T t) (hvs : s.vars = []) (hbool : P.underlying tb = some .bool) (hrt : f.resultTypes = #[tb])
    (hW : DataW.Whole enc P f.params.toList s.vars apart W args.toList ds gs before)
    (hfn : s.fn H (ds ++ gs) = { results := [.lit (.bool true)], args := ds }) (hb : Below W.heap.size W W') : s.post enc P f apart fresh handsOn again W args (.bool true) W' := by
  have hlt : ∀ p ∈ before, p.block < W.heap.size := fun p hp => hW.lt p hp
  have hold : ∀ p ∈ before, (fun b => decide (b < W.heap.size)) p.block = true := fun p hp => by simpa using hlt p hp
  have hW0 := hW
  obtain ⟨p, q, hA, hV, hps, hz0, hn0⟩ := hW0
  rw [hvs] at hV
  obtain ⟨rfl, rfl⟩ := trodVars_none hV
  simp only [List.append_nil] at hps
  subst hps
  have hres : ∀ (b : Nat) (sp : Nat → Bool) (hd : Bool), DataW.TrodAll enc P W' b sp hd f.resultTypes.toList ((Value.bool true).resultList f.resultTypes.size) (s.fn H (ds ++ [])).results [] := fun b sp hd => by
    rw [hfn, hrt]
    exact trodAll_cons_mk (shut_bool hbool true) trodAll_mk0
  have hargs : ∀ sp : Nat → Bool, (∀ p ∈ before, sp p.block = true) → DataW.TrodAll enc P W' 0 sp true f.params.toList args.toList (s.fn H (ds ++ [])).args before := fun sp hsp => by
    rw [hfn]
    exact trodAll_stays K hz hb hT hA hlt hsp
  have hvars : ∀ sp : Nat → Bool, DataW.TrodVars enc P W' sp s.vars (s.fn H (ds ++ [])).vars [] := fun sp => by
    rw [hfn, hvs]
    rfl
  refine ⟨ds, [], before, [], before, [], hW, hres _ _ _, hargs _ hold, hvars _, World.keptBut_mono (fun p hp => ⟨hp, ?_⟩) (hb.frame (· ∈ before)), fun _ => ?_⟩
  · simpa using hp
  · refine ⟨ok_one hrt rfl (okWide_bool_mk hbool _), _, _, ([] ++ before) ++ [], ⟨[] ++ before, [], trodAll_append (hargs _ (fun _ _ => rfl)) (hres _ _ _), hvars _, rfl, ?_, ?_⟩, ?_⟩
    · intro b off hp
      have hin : MemPlace.cell b off ∈ before := by simpa using hp
      rw [hb.frozen (hlt _ hin)]
      exact hz0 b off hin
    · intro ha
      simpa using hn0 ha
    · intro p hp _
      simpa using hp
end

section
variable {H : Type} {enc : TypeId × Value → H} {P : Program} {w : World} {base : Nat} {held : Bool}
theorem bd_i64 {n : Int} (h : (Lit.int .i64 n).wf = true) : -9223372036854775808 ≤ n ∧ n ≤ 9223372036854775807 := by
  simpa [Lit.wf, IntKind.min, IntKind.max, IntKind.signed, IntKind.bits] using h
theorem bd_u32 {n : Int} (h : (Lit.int .u32 n).wf = true) : 0 ≤ n ∧ n ≤ 4294967295 := by
  simpa [Lit.wf, IntKind.min, IntKind.max, IntKind.signed, IntKind.bits] using h
theorem addr_of_cell {a : Addr} {v : Value} (h : w.cell? (a.add 0) = some v) : ∃ b off, a = ⟨b, off, none⟩ := by
  obtain ⟨b, off, spot⟩ := a
  have hspot : spot = none := by simpa [Addr.add] using World.cell?_spot h
  exact ⟨b, off, by rw [hspot]⟩
theorem add_lit' (b off k : Nat) : (⟨b, off, none⟩ : Addr).add k = ⟨b, off + k, none⟩ := Addr.add_lit b off k

/-- offers that came in -/
theorem open_offs {t e : TypeId} {f0 f1 : Field} (ht : P.underlying t = some (.slice e)) (he : P.underlying e = some (.struct #[f0, f1])) (h0 : P.underlying f0.type = some (.int .u32)) (h1 : P.underlying f1.type = some (.int .i64))
    (o0 : f0.offset = 0) (o1 : f1.offset = 1) (s0 : P.cellsOf f0.type = 1) (s1 : P.cellsOf f1.type = 1) (hC : P.cellsOf e = 2) {fuel : Nat} {v : Value} {x : DataW H × List MemPlace}
    (h : DataW.trod enc P w base (fun _ => true) held fuel t [v] = some x) : ∃ l, Offs w (fun _ => True) v l := by
  rcases open_slice ht h with ⟨hcs, _⟩ | ⟨a, len, cap, m, n, D, Pl, hcs, _, hl, hm, hmm, _, hi⟩
  · obtain rfl : v = .slice none 0 0 := by simpa using hcs
    exact ⟨[], ⟨rfl, none, 0, rfl, Nat.le_refl _, Nat.zero_le _, fun h => absurd h (by simp)⟩, fun o ho => by cases ho⟩
  · obtain rfl : v = .slice (some a) len cap := by simpa using hcs
    simp only [if_true] at hmm
    have hmm' := hmm.symm
    subst hmm'
    have each : ∀ i, i < len → ∃ o : Off, o.wf ∧ w.cell? (a.add (i * 2)) = some (.int .u32 o.g) ∧ w.cell? (a.add (i * 2 + 1)) = some (.int .i64 o.c) := by
      intro i hlt
      obtain ⟨cs', hc, ht'⟩ := hi i (by omega)
      rw [hC] at hc
      obtain ⟨xs, n', _, _, _, _, hg⟩ := DataW.trod_struct he ht'
      obtain ⟨_, hcl, hat⟩ := World.cells?_some hc
      have g0 := hg 0 f0 rfl
      have g1 := hg 1 f1 rfl
      rw [o0, s0] at g0
      rw [o1, s1] at g1
      match cs', hcl with
      | [c0, c1], _ =>
        obtain ⟨y0, hy0⟩ : ∃ y, xs[0]? = some y := by
          cases hx : xs[0]? with
          | some y => exact ⟨y, rfl⟩
          | none => have : xs.length = 2 := by assumption
                    rw [List.getElem?_eq_none_iff] at hx; omega
        obtain ⟨y1, hy1⟩ : ∃ y, xs[1]? = some y := by
          cases hx : xs[1]? with
          | some y => exact ⟨y, rfl⟩
          | none => have : xs.length = 2 := by assumption
                    rw [List.getElem?_eq_none_iff] at hx; omega
        rw [hy0] at g0
        rw [hy1] at g1
        simp at g0 g1
        obtain ⟨m0, e0, _, w0⟩ := DataW.trod_int h0 g0
        obtain ⟨m1, e1, _, w1⟩ := DataW.trod_int h1 g1
        simp at e0 e1
        subst e0 e1
        obtain ⟨b0, b1⟩ := bd_u32 w0
        obtain ⟨g, rfl⟩ := Int.eq_ofNat_of_zero_le b0
        refine ⟨⟨g, m1⟩, ⟨by show g < 4294967296; omega, (bd_i64 w1).1, (bd_i64 w1).2⟩, ?_, ?_⟩
        · have := hat 0 (by omega)
          simpa [add_add] using this
        · have := hat 1 (by omega)
          simpa [add_add] using this
    haveI : Inhabited Off := ⟨⟨0, 0⟩⟩
    obtain ⟨F, hF⟩ := choose_lt each
    refine ⟨(List.range len).map F, ⟨by rw [Off.all_length], some a, cap, by simp, by simpa using hl, hm, fun h0' => ?_⟩, fun o ho => ?_⟩
    · have h0'' : 0 < len := by simpa using h0'
      obtain ⟨b, off, rfl⟩ := addr_of_cell (w := w) (a := a) (by simpa using (hF 0 h0'').2.1)
      refine ⟨b, off, rfl, trivial, World.block_lt_of_cell? w ⟨b, off, none⟩ (u := .int .u32 (F 0).g) (by simpa [Addr.add] using (hF 0 h0'').2.1), fun j u hu => ?_⟩
      have hlen : (Off.all ((List.range len).map F)).length = len * 2 := by rw [Off.all_length]; simp
      have hj : j < len * 2 := by rw [← hlen]; exact (List.getElem?_eq_some_iff.1 hu).1
      have hk : ((List.range len).map F)[j / 2]? = some (F (j / 2)) := by
        rw [List.getElem?_map, List.getElem?_range (by omega)]
        rfl
      have hq := hF (j / 2) (by omega)
      rcases (show j = j / 2 * 2 ∨ j = j / 2 * 2 + 1 by omega) with h2 | h2
      · have := Off.all_fst _ _ _ hk
        rw [← h2, hu] at this
        injection this with this
        subst this
        rw [← add_lit', h2, show j / 2 * 2 / 2 = j / 2 by omega]
        exact hq.2.1
      · have := Off.all_snd _ _ _ hk
        rw [← h2, hu] at this
        injection this with this
        subst this
        rw [← add_lit', h2, show (j / 2 * 2 + 1) / 2 = j / 2 by omega]
        exact hq.2.2
    · obtain ⟨i, hi', rfl⟩ := List.mem_map.1 ho
      exact (hF i (List.mem_range.1 hi')).1

/-- lists of offers that came in -/
theorem open_buys {t t' e : TypeId} {f0 f1 : Field} (ht' : P.underlying t' = some (.slice t)) (c1 : P.cellsOf t = 1) (ht : P.underlying t = some (.slice e)) (he : P.underlying e = some (.struct #[f0, f1])) (h0 : P.underlying f0.type = some (.int .u32)) (h1 : P.underlying f1.type = some (.int .i64))
    (o0 : f0.offset = 0) (o1 : f1.offset = 1) (s0 : P.cellsOf f0.type = 1) (s1 : P.cellsOf f1.type = 1) (hC : P.cellsOf e = 2) {fuel : Nat} {v : Value} {x : DataW H × List MemPlace}
    (h : DataW.trod enc P w base (fun _ => true) held fuel t' [v] = some x) : ∃ bs, Buys w (fun _ => True) v bs := by
  rcases open_slice1 ht' c1 h with ⟨hcs, _⟩ | ⟨a, len, cap, m, n, V, D, Pl, hcs, _, hl, hm, hmm, _, hi⟩
  · obtain rfl : v = .slice none 0 0 := by simpa using hcs
    exact ⟨[], [], ⟨rfl, none, 0, rfl, Nat.le_refl _, Nat.zero_le _, fun h => absurd h (by simp)⟩, fun k l hk => by simp at hk⟩
  · obtain rfl : v = .slice (some a) len cap := by simpa using hcs
    simp only [if_true] at hmm
    have hmm' := hmm.symm
    subst hmm'
    have each : ∀ i, i < len → ∃ l, Offs w (fun _ => True) (V i) l := fun i hlt => open_offs ht he h0 h1 o0 o1 s0 s1 hC (hi i (by omega)).2
    obtain ⟨F, hF⟩ := choose_lt each
    refine ⟨(List.range len).map F, (List.range len).map V, ⟨by simp, some a, cap, by simp, by simpa using hl, hm, fun h0' => ?_⟩, fun k l hk => ?_⟩
    · have h0'' : 0 < len := by simpa using h0'
      obtain ⟨b, off, rfl⟩ := addr_of_cell (w := w) (a := a) (hi 0 (by omega)).1
      refine ⟨b, off, rfl, trivial, World.block_lt_of_cell? w ⟨b, off, none⟩ (u := V 0) (by simpa [Addr.add] using (hi 0 (by omega)).1), fun j u hu => ?_⟩
      have hj : j < len := by simpa using (List.getElem?_eq_some_iff.1 hu).1
      rw [List.getElem?_map, List.getElem?_range hj] at hu
      simp at hu
      subst hu
      rw [← add_lit']
      exact (hi j (by omega)).1
    · have hj : k < len := by simpa using (List.getElem?_eq_some_iff.1 hk).1
      rw [List.getElem?_map, List.getElem?_range hj] at hk
      simp at hk
      subst hk
      exact ⟨V k, by rw [List.getElem?_map, List.getElem?_range hj]; rfl, hF k hj⟩
end
end Go.Proofs.Ytcigobiolbojhaa.Vb

/- A seat's facts for the last step. -/
namespace Go.Proofs.Ytcigobiolbojhaa.Vb
open Go.RowKit Go.WideShapes Go.ChangeShapes Go.ChangeAt Go.Joins Go.Deep

theorem own : ownKnob Try.prog.godebug = none := by kernel_rfl
theorem kids : Kids Try.prog (· < Try.prog.types.size) := kids_rows (by kernel_rfl) (by kernel_rfl)
theorem full : ∀ t e, t < Try.prog.types.size → Try.prog.underlying t = some (.slice e) → 0 < Try.prog.cellsOf e := slices_full_of Try.prog (by kernel_rfl)

end Go.Proofs.Ytcigobiolbojhaa.Vb

/- append onto a row of the call's own, from a slice that reads as cells. -/
namespace Go.Proofs.Ytcigobiolbojhaa.Vb
open Go.RowKit

/-- The facts on a slice type t of elements e (sz cells, so many bytes). -/
def ElemT (P : Program) (t e : TypeId) (sz bytes : Nat) : Prop :=
  P.underlying t = some (.slice e) ∧ 0 < sz ∧ ∃ i z, P.info? e = some i ∧ i.zero = some z ∧ i.size = sz ∧ i.bytes = bytes ∧ z.cells.size = sz

theorem elemT_of {P : Program} {t e : TypeId} {sz bytes : Nat} {z : Value} (ht : P.underlying t = some (.slice e)) (hsz : 0 < sz)
    (h : (P.info? e).map (fun i => (i.zero, i.size, i.bytes)) = some (some z, sz, bytes)) (hz : z.cells.size = sz) : ElemT P t e sz bytes := by
  obtain ⟨i0, hi, hz0, hz1, hz2⟩ := info_parts h
  exact ⟨ht, hsz, i0, z, hi, hz0, hz1, hz2, hz⟩

theorem Sl.of_own {w : World} {base : Nat} {e : TypeId} {sz n : Nat} {v : Value} {xs : List Value} (h : w.ownsRow base e sz v n xs) : Sl w (fun b => v.ownBlock = some b) v n sz xs := by
  rcases h.2 with ⟨rfl, rfl⟩ | ⟨g, cap, cur, rfl, hb, hg, hnc, hcm, hcs, htake⟩
  · exact ⟨h.1, none, 0, rfl, Nat.le_refl _, Nat.zero_le _, fun h0 => absurd h0 (by omega)⟩
  · refine ⟨h.1, _, cap, rfl, hnc, hcm, fun hn => ⟨g, 0, rfl, rfl, (Array.getElem?_eq_some_iff.1 hg).1, fun j u hu => ?_⟩⟩
    have := h.cells (g := g) rfl j u hu
    rwa [Addr.add_lit] at this

theorem Sl.new (w : World) (cs : Array Value) (t : TypeId) (n sz : Nat) (hn : n ≤ maxLen) (hs : cs.size = n * sz) :
    Sl (w.alloc (.cells cs t)) (· = w.heap.size) (.slice (some ⟨w.heap.size, 0, none⟩) n n) n sz cs.toList :=
  ⟨by simpa using hs, _, n, rfl, Nat.le_refl _, hn, fun _ => ⟨w.heap.size, 0, rfl, rfl, by simp, fun j u hu => by
    rw [cell_of_row _ _ _ cs t (0, 0) (heap_alloc_new w _)]
    simpa using hu⟩⟩

theorem own_empty (w : World) {base : Nat} (h : base ≤ w.heap.size) (e : TypeId) (sz : Nat) : (w.alloc (.cells #[] e)).ownsRow base e sz (.slice (some ⟨w.heap.size, 0, none⟩) 0 0) 0 [] :=
  World.ownsRow_lit w #[] 0 h (Nat.zero_le _) (by simp)

theorem own_form {w : World} {base : Nat} {e : TypeId} {sz n : Nat} {v : Value} {xs : List Value} (h : w.ownsRow base e sz v n xs) : ∃ A cap, v = .slice A n cap := by
  rcases h.2 with ⟨rfl, rfl⟩ | ⟨g, cap, cur, rfl, _⟩
  · exact ⟨none, 0, rfl⟩
  · exact ⟨_, cap, rfl⟩

theorem run_append_sl {P : Program} (w : World) (base : Nat) (t ty e : TypeId) (sz bytes : Nat) (E : ElemT P t e sz bytes)
    (v : Value) (n : Nat) (xs : List Value) (hown : w.ownsRow base e sz v n xs)
    (R : Nat → Prop) (v2 : Value) (m : Nat) (news : List Value) (hr : Sl w R v2 m sz news) (h1 : ∀ u ∈ news, u.oneCell' = true)
    (hbytes : (n + m) * bytes ≤ 140737488355328) (h63 : n + m ≤ maxLen) (hbase : base ≤ w.heap.size) :
    ∃ A' cap' w', (Builtin.append_ #[t, t] ty #[v, v2]).run P w = .ok (.slice A' (n + m) cap') w' ∧ w'.ownsRow base e sz (.slice A' (n + m) cap') (n + m) (xs ++ news) ∧ w.grownBy w' v.ownBlock ∧
      ((Value.slice A' (n + m) cap').ownBlock = v.ownBlock ∨ (Value.slice A' (n + m) cap').ownBlock = some w.heap.size) := by
  obtain ⟨ht, hsz, i, z, hi, hz, hsize, hby, hzs⟩ := E
  obtain ⟨hl, A, c, rfl, hnc, hcm, hc⟩ := hr
  rcases A with _ | ad
  · have hm : m = 0 := by
      rcases Nat.eq_zero_or_pos m with h0 | h0
      · exact h0
      · obtain ⟨b, off, h, _⟩ := hc h0
        cases h
    subst hm
    have hn : news = [] := List.eq_nil_of_length_eq_zero (by simpa using hl)
    subst hn
    have hrun : (Builtin.append_ #[t, t] ty #[v, .slice none 0 c]).run P w = .ok v w := by
      rcases hown.2 with ⟨rfl, rfl⟩ | ⟨g, cap, cur, rfl, _, _, hnc', _⟩
      · simp [Builtin.append_, run_underlying ht, sizeOf, typeInfo, hi, Builtin.lenOf, Builtin.firstCells]
      · simp [Builtin.append_, run_underlying ht, sizeOf, typeInfo, hi, Builtin.lenOf, Builtin.firstCells, hnc', storeCells]
    obtain ⟨A', cap', hv⟩ := own_form hown
    subst hv
    exact ⟨A', cap', w, hrun, by simpa using hown, ⟨rfl, rfl, rfl, Nat.le_refl _, fun _ _ _ => rfl⟩, .inl rfl⟩
  · have hcells : ∀ j u, news[j]? = some u → w.cell? (ad.add j) = some u := by
      intro j u hu
      rcases Nat.eq_zero_or_pos m with h0 | h0
      · subst h0
        have hn : news = [] := List.eq_nil_of_length_eq_zero (by simpa using hl)
        subst hn
        simp at hu
      · obtain ⟨b, off, h, _, _, hcc⟩ := hc h0
        injection h with h
        subst h
        rw [Addr.add_lit]
        exact hcc j u hu
    obtain ⟨v', w', hrun, h2, h3, _, h5⟩ := run_append_own_at (P := P) w base t ty e i z sz bytes ht hi hz hsize hby hzs hsz v n xs hown ad m c news hl hcells h1 h63 hbytes hbase
    obtain ⟨A', cap', hv⟩ := own_form h2
    subst hv
    exact ⟨A', cap', w', hrun, h2, h3, h5⟩

theorem wp_app {P : Program} (w : World) {o : Oper} {a : Act} {K : Act → World → Prop} {Q : Exit → Act → World → Prop} (s x : Operand) {t e : TypeId} {sz bytes : Nat} (E : ElemT P t e sz bytes)
    (ho : o.op = .call { callee := .builtin .append, args := #[s, x], argTypes := #[t, t] })
    (base : Nat) (v : Value) (n : Nat) (xs : List Value) (hs : a.eval s = v) (hown : w.ownsRow base e sz v n xs)
    (R : Nat → Prop) (v2 : Value) (m : Nat) (news : List Value) (hx : a.eval x = v2) (hr : Sl w R v2 m sz news) (h1 : ∀ u ∈ news, u.oneCell' = true)
    (hbytes : (n + m) * bytes ≤ 140737488355328) (h63 : n + m ≤ maxLen) (hbase : base ≤ w.heap.size)
    (h : ∀ A' cap' w', w'.ownsRow base e sz (.slice A' (n + m) cap') (n + m) (xs ++ news) → w.grownBy w' v.ownBlock → ((Value.slice A' (n + m) cap').ownBlock = v.ownBlock ∨ (Value.slice A' (n + m) cap').ownBlock = some w.heap.size) → K (a.put o.dst (.slice A' (n + m) cap')) w') : o.wp P a w K Q := by
  obtain ⟨A', cap', w', hrun, h2, h3, h4⟩ := run_append_sl (P := P) w base t o.type e sz bytes E v n xs hown R v2 m news hr h1 hbytes h63 hbase
  unfold Oper.wp execOp
  simp only [ho, resolve, invoke, builtin, Sem.run_bind, Sem.run_pure, Result.andThen_ok, List.map_toArray, List.map_cons, List.map_nil, hs, hx, hrun]
  exact h A' cap' w' h2 h3 h4

/-- append at a plain region's list. -/
theorem wpList_app {P : Program} (w : World) {ops : Array Oper} {rest : List Oper} {o : Oper} {a : Act} {Q : Exit → Act → World → Prop} (hgd : o.guard = none) (s x : Operand) {t e : TypeId} {sz bytes : Nat} (E : ElemT P t e sz bytes)
    (ho : o.op = .call { callee := .builtin .append, args := #[s, x], argTypes := #[t, t] })
    (base : Nat) (v : Value) (n : Nat) (xs : List Value) (hs : a.eval s = v) (hown : w.ownsRow base e sz v n xs)
    (R : Nat → Prop) (v2 : Value) (m : Nat) (news : List Value) (hx : a.eval x = v2) (hr : Sl w R v2 m sz news) (h1 : ∀ u ∈ news, u.oneCell' = true)
    (hbytes : (n + m) * bytes ≤ 140737488355328) (h63 : n + m ≤ maxLen) (hbase : base ≤ w.heap.size)
    (h : ∀ A' cap' w', w'.ownsRow base e sz (.slice A' (n + m) cap') (n + m) (xs ++ news) → w.grownBy w' v.ownBlock → ((Value.slice A' (n + m) cap').ownBlock = v.ownBlock ∨ (Value.slice A' (n + m) cap').ownBlock = some w.heap.size) → wpList P ops Q rest (a.put o.dst (.slice A' (n + m) cap')) w') : wpList P ops Q (o :: rest) a w :=
  wpList_plain hgd fun _ hK => wp_app w s x E ho base v n xs hs hown R v2 m news hx hr h1 hbytes h63 hbase fun A' cap' w' h2 h3 h4 => hK _ _ (h A' cap' w' h2 h3 h4)


theorem grownBy_of_below {a w : World} (h : Below a.heap.size a w) (row : Option Nat) : a.grownBy w row := ⟨h.os, h.tape, h.output, h.size, fun i hi _ => h.block i hi⟩
theorem own_grow {w w' : World} {base : Nat} {e : TypeId} {sz n : Nat} {v : Value} {xs : List Value} (h : w.ownsRow base e sz v n xs) (hb : Below w.heap.size w w') : w'.ownsRow base e sz v n xs :=
  h.kept (grownBy_of_below hb none) (by cases v.ownBlock <;> simp)
theorem grownBy_setCell (w : World) (p : Addr) (u : Value) : w.grownBy (w.setCell p u) (some p.block) :=
  ⟨rfl, rfl, rfl, by simp [World.setCell], fun i _ hne => Below.heap_setCell w p u i (fun e => hne (by rw [e]))⟩
theorem own_mono {w : World} {base base' : Nat} {e : TypeId} {sz n : Nat} {v : Value} {xs : List Value} (h : w.ownsRow base e sz v n xs) (hb : base' ≤ base) : w.ownsRow base' e sz v n xs := by
  obtain ⟨h1, h2⟩ := h
  refine ⟨h1, ?_⟩
  rcases h2 with h2 | ⟨g, cap, cur, hv, hg, r⟩
  · exact .inl h2
  · exact .inr ⟨g, cap, cur, hv, Nat.le_trans hb hg, r⟩
theorem Sl.grown {w w' : World} {R : Nat → Prop} {v : Value} {n sz : Nat} {xs : List Value} {row : Option Nat} (h : Sl w R v n sz xs) (hg : w.grownBy w' row) (hR : ∀ b, b < w.heap.size → R b → some b ≠ row) : Sl w' R v n sz xs :=
  h.keep hg.size fun b hlt hr => hg.block b hlt (hR b hlt hr)
theorem Sl.sized {w : World} {R : Nat → Prop} {v : Value} {n sz : Nat} {xs : List Value} (h : Sl w R v n sz xs) : Sl w (fun b => R b ∧ b < w.heap.size) v n sz xs := h.mono fun _ hlt hr => ⟨hr, hlt⟩

end Go.Proofs.Ytcigobiolbojhaa.Vb

/- Secret bids; sealed.coins; who may not bid. -/
namespace Go.Proofs.Ytcigobiolbojhaa.Vb
open Go.RowKit

structure Sec where
  b : Int
  c : Int
def Sec.wf (s : Sec) : Prop := (-9223372036854775808 ≤ s.b ∧ s.b ≤ 9223372036854775807) ∧ -9223372036854775808 ≤ s.c ∧ s.c ≤ 9223372036854775807
def Sec.cells (s : Sec) : List Value := [.int .i64 s.b, .int .i64 s.c]
def Sec.all (l : List Sec) : List Value := l.flatMap Sec.cells
theorem Sec.all_length (l : List Sec) : (Sec.all l).length = l.length * 2 := by
  induction l with
  | nil => rfl
  | cons o l ih => simp only [Sec.all, List.flatMap_cons, List.length_append] at *; simp [Sec.cells, ih]; omega
theorem Sec.all_fst : ∀ (l : List Sec) (k : Nat) (o : Sec), l[k]? = some o → (Sec.all l)[k * 2]? = some (.int .i64 o.b)
  | [], k, o, h => by simp at h
  | x :: l, 0, o, h => by simp at h; subst h; rfl
  | x :: l, k + 1, o, h => by
    have := Sec.all_fst l k o (by simpa using h)
    simp only [Sec.all, List.flatMap_cons, Sec.cells] at *
    rw [show (k + 1) * 2 = k * 2 + 2 from by omega]
    simpa using this
theorem Sec.all_snd : ∀ (l : List Sec) (k : Nat) (o : Sec), l[k]? = some o → (Sec.all l)[k * 2 + 1]? = some (.int .i64 o.c)
  | [], k, o, h => by simp at h
  | x :: l, 0, o, h => by simp at h; subst h; rfl
  | x :: l, k + 1, o, h => by
    have := Sec.all_snd l k o (by simpa using h)
    simp only [Sec.all, List.flatMap_cons, Sec.cells] at *
    rw [show (k + 1) * 2 + 1 = k * 2 + 1 + 2 from by omega]
    simpa using this
theorem Sec.all_one (l : List Sec) : ∀ u ∈ Sec.all l, u.oneCell' = true := by
  intro u hu
  simp only [Sec.all, List.mem_flatMap] at hu
  obtain ⟨o, _, ho⟩ := hu
  simp [Sec.cells] at ho
  rcases ho with rfl | rfl <;> rfl
theorem Sec.all_app (l : List Sec) (s : Sec) : Sec.all l ++ [.int .i64 s.b, .int .i64 s.c] = Sec.all (l ++ [s]) := by simp [Sec.all, Sec.cells]

/-- The slice v reads as the bids l. -/
def Secs (w : World) (R : Nat → Prop) (v : Value) (l : List Sec) : Prop := Sl w R v l.length 2 (Sec.all l) ∧ ∀ o ∈ l, o.wf
theorem Secs.grow {w w' : World} {R : Nat → Prop} {v : Value} {l : List Sec} (h : Secs w R v l) (hb : Below w.heap.size w w') : Secs w' R v l := ⟨h.1.grow hb, h.2⟩
theorem Secs.alloc {w : World} {R : Nat → Prop} {v : Value} {l : List Sec} (h : Secs w R v l) (o : Obj) : Secs (w.alloc o) R v l := ⟨h.1.alloc o, h.2⟩

def coinB (x : Int) : Bool := decide (0 ≤ x) && decide (x ≤ 1099511627776)
theorem coinB_iff {x : Int} : coinB x = true ↔ 0 ≤ x ∧ x ≤ 1099511627776 := by simp [coinB]
set_option maxHeartbeats 400000 in
theorem coins_any (x : Int) (w : World) : Calls Try.prog 128 #[.int .i64 x] w fun e w' => e = .returned (.bool (coinB x)) ∧ w = w' := by
  by_cases h0 : 0 ≤ x
  · go_enter Try.func128, Try.ntmps128
    go_wp2
    go_ret
    exact ⟨by simp [coinB, h0], rfl⟩
  · go_enter Try.func128, Try.ntmps128
    go_wp2
    go_ret
    exact ⟨by simp [coinB]; omega, rfl⟩

def secBad (s : Sec) : Bool := decide (s.b < 0) || !coinB s.c
set_option maxHeartbeats 400000 in
theorem secBad_any (s : Sec) (w : World) : Calls Try.prog 127 #[.agg #[.int .i64 s.b, .int .i64 s.c]] w fun e w' => e = .returned (.bool (secBad s)) ∧ Below w.heap.size w w' := by
  obtain ⟨b, c⟩ := s
  by_cases h0 : b < 0
  · go_enter Try.func127, Try.ntmps127
    go_wp2
    go_ret
    exact ⟨by simp [secBad, h0], (Below.refl _ _).alloc (Nat.le_refl _) _⟩
  · go_enter Try.func127, Try.ntmps127
    go_wp2_with (go_at_call 128; refine (coins_any _ _).mono ?_; rintro e w1 ⟨rfl, rfl⟩)
    go_ret
    exact ⟨by simp [secBad]; intro h; omega, (Below.refl _ _).alloc (Nat.le_refl _) _⟩

/-- the first bid that may not be, from k on -/
def secAt : List Sec → Option Nat
  | [] => none
  | o :: l => if secBad o then some 0 else (secAt l).map (· + 1)
def secInt (l : List Sec) : Int := match secAt l with | some k => k | none => -1
theorem secAt_none : ∀ l : List Sec, (∀ o ∈ l, secBad o = false) → secAt l = none
  | [], _ => rfl
  | o :: l, h => by simp [secAt, h o (by simp), secAt_none l (fun x hx => h x (by simp [hx]))]
theorem secAt_some : ∀ (l : List Sec) (k : Nat) (o : Sec), l[k]? = some o → secBad o = true → (∀ j x, j < k → l[j]? = some x → secBad x = false) → secAt l = some k
  | [], k, o, h, _, _ => by simp at h
  | x :: l, 0, o, h, hb, _ => by simp at h; subst h; simp [secAt, hb]
  | x :: l, k + 1, o, h, hb, hn => by
    have h0 := hn 0 x (by omega) rfl
    have := secAt_some l k o (by simpa using h) hb (fun j y hj hy => hn (j + 1) y (by omega) (by simpa using hy))
    simp [secAt, h0, this]
theorem secInt_ge (l : List Sec) : decide (0 ≤ secInt l) = l.any secBad := by
  unfold secInt
  induction l with
  | nil => rfl
  | cons o l ih =>
    cases hb : secBad o with
    | true => simp [secAt, hb]
    | false =>
      simp only [secAt, hb, List.any_cons, Bool.false_or]
      rw [← ih]
      cases secAt l with
      | none => rfl
      | some k => simp; omega

set_option maxHeartbeats 400000 in
theorem indexSec_any (l : List Sec) (v : Value) (R : Nat → Prop) (w : World) (hl : Secs w R v l) :
    Calls Try.prog 139 #[v, .func (.func 127) #[] #[]] w fun e w' => e = .returned (.int .i64 (secInt l)) ∧ Below w.heap.size w w' := by
  obtain ⟨⟨_, A, cap, rfl, hncap, hcap, hcells⟩, hwf⟩ := hl
  unfold maxLen at hcap
  have HC := Lib.hid hcells
  have HW := Lib.hid hwf
  clear hcells hwf
  go_enter Try.func139, Try.ntmps139
  go_wp2
  go_loopw [8] (fun i wr => ∃ k : Nat, k ≤ l.length ∧ i = .int .i64 k ∧ Below w.heap.size w wr ∧ ∀ j x, j < k → l[j]? = some x → secBad x = false) (fun i _ => l.length - (intOf i).toNat)
  case atStart => exact ⟨0, Nat.zero_le _, rfl, Below.refl _ _, fun j x hj => by omega⟩
  case round =>
    obtain ⟨k, hk, rfl, hb, hno⟩ := hrel
    have HN := Lib.hid hno
    have HB := Lib.hid hb
    clear hno
    by_cases hlt : k < l.length
    · obtain ⟨bb, off, rfl, _, hbb, hcs⟩ := HC.out (by omega)
      obtain ⟨o, ho⟩ : ∃ o, l[k]? = some o := ⟨_, List.getElem?_eq_getElem hlt⟩
      have c0 : wr.cell? ⟨bb, off + k * 2, none⟩ = some (.int .i64 o.b) := (hb.cell hbb).trans (hcs _ _ (Sec.all_fst l k o ho))
      have c1 : wr.cell? ⟨bb, off + k * 2 + 1, none⟩ = some (.int .i64 o.c) := (hb.cell hbb).trans (hcs _ _ (Sec.all_snd l k o ho))
      have HO := Lib.hid ho
      clear hcs hb ho
      cases hbad : secBad o with
      | true =>
        have HBAD := Lib.hid hbad
        clear hbad
        go_wp2_with (go_at_call 127; refine (secBad_any o _).mono ?_; rintro e w1 ⟨rfl, hb1⟩; rw [HBAD.out]; have HB1 := Lib.hid hb1; clear hb1)
        go_ret
        refine ⟨ret_int ?_, HB.out.trans (HB1.out.mono HB.out.size)⟩
        unfold secInt
        rw [secAt_some l k o HO.out HBAD.out HN.out]
      | false =>
        have HBAD := Lib.hid hbad
        clear hbad
        go_wp2_with (go_at_call 127; refine (secBad_any o _).mono ?_; rintro e w1 ⟨rfl, hb1⟩; rw [HBAD.out]; have HB1 := Lib.hid hb1; clear hb1)
        go_roundw
        case rel =>
          refine ⟨k + 1, by omega, by go_num, HB.out.trans (HB1.out.mono HB.out.size), fun j x hj hx => ?_⟩
          by_cases hjk : j < k
          · exact HN.out j x hjk hx
          · obtain rfl : j = k := by omega
            rw [HO.out] at hx
            cases hx
            exact HBAD.out
        case measure => simp [intOf]; omega
    · clear hb
      go_wp2
      go_ret
      refine ⟨ret_int ?_, HB.out⟩
      unfold secInt
      rw [secAt_none l (fun o ho => ?_)]
      obtain ⟨j, hj, rfl⟩ := List.getElem_of_mem ho
      exact HN.out j _ (by omega) (List.getElem?_eq_getElem hj)

set_option maxHeartbeats 400000 in
theorem containsSec_any (l : List Sec) (v : Value) (R : Nat → Prop) (w : World) (hl : Secs w R v l) :
    Calls Try.prog 129 #[v, .func (.func 127) #[] #[]] w fun e w' => e = .returned (.bool (l.any secBad)) ∧ Below w.heap.size w w' := by
  have hg := secInt_ge l
  rw [← hg]
  clear hg
  go_enter Try.func129, Try.ntmps129
  go_wp2_with (go_at_call 139; refine (indexSec_any l v R _ hl).mono ?_; rintro e w1 ⟨rfl, hb1⟩; have HB1 := Lib.hid hb1; clear hb1)
  go_ret
  exact ⟨rfl, HB1.out⟩
end Go.Proofs.Ytcigobiolbojhaa.Vb

/- A region that draws its order: what is taken first is taken under a condition S; behind the last stores S need not hold. -/
namespace Go.Proofs.Ytcigobiolbojhaa.Vb
open Go

section
variable {P : Program} {ops : Array Oper} {Q : Exit → Act → World → Prop} {md : Region.Mode} {S : World → Prop} {fins : List Nat}

/-- each of the last operations waits for number i -/
def waitB (md : Region.Mode) (ops : Array Oper) (fins : List Nat) (i : Nat) : Bool :=
  fins.all fun j => ((ops[j]?).map fun o => o.after.any fun e => Region.binds md e && decide (e.on = i)).getD false

theorem waitB_spec {i j : Nat} {o : Oper} (h : waitB md ops fins i = true) (hj : fins.contains j = true) (ho : ops[j]? = some o) : ∃ e ∈ o.after, Region.binds md e = true ∧ e.on = i := by
  unfold waitB at h
  have := List.all_eq_true.1 h j (by simpa using hj)
  rw [ho] at this
  obtain ⟨k, hk, h1, h2⟩ : ∃ k, ∃ h : k < o.after.size, Region.binds md o.after[k] = true ∧ o.after[k].on = i := by simpa using this
  exact ⟨_, Array.getElem_mem hk, h1, h2⟩

def wpAnyF (P : Program) (md : Region.Mode) (ops : Array Oper) (Q : Exit → Act → World → Prop) (S : World → Prop) (fins : List Nat) : Nat → Array Bool → Act → World → Prop
  | 0, listed, a, w => Region.ready md ops listed = [] ∧ Q .normal a w
  | fuel + 1, listed, a, w =>
    (Region.ready md ops listed = [] → Q .normal a w) ∧
    ∀ i ∈ Region.ready md ops listed, wpOp P ops Q i (fun a' w' => (fins.contains i = false → S w') ∧ wpAnyF P md ops Q S fins fuel (listed.setIfInBounds i true) a' w') a w

theorem wpAny_of_F : ∀ (fuel : Nat) (listed : Array Bool) (a : Act) (w : World), wpAnyF P md ops Q S fins fuel listed a w → wpAny P md ops Q fuel listed a w
  | 0, _, _, _, h => h
  | fuel + 1, _, _, _, h => ⟨h.1, fun i hi => wpOp_mono (fun a' w' h' => wpAny_of_F fuel _ a' w' h'.2) (h.2 i hi)⟩

theorem wpAnyF_first {i : Nat} {oi : Oper} {v : Value} (hi : ops[i]? = some oi) (hsel : ∀ (j : Nat) (o : Oper) cs b, ops[j]? = some o → o.op ≠ .select cs b)
    (hfin : waitB md ops fins i = true) (hQ : ∀ c a w, Q (.panic c) (a.put oi.dst v) w → Q (.panic c) a w) :
    ∀ (fuel : Nat) (listed : Array Bool) (a : Act) (w : World),
      (∀ j oj, ops[j]? = some oj → j ≠ i → listed.getD j true = false → (∀ e ∈ oj.after, Region.binds md e = true → e.on ≠ i) → oi.apart ops oj = true) →
      i ∈ Region.ready md ops listed → YieldsIf P ops S oi v a → S w →
      wpAnyF P md ops Q S fins fuel (listed.setIfInBounds i true) (a.put oi.dst v) w → wpAnyF P md ops Q S fins (fuel + 1) listed a w := by
  intro fuel
  induction fuel with
  | zero =>
    intro listed a w _ hr hy hS H
    refine ⟨fun h => (by rw [h] at hr; cases hr), fun j hj => ?_⟩
    by_cases hji : j = i
    · subst hji; exact hy.wpOp hi hS ⟨fun _ => hS, H⟩
    · have := ready_mono hj hji
      rw [H.1] at this
      cases this
  | succ fuel ih =>
    intro listed a w hfree hr hy hS H
    refine ⟨fun h => (by rw [h] at hr; cases hr), fun j hj => ?_⟩
    by_cases hji : j = i
    · subst hji; exact hy.wpOp hi hS ⟨fun _ => hS, H⟩
    · have h1 := H.2 j (ready_mono hj hji)
      obtain ⟨hjun, oj, hoj, hall⟩ := mem_ready.1 hj
      have hnot : ∀ e ∈ oj.after, Region.binds md e = true → e.on ≠ i := fun e he hb heq => by
        have h1 := hall e he hb
        have h0 := (mem_ready.1 hr).1
        rw [heq] at h1
        rcases Nat.lt_or_ge i listed.size with h' | h'
        · simp [h'] at h0 h1; rw [h0] at h1; cases h1
        · simp [Array.getElem?_eq_none h'] at h1
      have hnf : fins.contains j = false := by
        cases hc : fins.contains j with
        | false => rfl
        | true =>
          obtain ⟨e, he, hb, heq⟩ := waitB_spec hfin hc hoj
          exact absurd heq (hnot e he hb)
      have h2 := wpOp_putIf hoj (hfree j oj hoj hji hjun hnot) (fun cs b => hsel i oi cs b hi) (fun cs b => hsel j oj cs b hoj) hQ hy h1
      have hfree' : ∀ k ok, ops[k]? = some ok → k ≠ i → (listed.setIfInBounds j true).getD k true = false →
          (∀ e ∈ ok.after, Region.binds md e = true → e.on ≠ i) → oi.apart ops ok = true := fun k ok hk hki hun hno => by
        refine hfree k ok hk hki ?_ hno
        by_cases hjk : j = k
        · subst hjk; exact hjun
        · rw [getD_set_ne true hjk] at hun; exact hun
      refine wpOp_mono (fun a' w' h3 => ⟨h3.2.1, ih (listed.setIfInBounds j true) a' w' hfree' (ready_mono hr (Ne.symm hji)) h3.1 (h3.2.1 hnf) ?_⟩) h2
      rw [Array.setIfInBounds_comm _ _ hji]
      exact h3.2.2

theorem wpAnyF_take {i : Nat} {oi : Oper} {v : Value} {fuel : Nat} {listed : Array Bool} {a : Act} {w : World} (hi : ops[i]? = some oi)
    (hs : Region.noSelect ops = true) (hf : Region.free md ops listed i = true) (hr : (Region.ready md ops listed).contains i = true) (hfin : waitB md ops fins i = true)
    (hQ : ∀ c a w, Q (.panic c) (a.put oi.dst v) w → Q (.panic c) a w) (hy : YieldsIf P ops S oi v a) (hS : S w)
    (h : wpAnyF P md ops Q S fins fuel (listed.setIfInBounds i true) (a.put oi.dst v) w) : wpAnyF P md ops Q S fins (fuel + 1) listed a w :=
  wpAnyF_first hi (Region.noSelect_spec hs) hfin hQ fuel listed a w (Region.free_spec hi hf) (by simpa using hr) hy hS h

theorem wpAnyF_done {listed : Array Bool} {a : Act} {w : World} (hr : Region.ready md ops listed = []) (h : Q .normal a w) : ∀ fuel, wpAnyF P md ops Q S fins fuel listed a w
  | 0 => ⟨hr, h⟩
  | _ + 1 => ⟨fun _ => h, by rw [hr]; simp⟩

def AllReadyF (P : Program) (md : Region.Mode) (ops : Array Oper) (Q : Exit → Act → World → Prop) (S : World → Prop) (fins : List Nat) (fuel : Nat) (listed : Array Bool) (a : Act) (w : World) (rs : List Nat) : Prop :=
  ∀ i ∈ rs, wpOp P ops Q i (fun a' w' => (fins.contains i = false → S w') ∧ wpAnyF P md ops Q S fins fuel (listed.setIfInBounds i true) a' w') a w
theorem AllReadyF.nil {fuel : Nat} {listed : Array Bool} {a : Act} {w : World} : AllReadyF P md ops Q S fins fuel listed a w [] := fun _ h => by cases h
theorem AllReadyF.cons {fuel : Nat} {listed : Array Bool} {a : Act} {w : World} {i : Nat} {o : Oper} {rs : List Nat} (ho : ops[i]? = some o) (hc : fins.contains i = false)
    (h : ∀ K' : Act → World → Prop, Shut (∀ a w, S w → (S w → wpAnyF P md ops Q S fins fuel (listed.setIfInBounds i true) a w) → K' a w) → if Region.wanted o (yielded ops a.tmps) = true then Oper.wp P o a w K' Q else K' (a.put o.dst undef) w)
    (hs : AllReadyF P md ops Q S fins fuel listed a w rs) : AllReadyF P md ops Q S fins fuel listed a w (i :: rs) := fun j hj => by
  rcases List.mem_cons.1 hj with rfl | hj
  · exact wpOp_step ho (fun K' hK => h K' (fun a w hS hW => hK a w ⟨fun _ => hS, hW hS⟩))
  · exact hs j hj
theorem AllReadyF.fin {fuel : Nat} {listed : Array Bool} {a : Act} {w : World} {i : Nat} {o : Oper} {rs : List Nat} (ho : ops[i]? = some o) (hc : fins.contains i = true)
    (h : ∀ K' : Act → World → Prop, Shut (∀ a w, wpAnyF P md ops Q S fins fuel (listed.setIfInBounds i true) a w → K' a w) → if Region.wanted o (yielded ops a.tmps) = true then Oper.wp P o a w K' Q else K' (a.put o.dst undef) w)
    (hs : AllReadyF P md ops Q S fins fuel listed a w rs) : AllReadyF P md ops Q S fins fuel listed a w (i :: rs) := fun j hj => by
  rcases List.mem_cons.1 hj with rfl | hj
  · exact wpOp_step ho (fun K' hK => h K' (fun a w hW => hK a w ⟨fun hf => (by rw [hc] at hf; cases hf), hW⟩))
  · exact hs j hj
theorem wpAnyF_ready {rs : List Nat} {fuel : Nat} {listed : Array Bool} {a : Act} {w : World} (hr : Region.ready md ops listed = rs) (hne : rs ≠ [])
    (h : AllReadyF P md ops Q S fins fuel listed a w rs) : wpAnyF P md ops Q S fins (fuel + 1) listed a w := ⟨fun h0 => absurd (hr ▸ h0) hne, hr ▸ h⟩
theorem wp_region_F {id : Nat} {a : Act} {w : World} (S : World → Prop) (fins : List Nat) (hm : P.follows .mixedOrders = true) (hS : S w.drew)
    (h : S w.drew → wpAnyF P .any ops Q S fins ops.size (Array.replicate ops.size false) a w.drew) : (Code.region id ops true).wp P Q a w :=
  wp_region_any hm (wpAny_of_F _ _ _ _ (h hS))
end
end Go.Proofs.Ytcigobiolbojhaa.Vb

/- sealed.best, sealed.come. -/
namespace Go.Proofs.Ytcigobiolbojhaa.Vb
open Go.RowKit

def beats (a : Option (Nat × Int)) (c : Int) : Bool := match a with | none => true | some (_, c0) => decide (c0 < c)
def bstep (floor but : Int) (i : Nat) (s : Sec) (a : Option (Nat × Int)) : Option (Nat × Int) := if decide ((i : Int) ≠ but) && decide (floor ≤ s.c) && beats a s.c then some (i, s.c) else a
/-- the best of the first k bids: its place, its coins -/
def bestK (floor but : Int) (l : List Sec) : Nat → Option (Nat × Int)
  | 0 => none
  | k + 1 => match l[k]? with | some s => bstep floor but k s (bestK floor but l k) | none => bestK floor but l k
def atI (a : Option (Nat × Int)) : Int := match a with | none => -1 | some (j, _) => j
theorem bestK_succ {floor but : Int} {l : List Sec} {k : Nat} {s : Sec} (h : l[k]? = some s) : bestK floor but l (k + 1) = bstep floor but k s (bestK floor but l k) := by simp [bestK, h]
theorem bestK_get {floor but : Int} {l : List Sec} : ∀ {k j : Nat} {c : Int}, bestK floor but l k = some (j, c) → j < k ∧ ∃ s, l[j]? = some s ∧ s.c = c
  | 0, j, c, h => by simp [bestK] at h
  | k + 1, j, c, h => by
    simp only [bestK] at h
    cases hl : l[k]? with
    | none =>
      rw [hl] at h
      obtain ⟨h1, h2⟩ := bestK_get h
      exact ⟨by omega, h2⟩
    | some s =>
      rw [hl] at h
      simp only [bstep] at h
      split at h
      · simp only [Option.some.injEq, Prod.mk.injEq] at h
        obtain ⟨rfl, rfl⟩ := h
        exact ⟨by omega, s, hl, rfl⟩
      · obtain ⟨h1, h2⟩ := bestK_get h
        exact ⟨by omega, h2⟩

set_option maxRecDepth 100000 in
set_option maxHeartbeats 1600000 in
theorem best_any' (floor but : Int) (l : List Sec) (v : Value) (R : Nat → Prop) (w : World) (hl : Secs w R v l) :
    Calls Try.prog 150 #[.int .i64 floor, v, .int .i64 but] w fun e w' => e = .returned (.int .i64 (atI (bestK floor but l l.length))) ∧ Below w.heap.size w w' := by
  obtain ⟨⟨_, A, cap, rfl, hncap, hcap, hcells⟩, hwf⟩ := hl
  unfold maxLen at hcap
  have HC := Lib.hid hcells
  clear hcells hwf
  go_enter Try.func150, Try.ntmps150
  go_wp2_with fail
  go_loopw [7, 12] (fun a i wr => ∃ k : Nat, k ≤ l.length ∧ i = .int .i64 k ∧ a = .int .i64 (atI (bestK floor but l k)) ∧ Below w.heap.size w wr) (fun _ i _ => l.length - (intOf i).toNat)
  case atStart => exact ⟨0, Nat.zero_le _, rfl, rfl, Below.refl _ _⟩
  case round =>
    obtain ⟨k, hk, rfl, rfl, hb⟩ := hrel
    have HB := Lib.hid hb
    by_cases hlt : k < l.length
    · obtain ⟨bb, off, rfl, _, hbb, hcs⟩ := HC.out (by omega)
      obtain ⟨o, ho⟩ : ∃ o, l[k]? = some o := ⟨_, List.getElem?_eq_getElem hlt⟩
      have c0 : wr.cell? ⟨bb, off + k * 2, none⟩ = some (.int .i64 o.b) := (hb.cell hbb).trans (hcs _ _ (Sec.all_fst l k o ho))
      have c1 : wr.cell? ⟨bb, off + k * 2 + 1, none⟩ = some (.int .i64 o.c) := (hb.cell hbb).trans (hcs _ _ (Sec.all_snd l k o ho))
      have hsu := bestK_succ (floor := floor) (but := but) ho
      have HSU := Lib.hid hsu
      have e1 : (0 : Int) ≤ (k : Int) := by omega
      have e2 : (k : Int) < (l.length : Int) := by omega
      have hbl : ∀ q, Below w.heap.size w ((wr.alloc (.cells #[.int .i64 o.b, .int .i64 o.c] 148)).drewN q) := fun q => below_drewN (HB.out.alloc HB.out.size _) q
      have HBL := Lib.hid hbl
      clear hb ho hsu hbl
      by_cases hk1 : (k : Int) = but
      · have hn : bestK floor but l (k + 1) = bestK floor but l k := by rw [HSU.out, bstep]; simp [hk1]
        have HN := Lib.hid hn
        have hne : ((k : Int) != but) = false := by simpa using hk1
        have HK := Lib.hid hk1
        clear hn hk1 hcs
        go_wp2_with fail
        go_quiet (fail)
        go_wp2_with fail
        go_roundw
        case rel => exact ⟨k + 1, by omega, by go_num, by rw [HN.out], HBL.out _⟩
        case measure => simp [intOf]; omega
      · have hne : ((k : Int) != but) = true := by simpa using hk1
        have HK := Lib.hid hk1
        clear hk1
        by_cases hf : floor ≤ o.c
        · cases hbk : bestK floor but l k with
          | none =>
            have hn : bestK floor but l (k + 1) = some (k, o.c) := by rw [HSU.out, hbk, bstep]; simp [beats, hf]; intro h; exact absurd h HK.out
            have HN := Lib.hid hn
            have hat : atI none = -1 := rfl
            clear hn hcs hbk
            rw [hat]
            go_wp2_with fail
            go_quiet (fail)
            go_wp2_with fail
            go_roundw
            case rel => exact ⟨k + 1, by omega, by go_num, by rw [HN.out]; rfl, HBL.out _⟩
            case measure => simp [intOf]; omega
          | some p =>
            obtain ⟨j, c⟩ := p
            obtain ⟨hjk, s, hs, hsc⟩ := bestK_get hbk
            have d1 : wr.cell? ⟨bb, off + j * 2 + 1, none⟩ = some (.int .i64 c) := by rw [← hsc]; exact (HB.out.cell hbb).trans (hcs _ _ (Sec.all_snd l j s hs))
            have d2 := cellAlloc d1 (.cells #[.int .i64 o.b, .int .i64 o.c] 148)
            have hat : atI (some (j, c)) = (j : Int) := rfl
            have e3 : (0 : Int) ≤ (j : Int) := by omega
            have e4 : (j : Int) < (l.length : Int) := by omega
            rw [hat]
            by_cases hlt2 : c < o.c
            · have hn : bestK floor but l (k + 1) = some (k, o.c) := by rw [HSU.out, hbk, bstep]; simp [beats, hf, hlt2]; intro h; exact absurd h HK.out
              have HN := Lib.hid hn
              clear hn hcs hbk hs hsc hat
              go_wp2_with fail
              go_quiet (fail)
              go_wp2_with fail
              go_roundw
              case rel => exact ⟨k + 1, by omega, by go_num, by rw [HN.out]; rfl, HBL.out _⟩
              case measure => simp [intOf]; omega
            · have hn : bestK floor but l (k + 1) = some (j, c) := by rw [HSU.out, hbk, bstep]; simp [beats, hlt2]
              have HN := Lib.hid hn
              clear hn hcs hbk hs hsc hat
              go_wp2_with fail
              go_quiet (fail)
              go_wp2_with fail
              go_roundw
              case rel => exact ⟨k + 1, by omega, by go_num, by rw [HN.out]; rfl, HBL.out _⟩
              case measure => simp [intOf]; omega
        · have hn : bestK floor but l (k + 1) = bestK floor but l k := by rw [HSU.out, bstep]; simp [hf]
          have HN := Lib.hid hn
          have hfd : decide (floor ≤ o.c) = false := by simpa using hf
          clear hn hcs hf
          go_wp2_with fail
          go_quiet (fail)
          go_wp2_with fail
          go_roundw
          case rel => exact ⟨k + 1, by omega, by go_num, by rw [HN.out], HBL.out _⟩
          case measure => simp [intOf]; omega
    · obtain rfl : k = l.length := by omega
      clear hb
      go_wp2_with fail
      go_ret
      exact ⟨rfl, HB.out⟩
end Go.Proofs.Ytcigobiolbojhaa.Vb

/- offers.Instance, whole. -/
namespace Go.Proofs.Ytcigobiolbojhaa.Vb
open Go.RowKit

set_option maxHeartbeats 800000 in
theorem instance_any (n : Int) (bs : List (List Off)) (v : Value) (R : Nat → Prop) (w : World) (hl : Buys w R v bs) :
    Calls Try.prog 124 #[.agg #[.int .i64 n, v]] w fun e w' => e = .returned (.int .i64 (instE n bs)) ∧ Below w.heap.size w w' := by
  obtain ⟨vs, ⟨hlen, A, cap, rfl, hncap, hcap, hcells⟩, hvs⟩ := id hl
  unfold maxLen at hcap
  have hnl : bs.length ≤ 9223372036854775807 := by omega
  have HB := Lib.hid hl
  have HC := Lib.hid hcells
  have HV := Lib.hid hvs
  clear hl hcells hvs hlen
  by_cases hn : n < 1 ∨ 10 < n
  · have hE : instE n bs = 2 := by unfold instE; rw [if_pos hn]
    have HE := Lib.hid hE
    clear hE
    rcases hn with hn | hn
    all_goals
      go_enter Try.func124, Try.ntmps124
      go_wp2
      all_goals go_ret
      all_goals rw [HE.out]
      all_goals exact ⟨rfl, (Below.refl _ _).alloc (Nat.le_refl _) _⟩
  · by_cases h32 : 32 < bs.length
    · have hE : instE n bs = 3 := by unfold instE; rw [if_neg hn, if_pos (Or.inl h32)]
      have HE := Lib.hid hE
      clear hE
      have hn0 : 1 ≤ n := by omega
      have hn1 : n ≤ 10 := by omega
      clear hn
      go_enter Try.func124, Try.ntmps124
      go_wp2
      all_goals go_ret
      all_goals rw [HE.out]
      all_goals exact ⟨rfl, (Below.refl _ _).alloc (Nat.le_refl _) _⟩
    · have hn0 : 1 ≤ n := by omega
      have hn1 : n ≤ 10 := by omega
      cases hany : bs.any longB with
      | true =>
        have hE : instE n bs = 3 := by unfold instE; rw [if_neg hn, if_pos (Or.inr hany)]
        have HE := Lib.hid hE
        clear hE hn
        go_enter Try.func124, Try.ntmps124
        go_wp2_with (go_at_call 147; refine (contains_any bs _ R _ (HB.out.alloc _)).mono ?_; rintro e w1 ⟨rfl, rfl⟩)
        all_goals go_ret
        all_goals rw [HE.out]
        all_goals exact ⟨rfl, (Below.refl _ _).alloc (Nat.le_refl _) _⟩
      | false =>
        have hE : instE n bs = instLoop n bs := by unfold instE; rw [if_neg hn, if_neg (by rw [hany]; simp; omega)]
        have HE := Lib.hid hE
        clear hE hn
        go_enter Try.func124, Try.ntmps124
        go_wp2_with (go_at_call 147; refine (contains_any bs _ R _ (HB.out.alloc _)).mono ?_; rintro e w1 ⟨rfl, rfl⟩)
        go_loopw [31] (fun i wr => ∃ k : Nat, k ≤ bs.length ∧ i = .int .i64 k ∧ Below (w.heap.size + 1) (w.alloc (.cells #[.int .i64 n, .slice A bs.length cap] 24)) wr ∧ ∀ j x, j < k → bs[j]? = some x → checkE n x = 0) (fun i _ => bs.length - (intOf i).toNat)
        case atStart => exact ⟨0, Nat.zero_le _, rfl, Below.refl _ _, fun j x hj => by omega⟩
        case round =>
          obtain ⟨k, hk, rfl, hb, hno⟩ := hrel
          have HN := Lib.hid hno
          clear hno
          have hb' : Below w.heap.size w wr := ((Below.refl _ _).alloc (Nat.le_refl _) _).trans (hb.mono (by omega))
          have cb0 : wr.cell? ⟨w.heap.size, 0, none⟩ = some (.int .i64 n) := (hb.cell (p := ⟨w.heap.size, 0, none⟩) (by simp)).trans (by simp)
          have cb1 : wr.cell? ⟨w.heap.size, 1, none⟩ = some (.slice A bs.length cap) := (hb.cell (p := ⟨w.heap.size, 1, none⟩) (by simp)).trans (by simp)
          by_cases hlt : k < bs.length
          · obtain ⟨bb, off, rfl, _, hbb, hcs⟩ := HC.out (by omega)
            obtain ⟨l, ho⟩ : ∃ l, bs[k]? = some l := ⟨_, List.getElem?_eq_getElem hlt⟩
            obtain ⟨u, hu, hol⟩ := HV.out k l ho
            have c0 := (hb'.cell hbb).trans (hcs _ _ hu)
            have HOL := Lib.hid (hol.grow hb')
            obtain ⟨⟨_, A', cap', rfl, _⟩, _⟩ := hol
            clear hcs hu
            have HO := Lib.hid ho
            clear ho
            have HBB := Lib.hid hb
            have HBB' := Lib.hid hb'
            clear hb hb'
            by_cases hce : checkE n l = 0
            · have HCE := Lib.hid hce
              clear hce
              go_wp2_with (go_at_call 125; refine (check_any n l _ R _ HOL.out).mono ?_; rintro e w1 ⟨rfl, hb1⟩; rw [HCE.out])
              go_roundw
              case rel =>
                refine ⟨k + 1, by omega, by go_num, HBB.out.trans (hb1.mono (by have := HBB.out.size; simp at this; omega)), fun j x hj hx => ?_⟩
                by_cases hjk : j < k
                · exact HN.out j x hjk hx
                · obtain rfl : j = k := by omega
                  rw [HO.out] at hx
                  cases hx
                  exact HCE.out
              case measure => simp [intOf]; omega
            · have hcb : (checkE n l != 0) = true := by simpa using hce
              have HCE := Lib.hid hce
              clear hce
              go_wp2_with (go_at_call 125; refine (check_any n l _ R _ HOL.out).mono ?_; rintro e w1 ⟨rfl, hb1⟩)
              go_ret
              refine ⟨ret_int ?_, HBB'.out.trans (hb1.mono HBB'.out.size)⟩
              rw [HE.out, instLoop_some n bs k l HO.out HCE.out HN.out]
          · have HBB' := Lib.hid hb'
            clear hb hb'
            go_wp2
            go_ret
            refine ⟨ret_int ?_, HBB'.out⟩
            rw [HE.out, instLoop_none n bs (fun o ho => ?_)]
            obtain ⟨j, hj, rfl⟩ := List.getElem_of_mem ho
            exact HN.out j _ (by omega) (List.getElem?_eq_getElem hj)
end Go.Proofs.Ytcigobiolbojhaa.Vb

/- The element types' rows; slices.Clone. -/
namespace Go.Proofs.Ytcigobiolbojhaa.Vb
open Go.RowKit

theorem et_off : ElemT Try.prog 41 45 2 16 := elemT_of Try.underlying41 (by omega) (z := .agg #[.int .u32 0, .int .i64 0]) (by kernel_rfl) rfl
theorem et_offs : ElemT Try.prog 22 41 1 24 := elemT_of Try.underlying22 (by omega) (z := .slice none 0 0) (by kernel_rfl) rfl
theorem et_i64 : ElemT Try.prog 34 2 1 8 := elemT_of Try.underlying34 (by omega) (z := .int .i64 0) (by kernel_rfl) rfl
theorem et_int : ElemT Try.prog 33 3 1 8 := elemT_of Try.underlying33 (by omega) (z := .int .i64 0) (by kernel_rfl) rfl

theorem Off.all_one (l : List Off) : ∀ u ∈ Off.all l, u.oneCell' = true := by
  intro u hu
  simp only [Off.all, List.mem_flatMap] at hu
  obtain ⟨o, _, ho⟩ := hu
  simp [Off.cells] at ho
  rcases ho with rfl | rfl <;> rfl

set_option maxHeartbeats 400000 in
theorem clone_off (xs : List Value) (n : Nat) (v : Value) (R : Nat → Prop) (w : World) (hl : Sl w R v n 2 xs) (h1 : ∀ u ∈ xs, u.oneCell' = true) (hb : n * 16 ≤ 140737488355328) :
    Calls Try.prog 115 #[v] w fun e w' => ∃ A' cap', e = .returned (.slice A' n cap') ∧ w'.ownsRow w.heap.size 45 2 (.slice A' n cap') n xs ∧ Below w.heap.size w w' := by
  obtain ⟨hlen, A, cap, rfl, hncap, hcap, hcells⟩ := id hl
  have HS := Lib.hid hl
  clear hl hcells
  have hq := fun (W : World) (a : Option Addr) => Lib.run_eql_slice_nil (P := Try.prog) W 41 45 a n cap 0 0 Try.underlying41
  cases A with
  | none =>
    have hn : n = 0 := by
      obtain ⟨_, A, c, h, _, _, hc⟩ := HS.out
      injection h with hA _ _
      subst hA
      rcases Nat.eq_zero_or_pos n with h0 | h0
      · exact h0
      · obtain ⟨b, off, h, _⟩ := hc h0
        cases h
    subst hn
    have hx : xs = [] := List.eq_nil_of_length_eq_zero (by simpa using hlen)
    subst hx
    go_enter Try.func115, Try.ntmps115
    go_wp2
    go_ret
    exact ⟨none, 0, rfl, World.ownsRow_nil _ _ _ _, Below.refl _ _⟩
  | some ad =>
    clear hlen
    go_enter Try.func115, Try.ntmps115
    go_wp2_with (at_builtin; refine wpList_app _ rfl (.tmp 5) (.tmp 6) et_off rfl w.heap.size (.slice (some ⟨w.heap.size, 0, none⟩) 0 0) 0 [] rfl (World.ownsRow_lit w #[] 0 (Nat.le_refl _) (Nat.zero_le _) rfl) R _ n xs rfl (HS.out.alloc _) h1 (by omega) (by unfold maxLen; omega) (by simp) ?_; intro A' cap' w1 hown hg hloc)
    go_ret
    refine ⟨A', cap', by simp, by simpa using hown, ((Below.refl _ _).alloc (Nat.le_refl _) _).grown hg (by simp) (by simp [Value.ownBlock])⟩
end Go.Proofs.Ytcigobiolbojhaa.Vb

/- goods.Copy. -/
namespace Go.Proofs.Ytcigobiolbojhaa.Vb
open Go.RowKit

theorem Offs.grown {w w' : World} {R : Nat → Prop} {v : Value} {l : List Off} {row : Option Nat} (h : Offs w R v l) (hg : w.grownBy w' row) (hR : ∀ b, b < w.heap.size → R b → some b ≠ row) : Offs w' R v l := ⟨h.1.grown hg hR, h.2⟩
theorem Offs.mono {w : World} {R R' : Nat → Prop} {v : Value} {l : List Off} (h : Offs w R v l) (hR : ∀ b, b < w.heap.size → R b → R' b) : Offs w R' v l := ⟨h.1.mono hR, h.2⟩
theorem Buys.grown {w w' : World} {R : Nat → Prop} {v : Value} {bs : List (List Off)} {row : Option Nat} (h : Buys w R v bs) (hg : w.grownBy w' row) (hR : ∀ b, b < w.heap.size → R b → some b ≠ row) : Buys w' R v bs := by
  obtain ⟨vs, hs, ho⟩ := h
  exact ⟨vs, hs.grown hg hR, fun k l hk => let ⟨u, hu, hl⟩ := ho k l hk; ⟨u, hu, hl.grown hg hR⟩⟩
theorem Buys.mono {w : World} {R R' : Nat → Prop} {v : Value} {bs : List (List Off)} (h : Buys w R v bs) (hR : ∀ b, b < w.heap.size → R b → R' b) : Buys w R' v bs := by
  obtain ⟨vs, hs, ho⟩ := h
  exact ⟨vs, hs.mono hR, fun k l hk => let ⟨u, hu, hl⟩ := ho k l hk; ⟨u, hu, hl.mono hR⟩⟩

/-- Small enough to be written anew. -/
def Small (bs : List (List Off)) : Prop := bs.length ≤ 64 ∧ ∀ l ∈ bs, l.length ≤ 64

/-- v is the call's own row of lists (from block lo on), each in memory beside that row. -/
def OwnBuys (w : World) (lo : Nat) (v : Value) (bs : List (List Off)) : Prop :=
  ∃ vs : List Value, w.ownsRow lo 41 1 v bs.length vs ∧ ∀ (k : Nat) (l : List Off), bs[k]? = some l → ∃ u, vs[k]? = some u ∧ Offs w (fun b => lo ≤ b ∧ v.ownBlock ≠ some b) u l

theorem OwnBuys.buys {w : World} {lo : Nat} {v : Value} {bs : List (List Off)} (h : OwnBuys w lo v bs) : Buys w (lo ≤ ·) v bs := by
  obtain ⟨vs, hs, ho⟩ := h
  refine ⟨vs, (Sl.of_own hs).mono fun b _ hb => (hs.lt b hb).1, fun k l hk => ?_⟩
  obtain ⟨u, hu, hl⟩ := ho k l hk
  exact ⟨u, hu, hl.mono fun b _ hb => hb.1⟩
theorem OwnBuys.grow {w w' : World} {lo : Nat} {v : Value} {bs : List (List Off)} (h : OwnBuys w lo v bs) (hb : Below w.heap.size w w') : OwnBuys w' lo v bs := by
  obtain ⟨vs, hs, ho⟩ := h
  exact ⟨vs, own_grow hs hb, fun k l hk => let ⟨u, hu, hl⟩ := ho k l hk; ⟨u, hu, hl.grow hb⟩⟩

theorem OwnBuys.mono {w : World} {lo lo' : Nat} {v : Value} {bs : List (List Off)} (h : OwnBuys w lo v bs) (hl : lo' ≤ lo) : OwnBuys w lo' v bs := by
  obtain ⟨vs, hs, ho⟩ := h
  exact ⟨vs, own_mono hs hl, fun k l hk => let ⟨u, hu, hl'⟩ := ho k l hk; ⟨u, hu, hl'.mono fun b _ hb => ⟨Nat.le_trans hl hb.1, hb.2⟩⟩⟩
theorem OwnBuys.far {w w' : World} {lo : Nat} {v : Value} {bs : List (List Off)} {row : Option Nat} (h : OwnBuys w lo v bs) (hg : w.grownBy w' row) (hr : ∀ k, row = some k → k < lo) : OwnBuys w' lo v bs := by
  obtain ⟨vs, hs, ho⟩ := h
  refine ⟨vs, hs.kept hg ?_, fun k l hk => let ⟨u, hu, hl⟩ := ho k l hk; ⟨u, hu, hl.grown hg fun b _ hb e => by have := hr b e.symm; omega⟩⟩
  cases hv : v.ownBlock with
  | none => exact .inl rfl
  | some g =>
    refine .inr fun e => ?_
    have h1 := (hs.lt g hv).1
    have h2 := hr g e.symm
    omega

theorem OwnBuys.alloc {w : World} {lo : Nat} {v : Value} {bs : List (List Off)} (h : OwnBuys w lo v bs) (o : Obj) : OwnBuys (w.alloc o) lo v bs := h.far (World.grownBy_alloc w o none) (fun k e => by cases e)
theorem OwnBuys.drew {w : World} {lo : Nat} {v : Value} {bs : List (List Off)} (h : OwnBuys w lo v bs) : OwnBuys w.drew lo v bs := h

/-- One list more. -/
theorem OwnBuys.snoc {w w' : World} {lo : Nat} {v : Value} {bs : List (List Off)} {vs : List Value} {l : List Off} {u : Value} {A' : Option Addr} {cap' n : Nat} (hn : bs.length = n)
    (hs : w.ownsRow lo 41 1 v n vs) (ho : ∀ (k : Nat) (l : List Off), bs[k]? = some l → ∃ u, vs[k]? = some u ∧ Offs w (fun b => lo ≤ b ∧ v.ownBlock ≠ some b) u l)
    (hl : Offs w (fun b => lo ≤ b ∧ v.ownBlock ≠ some b) u l)
    (hown : w'.ownsRow lo 41 1 (.slice A' (n + 1) cap') (n + 1) (vs ++ [u])) (hg : w.grownBy w' v.ownBlock)
    (hloc : (Value.slice A' (n + 1) cap').ownBlock = v.ownBlock ∨ (Value.slice A' (n + 1) cap').ownBlock = some w.heap.size) : OwnBuys w' lo (.slice A' (n + 1) cap') (bs ++ [l]) := by
  subst hn
  have hlen : vs.length = bs.length := by simpa using hs.1
  have step : ∀ {u : Value} {l : List Off}, Offs w (fun b => lo ≤ b ∧ v.ownBlock ≠ some b) u l → Offs w' (fun b => lo ≤ b ∧ (Value.slice A' (bs.length + 1) cap').ownBlock ≠ some b) u l := by
    intro u l h
    have h1 : Offs w (fun b => (lo ≤ b ∧ v.ownBlock ≠ some b) ∧ b < w.heap.size) u l := ⟨h.1.sized, h.2⟩
    refine (h1.grown hg fun b _ hb e => hb.1.2 e.symm).mono fun b _ hb => ⟨hb.1.1, fun e => ?_⟩
    rcases hloc with e' | e'
    · exact hb.1.2 (e'.symm.trans e)
    · rw [e'] at e
      injection e with e
      omega
  refine ⟨vs ++ [u], by simpa using hown, fun k l' hk => ?_⟩
  by_cases hkl : k < bs.length
  · rw [List.getElem?_append_left hkl] at hk
    obtain ⟨u', hu', ho'⟩ := ho k l' hk
    exact ⟨u', by rw [List.getElem?_append_left (by omega)]; exact hu', step ho'⟩
  · have : k = bs.length := by
      rcases Nat.lt_or_ge k (bs ++ [l]).length with h | h
      · simp at h; omega
      · rw [List.getElem?_eq_none h] at hk; cases hk
    subst this
    simp at hk
    subst hk
    exact ⟨u, by rw [← hlen]; simp, step hl⟩

set_option maxHeartbeats 800000 in
theorem copy_any (n : Int) (bs : List (List Off)) (v : Value) (R : Nat → Prop) (w : World) (hl : Buys w R v bs) (hsm : Small bs) :
    Calls Try.prog 77 #[.agg #[.int .i64 n, v]] w fun e w' => ∃ A' cap', e = .returned (.agg #[.int .i64 n, .slice A' bs.length cap']) ∧ OwnBuys w' w.heap.size (.slice A' bs.length cap') bs ∧ Below w.heap.size w w' := by
  obtain ⟨vs, ⟨hlen, A, cap, rfl, hncap, hcap, hcells⟩, hvs⟩ := id hl
  have hsm1 := hsm.1
  have HSM := Lib.hid hsm.2
  have HB := Lib.hid hl
  have HC := Lib.hid hcells
  have HV := Lib.hid hvs
  clear hl hcells hvs hlen hcap hsm
  go_enter Try.func77, Try.ntmps77
  go_wp2
  go_loopw [3, 10] (fun s i wr => ∃ k : Nat, k ≤ bs.length ∧ i = .int .i64 k ∧ (∃ A' cap', s = .slice A' k cap' ∧ OwnBuys wr (w.heap.size + 2) (.slice A' k cap') (bs.take k)) ∧
      Below (w.heap.size + 2) ((w.alloc (.cells #[.int .i64 n, .slice A bs.length cap] 24)).alloc (.cells #[.int .i64 0, .slice none 0 0] 24)) wr) (fun _ i _ => bs.length - (intOf i).toNat)
  case atStart =>
    refine ⟨0, Nat.zero_le _, rfl, ⟨_, _, rfl, [], ?_, fun k l hk => by simp at hk⟩, (Below.refl _ _).alloc (by simp) _⟩
    simpa using own_empty (base := w.heap.size + 2) ((w.alloc (.cells #[.int .i64 n, .slice A bs.length cap] 24)).alloc (.cells #[.int .i64 0, .slice none 0 0] 24)) (by simp) 41 1
  case round =>
    obtain ⟨k, hk, rfl, ⟨A', cap', rfl, hob⟩, hb⟩ := hrel
    have hb' : Below w.heap.size w wr := (((Below.refl _ _).alloc (Nat.le_refl _) _).alloc (by simp) _).trans (hb.mono (by omega))
    have hsz : w.heap.size + 2 ≤ wr.heap.size := by have := hb.size; simpa using this
    by_cases hlt : k < bs.length
    · obtain ⟨bb, off, rfl, _, hbb, hcs⟩ := HC.out (by omega)
      obtain ⟨l, ho⟩ : ∃ l, bs[k]? = some l := ⟨_, List.getElem?_eq_getElem hlt⟩
      obtain ⟨u, hu, hol⟩ := HV.out k l ho
      have c0 := (hb'.cell hbb).trans (hcs _ _ hu)
      have HOL := Lib.hid (hol.grow hb')
      have hll : l.length ≤ 64 := HSM.out l (List.mem_of_getElem? ho)
      obtain ⟨⟨_, A1, cap1, rfl, _⟩, _⟩ := hol
      obtain ⟨vs', hs', ho'⟩ := hob
      have hlk : (bs.take k).length = k := by simp; omega
      rw [hlk] at hs'
      have HS := Lib.hid hs'
      have HO := Lib.hid ho'
      have HK := Lib.hid ho
      have HBB := Lib.hid hb
      have HLK := Lib.hid hlk
      clear hcs hu hb' hb hs' ho' ho hlk
      go_wp2_with (first
        | (go_at_call 115; refine (clone_off (Off.all l) l.length _ R _ HOL.out.1 (Off.all_one l) (by omega)).mono ?_; rintro e w1 ⟨A2, cap2, rfl, hown2, hb2⟩; have HW2 := Lib.hid hown2; have HB2 := Lib.hid hb2; have hsz1 := hb2.size; clear hown2 hb2)
        | (at_builtin; refine wpList_app _ rfl (.tmp 14) (.tmp 17) et_offs rfl (w.heap.size + 2) (.slice A' k cap') k vs' rfl ((own_grow HS.out HB2.out).alloc _) _ _ 1 _ rfl (Sl.new w1 #[.slice A2 l.length cap2] _ 1 1 (by unfold maxLen; omega) rfl) (by simp [Value.oneCell']) (by omega) (by unfold maxLen; omega) (by simp; omega) ?_; intro A3 cap3 w3 hown3 hg3 hloc3; have HW3 := Lib.hid hown3; have HG3 := Lib.hid hg3; have HL3 := Lib.hid hloc3; clear hown3 hg3 hloc3))
      go_roundw
      case rel =>
        have hclone : Offs (w1.alloc (.cells #[.slice A2 l.length cap2] 41)) (fun b => w.heap.size + 2 ≤ b ∧ (Value.slice A' k cap').ownBlock ≠ some b) (.slice A2 l.length cap2) l := by
          refine ⟨((Sl.of_own HW2.out).alloc _).mono fun b _ hb => ⟨?_, fun e => ?_⟩, HOL.out.2⟩
          · have := (HW2.out.lt b hb).1; omega
          · have h1 := (HW2.out.lt b hb).1
            have h2 := (HS.out.lt b e).2
            omega
        have hold : ∀ (j : Nat) (l2 : List Off), (bs.take k)[j]? = some l2 → ∃ u, vs'[j]? = some u ∧ Offs (w1.alloc (.cells #[.slice A2 l.length cap2] 41)) (fun b => w.heap.size + 2 ≤ b ∧ (Value.slice A' k cap').ownBlock ≠ some b) u l2 :=
          fun j l2 hj => let ⟨u, hu, hl⟩ := HO.out j l2 hj; ⟨u, hu, (hl.grow HB2.out).alloc _⟩
        refine ⟨k + 1, by omega, by go_num, ⟨A3, cap3, rfl, ?_⟩, ?_⟩
        · rw [List.take_succ_eq_append_getElem hlt]
          have hkl : bs[k] = l := by have := HK.out; rw [List.getElem?_eq_getElem hlt] at this; injection this
          rw [hkl]
          exact OwnBuys.snoc HLK.out ((own_grow HS.out HB2.out).alloc _) hold hclone HW3.out HG3.out HL3.out
        · exact ((HBB.out.trans (HB2.out.mono (by omega))).alloc (by omega) _).grown HG3.out (by simp; omega) (fun g e => (HS.out.lt g e).1)
      case measure => simp [intOf]; omega
    · obtain rfl : k = bs.length := by omega
      rw [List.take_length] at hob
      have cz1 : wr.cell? ⟨w.heap.size, 0, none⟩ = some (.int .i64 n) := (hb.cell (p := ⟨w.heap.size, 0, none⟩) (by simp)).trans (by simp)
      have cz2 : wr.cell? ⟨w.heap.size, 1, none⟩ = some (.slice A bs.length cap) := (hb.cell (p := ⟨w.heap.size, 1, none⟩) (by simp)).trans (by simp)
      have cy1 : wr.cell? ⟨w.heap.size + 1, 0, none⟩ = some (.int .i64 0) := (hb.cell (p := ⟨w.heap.size + 1, 0, none⟩) (by simp)).trans (by simp)
      have cy2 : wr.cell? ⟨w.heap.size + 1, 1, none⟩ = some (.slice none 0 0) := (hb.cell (p := ⟨w.heap.size + 1, 1, none⟩) (by simp)).trans (by simp)
      have fz1 : ∀ i, wr.frozen? ⟨w.heap.size, i, none⟩ = false := fun i => (hb.frozen (p := ⟨w.heap.size, i, none⟩) (by simp)).trans (by simp)
      have fy1 : ∀ i, wr.frozen? ⟨w.heap.size + 1, i, none⟩ = false := fun i => (hb.frozen (p := ⟨w.heap.size + 1, i, none⟩) (by simp)).trans (by simp)
      have HOB := Lib.hid hob
      have HBB := Lib.hid hb
      have HBB' := Lib.hid hb'
      clear hob hb hb'
      go_wp2
      refine bodyPost_ret (v := .agg #[.int .i64 n, .slice A' bs.length cap']) (by simp [results, Try.results77, go_sem, cy1, cy2]) rfl ⟨A', cap', rfl, ?_, ?_⟩
      · refine (((HOB.out.far (grownBy_setCell _ ⟨w.heap.size, 1, none⟩ _) ?_).far (grownBy_setCell _ ⟨w.heap.size + 1, 0, none⟩ _) ?_).far (grownBy_setCell _ ⟨w.heap.size + 1, 1, none⟩ _) ?_).mono (by omega)
        all_goals (intro k hk; simp at hk; omega)
      · exact ((HBB'.out.setCell (p := ⟨w.heap.size, 1, none⟩) (Nat.le_refl _) _).setCell (p := ⟨w.heap.size + 1, 0, none⟩) (by simp) _).setCell (p := ⟨w.heap.size + 1, 1, none⟩) (by simp) _
end Go.Proofs.Ytcigobiolbojhaa.Vb

/- offers.With, offers.Without. -/
namespace Go.Proofs.Ytcigobiolbojhaa.Vb
open Go.RowKit

theorem badAt_none_iff (all : Nat) : ∀ l : List Off, badAt all l = none ↔ ∀ o ∈ l, badB all o = false
  | [] => by simp [badAt]
  | o :: l => by
    have := badAt_none_iff all l
    by_cases h : badB all o = true <;> simp [badAt, h, this]

/-- An instance that may be is small. -/
theorem instE_zero {n : Int} {bs : List (List Off)} (h : instE n bs = 0) : 1 ≤ n ∧ n ≤ 10 ∧ bs.length ≤ 32 ∧ (∀ l ∈ bs, l.length ≤ 8) ∧ ∀ l ∈ bs, checkE n l = 0 := by
  unfold instE at h
  split at h
  · omega
  · split at h
    · omega
    · rename_i h1 h2
      have h3 : ∀ l ∈ bs, longB l = false := by
        intro l hl
        cases hb : longB l with
        | false => rfl
        | true => exact absurd (Or.inr (List.any_eq_true.2 ⟨l, hl, hb⟩)) h2
      refine ⟨by omega, by omega, by omega, fun l hl => by simpa [longB] using h3 l hl, ?_⟩
      clear h2 h3
      induction bs with
      | nil => simp
      | cons l bs ih =>
        simp only [instLoop] at h
        by_cases hc : checkE n l = 0
        · simp only [hc, ne_eq, not_true_eq_false, if_false] at h
          intro x hx
          rcases List.mem_cons.1 hx with rfl | hx
          · exact hc
          · exact ih h x hx
        · simp only [ne_eq, hc, not_false_eq_true, if_true] at h

theorem instE_small {n : Int} {bs : List (List Off)} (h : instE n bs = 0) : Small bs := by
  obtain ⟨_, _, h1, h2, _⟩ := instE_zero h
  exact ⟨by omega, fun l hl => by have := h2 l hl; omega⟩

def withE (n : Int) (bs : List (List Off)) (buyer : Int) (l : List Off) : Int :=
  if instE n bs ≠ 0 then instE n bs else if buyer < 0 ∨ (bs.length : Int) ≤ buyer then 2 else checkE n l

/-- Behind two new blocks. -/
theorem two_new {w w1 : World} {c0 c1 d0 d1 : Value} {t u : TypeId} (hb : Below (w.heap.size + 2) ((w.alloc (.cells #[c0, c1] t)).alloc (.cells #[d0, d1] u)) w1) :
    w1.cell? ⟨w.heap.size, 0, none⟩ = some c0 ∧ w1.cell? ⟨w.heap.size, 1, none⟩ = some c1 ∧ w1.cell? ⟨w.heap.size + 1, 0, none⟩ = some d0 ∧ w1.cell? ⟨w.heap.size + 1, 1, none⟩ = some d1 ∧
      (∀ i, w1.frozen? ⟨w.heap.size, i, none⟩ = false) ∧ (∀ i, w1.frozen? ⟨w.heap.size + 1, i, none⟩ = false) ∧ w.heap.size + 2 ≤ w1.heap.size ∧ Below w.heap.size w w1 := by
  have hs := hb.size
  simp at hs
  exact ⟨(hb.cell (p := ⟨w.heap.size, 0, none⟩) (by simp)).trans (by simp), (hb.cell (p := ⟨w.heap.size, 1, none⟩) (by simp)).trans (by simp),
    (hb.cell (p := ⟨w.heap.size + 1, 0, none⟩) (by simp)).trans (by simp), (hb.cell (p := ⟨w.heap.size + 1, 1, none⟩) (by simp)).trans (by simp),
    fun i => (hb.frozen (p := ⟨w.heap.size, i, none⟩) (by simp)).trans (by simp), fun i => (hb.frozen (p := ⟨w.heap.size + 1, i, none⟩) (by simp)).trans (by simp), hs,
    (((Below.refl _ _).alloc (Nat.le_refl _) _).alloc (by simp) _).trans (hb.mono (by omega))⟩

set_option maxHeartbeats 800000 in
theorem with_err (n : Int) (bs : List (List Off)) (buyer : Int) (l : List Off) (v v2 : Value) (R R2 : Nat → Prop) (w : World) (hl : Buys w R v bs) (hl2 : Offs w R2 v2 l) (he : withE n bs buyer l ≠ 0) :
    Calls Try.prog 89 #[.agg #[.int .i64 n, v], .int .i64 buyer, v2] w fun e w' => e = .returned (.tuple #[.agg #[.int .i64 0, .slice none 0 0], .int .i64 (withE n bs buyer l)]) ∧ Below w.heap.size w w' := by
  obtain ⟨vs, ⟨hlen, A, cap, rfl, hncap, hcap, hcells⟩, hvs⟩ := id hl
  have HB := Lib.hid hl
  have HB2 := Lib.hid hl2
  clear hl hl2 hcells hvs hlen hcap
  by_cases hi : instE n bs = 0
  · have hlen32 := (instE_zero hi).2.2.1
    by_cases hbu : buyer < 0 ∨ (bs.length : Int) ≤ buyer
    · have hE : withE n bs buyer l = 2 := by unfold withE; rw [if_neg (by simpa using hi), if_pos hbu]
      have HE := Lib.hid hE
      have HI := Lib.hid hi
      clear hE he hi
      rcases hbu with hbu | hbu
      all_goals
        go_enter Try.func89, Try.ntmps89
        go_wp2_with (go_at_call 124; refine (instance_any n bs _ R _ ((HB.out.alloc _).alloc _)).mono ?_; rintro e w1 ⟨rfl, hb1⟩; rw [HI.out]; obtain ⟨cx0, cx1, cy0, cy1, fx, fy, hs1, hb1'⟩ := two_new (by simpa using hb1))
        all_goals refine bodyPost_ret (v := .tuple #[.agg #[.int .i64 0, .slice none 0 0], .int .i64 2]) (by simp [results, Try.results89, go_sem, cy0, cy1]) rfl ⟨by rw [HE.out], ?_⟩
        all_goals exact (hb1'.setCell (p := ⟨w.heap.size + 1, 0, none⟩) (by simp) _).setCell (p := ⟨w.heap.size + 1, 1, none⟩) (by simp) _
    · have hE : withE n bs buyer l = checkE n l := by unfold withE; rw [if_neg (by simpa using hi), if_neg hbu]
      rw [hE] at he
      have hcb : (checkE n l != 0) = true := by simpa using he
      have hb0 : 0 ≤ buyer := by omega
      have hb1 : buyer < bs.length := by omega
      have HE := Lib.hid hE
      have HI := Lib.hid hi
      clear hE he hi hbu
      go_enter Try.func89, Try.ntmps89
      go_wp2_with (first
        | (go_at_call 124; refine (instance_any n bs _ R _ ((HB.out.alloc _).alloc _)).mono ?_; rintro e w1 ⟨rfl, hb1⟩; rw [HI.out]; obtain ⟨cx0, cx1, cy0, cy1, fx, fy, hs1, hb1'⟩ := two_new (by simpa using hb1))
        | (go_at_call 125; refine (check_any n l _ R2 _ (HB2.out.grow hb1')).mono ?_; rintro e w2 ⟨rfl, hb2⟩; obtain ⟨dx0, dx1, dy0, dy1, gx, gy, hs2, hb2'⟩ := two_new ((show Below (w.heap.size + 2) _ _ from by simpa using hb1).trans (hb2.mono (by omega)))))
      refine bodyPost_ret (v := .tuple #[.agg #[.int .i64 0, .slice none 0 0], .int .i64 (checkE n l)]) (by simp [results, Try.results89, go_sem, dy0, dy1]) rfl ⟨by rw [HE.out], ?_⟩
      exact (hb2'.setCell (p := ⟨w.heap.size + 1, 0, none⟩) (by simp) _).setCell (p := ⟨w.heap.size + 1, 1, none⟩) (by simp) _
  · have hE : withE n bs buyer l = instE n bs := by unfold withE; rw [if_pos (by simpa using hi)]
    have hcb : (instE n bs != 0) = true := by simpa using hi
    have HE := Lib.hid hE
    clear hE he hi
    go_enter Try.func89, Try.ntmps89
    go_wp2_with (go_at_call 124; refine (instance_any n bs _ R _ ((HB.out.alloc _).alloc _)).mono ?_; rintro e w1 ⟨rfl, hb1⟩; obtain ⟨cx0, cx1, cy0, cy1, fx, fy, hs1, hb1'⟩ := two_new (by simpa using hb1))
    refine bodyPost_ret (v := .tuple #[.agg #[.int .i64 0, .slice none 0 0], .int .i64 (instE n bs)]) (by simp [results, Try.results89, go_sem, cy0, cy1]) rfl ⟨by rw [HE.out], ?_⟩
    exact (hb1'.setCell (p := ⟨w.heap.size + 1, 0, none⟩) (by simp) _).setCell (p := ⟨w.heap.size + 1, 1, none⟩) (by simp) _
end Go.Proofs.Ytcigobiolbojhaa.Vb

/- offers.With where it may be; offers.Without. -/
namespace Go.Proofs.Ytcigobiolbojhaa.Vb
open Go.RowKit

theorem OwnBuys.form {w : World} {lo n cap : Nat} {A : Option Addr} {bs : List (List Off)} (h : OwnBuys w lo (.slice A n cap) bs) (hn : bs.length = n) (h0 : 0 < n) :
    ∃ g, A = some ⟨g, 0, none⟩ ∧ lo ≤ g ∧ g < w.heap.size ∧ n ≤ cap ∧ (∀ i, w.frozen? ⟨g, i, none⟩ = false) ∧ ∀ k, k < n → ∃ u, w.cell? ⟨g, k, none⟩ = some u := by
  obtain ⟨vs, hs, ho⟩ := h
  rw [hn] at hs
  have hl := hs.1
  rcases hs.2 with ⟨_, h⟩ | ⟨g, cap', cur, hv, hg, hh, hnc, _⟩
  · omega
  · injection hv with hA _ hc
    subst hA hc
    refine ⟨g, rfl, hg, (Array.getElem?_eq_some_iff.1 hh).1, hnc, fun i => hs.frozenAt i, fun k hk => ?_⟩
    have hx : vs[k]? = some vs[k] := List.getElem?_eq_getElem (by omega)
    exact ⟨_, (hs.cellAt k (by omega)).trans hx⟩

theorem OwnBuys.set {w : World} {lo n cap g : Nat} {bs : List (List Off)} {l : List Off} {u : Value} (h : OwnBuys w lo (.slice (some ⟨g, 0, none⟩) n cap) bs) (hn : bs.length = n) (k : Nat)
    (hl : Offs w (fun b => lo ≤ b ∧ b ≠ g) u l) : OwnBuys (w.setCell ⟨g, k, none⟩ u) lo (.slice (some ⟨g, 0, none⟩) n cap) (bs.set k l) := by
  subst hn
  obtain ⟨vs, hs, ho⟩ := h
  obtain ⟨h1, h2⟩ := hs.stored k u
  have hlen : vs.length = bs.length := by simpa using hs.1
  have step : ∀ {u' : Value} {l' : List Off}, Offs w (fun b => lo ≤ b ∧ (Value.slice (some ⟨g, 0, none⟩) bs.length cap).ownBlock ≠ some b) u' l' → Offs (w.setCell ⟨g, k, none⟩ u) (fun b => lo ≤ b ∧ (Value.slice (some ⟨g, 0, none⟩) bs.length cap).ownBlock ≠ some b) u' l' :=
    fun h => h.grown h2 fun b _ hb e => hb.2 (by rw [e]; rfl)
  refine ⟨vs.set k u, by simpa using h1, fun j l' hj => ?_⟩
  rw [List.getElem?_set] at hj
  split at hj
  · rename_i hkj
    subst hkj
    split at hj
    · injection hj with hj
      subst hj
      exact ⟨u, by rw [List.getElem?_set]; simp; omega, step (hl.mono fun b _ hb => ⟨hb.1, fun e => hb.2 (by simp [Value.ownBlock] at e; exact e.symm)⟩)⟩
    · cases hj
  · rename_i hkj
    obtain ⟨u', hu', ho'⟩ := ho j l' hj
    exact ⟨u', by rw [List.getElem?_set, if_neg hkj]; exact hu', step ho'⟩

set_option maxHeartbeats 1600000 in
theorem with_ok (n : Int) (bs : List (List Off)) (buyer : Int) (l : List Off) (v v2 : Value) (R R2 : Nat → Prop) (w : World) (hl : Buys w R v bs) (hl2 : Offs w R2 v2 l) (he : withE n bs buyer l = 0) :
    Calls Try.prog 89 #[.agg #[.int .i64 n, v], .int .i64 buyer, v2] w fun e w' => ∃ A' cap', e = .returned (.tuple #[.agg #[.int .i64 n, .slice A' bs.length cap'], .int .i64 0]) ∧
      OwnBuys w' w.heap.size (.slice A' bs.length cap') (bs.set buyer.toNat l) ∧ Below w.heap.size w w' := by
  have hi : instE n bs = 0 := by
    by_cases h : instE n bs = 0
    · exact h
    · unfold withE at he; rw [if_pos h] at he; exact absurd he h
  have hbu : ¬ (buyer < 0 ∨ (bs.length : Int) ≤ buyer) := by
    intro h
    unfold withE at he
    rw [if_neg (by simpa using hi), if_pos h] at he
    omega
  have hc : checkE n l = 0 := by unfold withE at he; rwa [if_neg (by simpa using hi), if_neg hbu] at he
  have hl8 : l.length ≤ 8 := by
    unfold checkE at hc
    split at hc
    · omega
    · split at hc
      · omega
      · omega
  have hsm := Lib.hid (instE_small hi)
  have hlen32 := (instE_zero hi).2.2.1
  have hb0 : 0 ≤ buyer := by omega
  have hb1 : buyer < bs.length := by omega
  clear hbu he
  obtain ⟨bu, rfl⟩ := Int.eq_ofNat_of_zero_le hb0
  rw [Int.toNat_natCast]
  have hbn : bu < bs.length := by omega
  obtain ⟨vs, ⟨hlen, A, cap, rfl, hncap, hcap, hcells⟩, hvs⟩ := id hl
  obtain ⟨⟨_, A2, cap2, rfl, _⟩, _⟩ := id hl2
  have HB := Lib.hid hl
  have HB2 := Lib.hid hl2
  have HI := Lib.hid hi
  have HC := Lib.hid hc
  clear hl hl2 hcells hvs hlen hcap hi hc
  go_enter Try.func89, Try.ntmps89
  go_wp2_with (first
    | (go_at_call 124; refine (instance_any n bs _ R _ ((HB.out.alloc _).alloc _)).mono ?_; rintro e w1 ⟨rfl, hb1⟩; rw [HI.out]; have hb1a := hb1.mono (B' := w.heap.size + 2) (by simp); obtain ⟨cx0, cx1, cy0, cy1, fx, fy, hs1, hb1'⟩ := two_new hb1a; have HB1 := Lib.hid hb1a; have HB1' := Lib.hid hb1'; clear hb1 hb1a hb1')
    | (go_at_call 125; refine (check_any n l _ R2 _ (HB2.out.grow HB1'.out)).mono ?_; rintro e w2 ⟨rfl, hb2⟩; rw [HC.out]; have hb2a := HB1.out.trans (hb2.mono hs1); obtain ⟨dx0, dx1, dy0, dy1, gx, gy, hs2, hb2'⟩ := two_new hb2a; have HB3 := Lib.hid hb2a; have HB3' := Lib.hid hb2'; clear hb2 hb2a hb2' cx0 cx1 cy0 cy1 fx fy)
    | (go_at_call 77; refine (copy_any n bs _ R _ (HB.out.grow HB3'.out) hsm.out).mono ?_; rintro e w3 ⟨A', cap', rfl, hob, hb3⟩; obtain ⟨g, rfl, hg0, hg1, hnc, hgf, hgc⟩ := hob.form rfl (by omega); have hb3a := HB3.out.trans (hb3.mono hs2); obtain ⟨ex0, ex1, ey0, ey1, hx, hy, hs3, hb3'⟩ := two_new hb3a; have HB4 := Lib.hid hb3a; have HB4' := Lib.hid hb3'; have HOB := Lib.hid hob; clear hb3 hb3a hb3' hob dx0 dx1 dy0 dy1 gx gy))
  obtain ⟨ug, hug⟩ := hgc bu hbn
  have hy1 : (w3.alloc (.cells #[.int .i64 n, .slice (some ⟨g, 0, none⟩) bs.length cap'] 24)).cell? ⟨w3.heap.size, 1, none⟩ = some (.slice (some ⟨g, 0, none⟩) bs.length cap') := by simp
  have hy0 : (w3.alloc (.cells #[.int .i64 n, .slice (some ⟨g, 0, none⟩) bs.length cap'] 24)).cell? ⟨w3.heap.size, 0, none⟩ = some (.int .i64 n) := by simp
  have hgf' : (w3.alloc (.cells #[.int .i64 n, .slice (some ⟨g, 0, none⟩) bs.length cap'] 24)).frozen? ⟨g, bu, none⟩ = false := (World.frozen?_of_block (w := w3) (Below.heap_alloc _ _ _ hg1)).trans (hgf bu)
  have hbi0 : (0 : Int) ≤ (bu : Int) := by omega
  go_region_held3 (fun w' => w'.cell? ⟨w3.heap.size, 1, none⟩ = some (.slice (some ⟨g, 0, none⟩) bs.length cap')) (go_keep)
    ((go_at_call 115; refine (clone_off (Off.all l) l.length _ R2 _ (((HB2.out.grow HB4'.out).alloc _).1.drew) (Off.all_one l) (by omega)).mono ?_; rintro e w5 ⟨A5, cap5, rfl, hown5, hb5⟩; have e5 := (hb5.cell (p := ⟨w3.heap.size, 1, none⟩) (by simp)).trans hy1; have g5 := (hb5.cell (p := ⟨g, bu, none⟩) (by simp; omega)).trans ((cellAlloc hug _)); have f5 := (hb5.frozen (p := ⟨g, bu, none⟩) (by simp; omega)).trans hgf'; have e6 := (World.cell?_setCell_other w5 ⟨g, bu, none⟩ ⟨w3.heap.size, 1, none⟩ (.slice A5 l.length cap5) (fun e => by injection e with e; omega)).trans e5))
  have cy : ∀ i v, w3.cell? ⟨w.heap.size + 1, i, none⟩ = some v → (w5.setCell ⟨g, bu, none⟩ (.slice A5 l.length cap5)).cell? ⟨w.heap.size + 1, i, none⟩ = some v := fun i v h =>
    (World.cell?_setCell_other w5 ⟨g, bu, none⟩ ⟨w.heap.size + 1, i, none⟩ _ (fun e => by injection e with e; omega)).trans ((hb5.cell (p := ⟨w.heap.size + 1, i, none⟩) (by simp; omega)).trans (cellAlloc h _))
  have r0 := cy 0 _ ey0
  have r1 := cy 1 _ ey1
  have rf : ∀ i, (w5.setCell ⟨g, bu, none⟩ (.slice A5 l.length cap5)).frozen? ⟨w.heap.size + 1, i, none⟩ = false := fun i => by
    rw [World.frozen?_setCell]
    exact (hb5.frozen (p := ⟨w.heap.size + 1, i, none⟩) (by simp; omega)).trans ((World.frozen?_of_block (w := w3) (Below.heap_alloc _ _ _ (by simp; omega))).trans (hy i))
  have e60 : (w5.setCell ⟨g, bu, none⟩ (.slice A5 l.length cap5)).cell? ⟨w3.heap.size, 0, none⟩ = some (.int .i64 n) :=
    (World.cell?_setCell_other w5 ⟨g, bu, none⟩ ⟨w3.heap.size, 0, none⟩ _ (fun e => by injection e with e; omega)).trans ((hb5.cell (p := ⟨w3.heap.size, 0, none⟩) (by simp)).trans hy0)
  have HOB6 : Hid (OwnBuys (w5.setCell ⟨g, bu, none⟩ (.slice A5 l.length cap5)) w2.heap.size (.slice (some ⟨g, 0, none⟩) bs.length cap') (bs.set bu l)) := by
    have h1 : OwnBuys w5 w2.heap.size (.slice (some ⟨g, 0, none⟩) bs.length cap') bs := ((HOB.out.alloc _).drew).grow hb5
    refine h1.set rfl bu ⟨(Sl.of_own hown5).mono fun b _ hb => ?_, HB2.out.2⟩
    have := (hown5.lt b hb).1
    simp at this
    exact ⟨by omega, by omega⟩
  have HBL : Hid (Below w.heap.size w (w5.setCell ⟨g, bu, none⟩ (.slice A5 l.length cap5))) :=
    ((HB4'.out.alloc (by omega) _).drew.trans (hb5.mono (B' := w.heap.size) (by simp; omega))).setCell (p := ⟨g, bu, none⟩) (show w.heap.size ≤ g by omega) _
  have hsz5 := hb5.size
  simp at hsz5
  clear hb5 hown5 e5 g5 f5 cy
  go_wp2
  refine bodyPost_ret (v := .tuple #[.agg #[.int .i64 n, .slice (some ⟨g, 0, none⟩) bs.length cap'], .int .i64 0]) (by simp [results, Try.results89, go_sem, r0, r1]) rfl ⟨_, _, rfl, ?_, ?_⟩
  · refine ((HOB6.out.far (grownBy_setCell _ ⟨w.heap.size + 1, 0, none⟩ _) ?_).far (grownBy_setCell _ ⟨w.heap.size + 1, 1, none⟩ _) ?_).mono (by omega)
    all_goals (intro k hk; simp at hk; omega)
  · exact (HBL.out.setCell (p := ⟨w.heap.size + 1, 0, none⟩) (by simp) _).setCell (p := ⟨w.heap.size + 1, 1, none⟩) (by simp) _
end Go.Proofs.Ytcigobiolbojhaa.Vb

/- offers.Without. -/
namespace Go.Proofs.Ytcigobiolbojhaa.Vb
open Go.RowKit

theorem Offs.nil (w : World) (R : Nat → Prop) : Offs w R (.slice none 0 0) [] :=
  ⟨⟨rfl, none, 0, rfl, Nat.le_refl _, Nat.zero_le _, fun h => absurd h (Nat.lt_irrefl _)⟩, fun o h => by cases h⟩

set_option maxHeartbeats 800000 in
theorem without_err (n : Int) (bs : List (List Off)) (buyer : Int) (v : Value) (R : Nat → Prop) (w : World) (hl : Buys w R v bs) (he : withE n bs buyer [] ≠ 0) :
    Calls Try.prog 32 #[.agg #[.int .i64 n, v], .int .i64 buyer] w fun e w' => e = .returned (.tuple #[.agg #[.int .i64 0, .slice none 0 0], .int .i64 (withE n bs buyer [])]) ∧ Below w.heap.size w w' := by
  obtain ⟨vs, ⟨_, A, cap, rfl, _⟩, _⟩ := id hl
  have HB := Lib.hid hl
  have HE := Lib.hid he
  clear hl he
  go_enter Try.func32, Try.ntmps32
  go_wp2_with (go_at_call 89; refine (with_err n bs buyer [] _ _ R R _ ((HB.out.alloc _).alloc _) (Offs.nil _ _) HE.out).mono ?_; rintro e w1 ⟨rfl, hb1⟩; have hb1a := hb1.mono (B' := w.heap.size + 2) (by simp); obtain ⟨cx0, cx1, cy0, cy1, fx, fy, hs1, hb1'⟩ := two_new hb1a)
  refine bodyPost_ret (v := .tuple #[.agg #[.int .i64 0, .slice none 0 0], .int .i64 (withE n bs buyer [])]) (by simp [results, Try.results32, go_sem, cy0, cy1]) rfl ⟨rfl, ?_⟩
  exact (hb1'.setCell (p := ⟨w.heap.size + 1, 0, none⟩) (by simp) _).setCell (p := ⟨w.heap.size + 1, 1, none⟩) (by simp) _

set_option maxHeartbeats 800000 in
theorem without_ok (n : Int) (bs : List (List Off)) (buyer : Int) (v : Value) (R : Nat → Prop) (w : World) (hl : Buys w R v bs) (he : withE n bs buyer [] = 0) :
    Calls Try.prog 32 #[.agg #[.int .i64 n, v], .int .i64 buyer] w fun e w' => ∃ A' cap', e = .returned (.tuple #[.agg #[.int .i64 n, .slice A' bs.length cap'], .int .i64 0]) ∧
      OwnBuys w' w.heap.size (.slice A' bs.length cap') (bs.set buyer.toNat []) ∧ Below w.heap.size w w' := by
  obtain ⟨vs, ⟨_, A, cap, rfl, _⟩, _⟩ := id hl
  have HB := Lib.hid hl
  have HE := Lib.hid he
  clear hl he
  go_enter Try.func32, Try.ntmps32
  go_wp2_with (go_at_call 89; refine (with_ok n bs buyer [] _ _ R R _ ((HB.out.alloc _).alloc _) (Offs.nil _ _) HE.out).mono ?_; rintro e w1 ⟨A1, cap1, rfl, hob, hb1⟩; have hb1a := hb1.mono (B' := w.heap.size + 2) (by simp); obtain ⟨cx0, cx1, cy0, cy1, fx, fy, hs1, hb1'⟩ := two_new hb1a; have HOB := Lib.hid hob; clear hob)
  refine bodyPost_ret (v := .tuple #[.agg #[.int .i64 n, .slice A1 bs.length cap1], .int .i64 0]) (by simp [results, Try.results32, go_sem, cy0, cy1]) rfl ⟨_, _, rfl, ?_, ?_⟩
  · refine ((HOB.out.far (grownBy_setCell _ ⟨w.heap.size + 1, 0, none⟩ _) ?_).far (grownBy_setCell _ ⟨w.heap.size + 1, 1, none⟩ _) ?_).mono (by simp; omega)
    all_goals (intro k hk; simp at hk; simp; omega)
  · exact (hb1'.setCell (p := ⟨w.heap.size + 1, 0, none⟩) (by simp) _).setCell (p := ⟨w.heap.size + 1, 1, none⟩) (by simp) _
end Go.Proofs.Ytcigobiolbojhaa.Vb

/- The greatest worth of a part: plain. -/
namespace Go.Proofs.Ytcigobiolbojhaa.Vb

/-- one offer more looked at -/
def stepO (g : Nat → Int) (f : Nat) (best : Int) (o : Off) : Int := if andNot o.g f = 0 then max best (o.c + g (andNot f o.g)) else best
/-- W of the buyers bs, free goods f -/
def W : List (List Off) → Nat → Int
  | [], _ => 0
  | l :: bs, f => l.foldl (stepO (W bs) f) (W bs f)

/-- offers that may be -/
def Offer1 (o : Off) : Prop := 0 < o.g ∧ o.g < 1024 ∧ 1 ≤ o.c ∧ o.c ≤ 1099511627776
def Okb (bs : List (List Off)) : Prop := bs.length ≤ 32 ∧ ∀ l ∈ bs, l.length ≤ 8 ∧ ∀ o ∈ l, Offer1 o

theorem badB_false {n : Nat} (hn : n ≤ 10) {o : Off} (ho : o.wf) (h : badB (2 ^ n - 1) o = false) : Offer1 o ∧ o.g ≤ 2 ^ n - 1 := by
  simp only [badB, Bool.or_eq_false_iff, beq_eq_false_iff_ne, Bool.not_eq_false', beq_iff_eq, decide_eq_false_iff_not] at h
  obtain ⟨⟨⟨h1, h2⟩, h3⟩, h4⟩ := h
  have hp : 2 ^ n ≤ 1024 := Nat.le_trans (Nat.pow_le_pow_right (by omega) hn) (by decide)
  have hp0 : 0 < 2 ^ n := Nat.two_pow_pos n
  have hle : o.g ≤ 2 ^ n - 1 := by
    -- o.g &&& (2^32-1 - (2^n - 1)) = 0
    unfold andNot at h2
    apply Nat.le_of_lt_succ
    have : o.g < 2 ^ n := by
      apply Nat.lt_pow_two_of_testBit
      intro i hi
      by_cases hi32 : i < 32
      · have h5 : (o.g &&& (4294967295 - (2 ^ n - 1))).testBit i = false := by rw [h2]; simp
        rw [Nat.testBit_and] at h5
        have h6 : (4294967295 - (2 ^ n - 1)).testBit i = true := by
          have e : 4294967295 - (2 ^ n - 1) = 2 ^ 32 - (2 ^ n - 1 + 1) := by omega
          rw [e, Nat.testBit_two_pow_sub_succ (by omega)]
          simp [hi32, Nat.testBit_two_pow_sub_one]
          omega
        rw [h6, Bool.and_true] at h5
        exact h5
      · exact Nat.testBit_lt_two_pow (Nat.lt_of_lt_of_le ho.1 (by
          have : 2 ^ 32 ≤ 2 ^ i := Nat.pow_le_pow_right (by omega) (by omega)
          simpa using this))
    omega
  exact ⟨⟨by omega, by omega, by omega, by omega⟩, hle⟩

theorem okb_of {n : Int} {bs : List (List Off)} (hw : ∀ l ∈ bs, ∀ o ∈ l, o.wf) (h : instE n bs = 0) : Okb bs ∧ ∀ l ∈ bs, ∀ o ∈ l, o.g ≤ 2 ^ n.toNat - 1 := by
  obtain ⟨h1, h2, h3, h4, h5⟩ := instE_zero h
  have hb : ∀ l ∈ bs, ∀ o ∈ l, Offer1 o ∧ o.g ≤ 2 ^ n.toNat - 1 := by
    intro l hl o ho
    have hc := h5 l hl
    have h8 := h4 l hl
    unfold checkE at hc
    rw [if_neg (by omega), if_neg (by omega)] at hc
    cases hb : badAt (2 ^ n.toNat - 1) l with
    | some k => rw [hb] at hc; simp at hc
    | none => exact badB_false (by omega) (hw l hl o ho) ((badAt_none_iff _ l).1 hb o ho)
  exact ⟨⟨h3, fun l hl => ⟨h4 l hl, fun o ho => (hb l hl o ho).1⟩⟩, fun l hl o ho => (hb l hl o ho).2⟩

theorem stepO_ge (g : Nat → Int) (f : Nat) (b : Int) (o : Off) : b ≤ stepO g f b o := by unfold stepO; split <;> omega
theorem fold_ge (g : Nat → Int) (f : Nat) : ∀ (l : List Off) (b : Int), b ≤ l.foldl (stepO g f) b
  | [], _ => Int.le_refl _
  | o :: l, b => Int.le_trans (stepO_ge g f b o) (fold_ge g f l _)
theorem fold_le (g : Nat → Int) (f : Nat) (M : Int) : ∀ (l : List Off) (b : Int), (∀ o ∈ l, andNot o.g f = 0 → o.c + g (andNot f o.g) ≤ M) → b ≤ M → l.foldl (stepO g f) b ≤ M
  | [], _, _, hb => hb
  | o :: l, b, h, hb => by
    refine fold_le g f M l _ (fun x hx => h x (by simp [hx])) ?_
    unfold stepO
    split
    · have := h o (by simp) (by assumption)
      omega
    · exact hb

theorem W_nonneg : ∀ (bs : List (List Off)) (f : Nat), 0 ≤ W bs f
  | [], _ => Int.le_refl _
  | l :: bs, f => Int.le_trans (W_nonneg bs f) (fold_ge _ _ l _)
theorem W_le : ∀ (bs : List (List Off)) (f : Nat), (∀ l ∈ bs, ∀ o ∈ l, Offer1 o) → W bs f ≤ bs.length * 1099511627776
  | [], _, _ => by simp [W]
  | l :: bs, f, h => by
    have h0 := fun f => W_le bs f (fun l hl => h l (by simp [hl]))
    refine fold_le _ _ _ l _ (fun o ho _ => ?_) ?_
    · have h1 := h0 (andNot f o.g)
      have h2 := (h l (by simp) o ho).2.2.2
      simp only [List.length_cons]
      omega
    · have h1 := h0 f
      simp only [List.length_cons]
      omega
theorem Okb.W_le {bs : List (List Off)} (h : Okb bs) (k f : Nat) : W (bs.drop k) f ≤ 35184372088832 := by
  have h1 := Vb.W_le (bs.drop k) f (fun l hl o ho => (h.2 l (List.mem_of_mem_drop hl)).2 o ho)
  have h2 : (bs.drop k).length ≤ 32 := by have := h.1; simp; omega
  omega
theorem Okb.offer {bs : List (List Off)} (h : Okb bs) {k : Nat} {l : List Off} (hk : bs[k]? = some l) {j : Nat} {o : Off} (hj : l[j]? = some o) : Offer1 o :=
  (h.2 l (List.mem_of_getElem? hk)).2 o (List.mem_of_getElem? hj)
theorem Okb.len {bs : List (List Off)} (h : Okb bs) {k : Nat} {l : List Off} (hk : bs[k]? = some l) : l.length ≤ 8 := (h.2 l (List.mem_of_getElem? hk)).1

theorem andNot_zero_right (a : Nat) (h : a < 4294967296) : andNot a 0 = a := by
  unfold andNot
  have : (4294967295 - 0 : Nat) = 2 ^ 32 - 1 := by decide
  rw [this, Nat.and_two_pow_sub_one_eq_mod]
  exact Nat.mod_eq_of_lt (by omega)
theorem W_zero : ∀ (bs : List (List Off)), (∀ l ∈ bs, ∀ o ∈ l, Offer1 o) → W bs 0 = 0
  | [], _ => rfl
  | l :: bs, h => by
    have h0 := W_zero bs (fun l hl => h l (by simp [hl]))
    simp only [W, h0]
    have : ∀ (l' : List Off), (∀ o ∈ l', Offer1 o) → l'.foldl (stepO (W bs) 0) 0 = 0 := by
      intro l'
      induction l' with
      | nil => intro _; rfl
      | cons o l' ih =>
        intro ho
        obtain ⟨h1, h2, _⟩ := ho o (by simp)
        have : stepO (W bs) 0 0 o = 0 := by unfold stepO; rw [andNot_zero_right _ (by omega), if_neg (by omega)]
        rw [List.foldl_cons, this]
        exact ih (fun x hx => ho x (by simp [hx]))
    exact this l (h l (by simp))
theorem W_drop {bs : List (List Off)} {k : Nat} {l : List Off} (h : bs[k]? = some l) (f : Nat) : W (bs.drop k) f = l.foldl (stepO (W (bs.drop (k + 1))) f) (W (bs.drop (k + 1)) f) := by
  have hlt : k < bs.length := (List.getElem?_eq_some_iff.1 h).1
  rw [List.drop_eq_getElem_cons hlt]
  have : bs[k] = l := by rw [List.getElem?_eq_getElem hlt] at h; injection h
  rw [this]
  rfl
theorem W_end (bs : List (List Off)) (f : Nat) : W (bs.drop bs.length) f = 0 := by simp [W]
end Go.Proofs.Ytcigobiolbojhaa.Vb

/- A map's block whose entries are all good. -/
namespace Go.Proofs.Ytcigobiolbojhaa.Vb
open Go.RowKit
open Go.Maps (Keyed)
open Go.WideElems (Fit)

theorem nodup_le {α : Type} : ∀ (l L : List α), l.Nodup → (∀ x ∈ l, x ∈ L) → l.length ≤ L.length
  | [], _, _, _ => Nat.zero_le _
  | x :: l, L, hn, hs => by
    obtain ⟨s, t, rfl⟩ := List.append_of_mem (hs x (by simp))
    have h1 := List.nodup_cons.1 hn
    have := nodup_le l (s ++ t) h1.2 (fun y hy => by
      have := hs y (by simp [hy])
      simp only [List.mem_append, List.mem_cons] at this ⊢
      rcases this with h | rfl | h
      · exact .inl h
      · exact absurd hy h1.1
      · exact .inr h)
    simp only [List.length_append, List.length_cons] at this ⊢
    omega

/-- Block b is a map (keys of type kt, plain elements of type et) all whose entries are good. -/
def MapG (P : Program) (kt et : TypeId) (w : World) (b : Nat) (Good : Value → Value → Prop) : Prop :=
  ∃ es clock, w.heap[b]? = some (.map es clock) ∧ Fit (H := Unit) P kt (plainElem P et) es clock ∧ ∀ x ∈ es.toList, Good x.key x.val

section
variable {P : Program} {kt et : TypeId} {w w' : World} {b : Nat} {Good : Value → Value → Prop}

theorem MapG.lt (h : MapG P kt et w b Good) : b < w.heap.size := by
  obtain ⟨es, clock, hb, _⟩ := h
  exact (Array.getElem?_eq_some_iff.1 hb).1
theorem MapG.of_block (h : MapG P kt et w b Good) (hb : w'.heap[b]? = w.heap[b]?) : MapG P kt et w' b Good := by
  obtain ⟨es, clock, h1, h2, h3⟩ := h
  exact ⟨es, clock, hb.trans h1, h2, h3⟩
theorem MapG.made (w : World) : MapG P kt et (w.alloc (.map #[] 0)) w.heap.size Good :=
  ⟨#[], 0, (MapKept.heap_alloc w _).1, ⟨by simp, MapKept.stamped_empty 0, by simp⟩, by simp⟩
theorem MapG.grow (h : MapG P kt et w b Good) (hb : Below w.heap.size w w') : MapG P kt et w' b Good := h.of_block (hb.block b h.lt)
theorem MapG.alloc (h : MapG P kt et w b Good) (o : Obj) : MapG P kt et (w.alloc o) b Good := h.of_block (Below.heap_alloc w o b h.lt)
theorem MapG.drew (h : MapG P kt et w b Good) : MapG P kt et w.drew b Good := h
theorem MapG.grown {row : Option Nat} (h : MapG P kt et w b Good) (hg : w.grownBy w' row) (hne : some b ≠ row) : MapG P kt et w' b Good := h.of_block (hg.block b h.lt hne)
theorem MapG.setCell (h : MapG P kt et w b Good) {p : Addr} (hne : b ≠ p.block) (u : Value) : MapG P kt et (w.setCell p u) b Good := h.of_block (Below.heap_setCell w p u b hne)
theorem MapG.not_cells (h : MapG P kt et w b Good) {p : Addr} {v : Value} (hc : w.cell? p = some v) : p.block ≠ b := by
  rintro rfl
  obtain ⟨es, clock, h1, _⟩ := h
  simp [World.cell?, h1] at hc

theorem MapG.look {t : TypeId} {q : IntKind} (h : MapG P kt et w b Good) (K : Keyed P kt) (ht : P.underlying t = some (.map kt et)) (hz : ∀ W, (zeroValue et).run P W = .ok (.int q 0) W)
    {key : Value} {kl : Lit} (hkey : keyOf P kt key = some kl) (c : Bool) :
    (∀ W : World, W.heap[b]? = w.heap[b]? → (Instr.lookup t (.map (some b)) key c).run P W = .ok (if c then .tuple #[.int q 0, .bool false] else .int q 0) W) ∨
    ∃ v, (∀ W : World, W.heap[b]? = w.heap[b]? → (Instr.lookup t (.map (some b)) key c).run P W = .ok (if c then .tuple #[v, .bool true] else v) W) ∧ Good key v := by
  obtain ⟨es, clock, hb, F, hg⟩ := h
  by_cases hin : ∃ e0 ∈ es.toList, e0.key = key
  · obtain ⟨e0, he0, hk0⟩ := hin
    refine .inr ⟨e0.val, fun W hW => ?_, by rw [← hk0]; exact hg e0 he0⟩
    rcases Maps.fit_look c K ht (hz W) (hW.trans hb) F hkey with ⟨_, h2, _⟩ | ⟨e1, y, h1, h2, h3, _⟩
    · exact absurd hk0 (h2 e0 he0)
    · have : e1 = e0 := by
        have hn := F.stamped.2.2
        obtain ⟨i, hi, rfl⟩ := List.getElem_of_mem h1
        obtain ⟨j, hj, rfl⟩ := List.getElem_of_mem he0
        have hij : (es.toList.map (·.key))[i]'(by simpa using hi) = (es.toList.map (·.key))[j]'(by simpa using hj) := by simp only [List.getElem_map]; rw [h2, hk0]
        have hp := List.pairwise_iff_getElem.1 hn
        have : i = j := by
          rcases Nat.lt_trichotomy i j with h | h | h
          · exact absurd hij (hp i j (by simpa using hi) (by simpa using hj) h)
          · exact h
          · exact absurd hij.symm (hp j i (by simpa using hj) (by simpa using hi) h)
        subst this
        rfl
      rw [h3, this]
  · refine .inl fun W hW => ?_
    rcases Maps.fit_look c K ht (hz W) (hW.trans hb) F hkey with ⟨h1, _⟩ | ⟨e1, y, h1, h2, h3, _⟩
    · exact h1
    · exact absurd ⟨e1, h1, h2⟩ hin

theorem MapG.store {t : TypeId} {q : IntKind} (h : MapG P kt et w b Good) (K : Keyed P kt) (ht : P.underlying t = some (.map kt et)) (he : P.underlying et = some (.int q))
    {L : List Value} (hL : ∀ k v, Good k v → k ∈ L) (hl : L.length < maxLen) {key : Value} {kl : Lit} (hkey : keyOf P kt key = some kl) {c : Int} (hw : (Lit.int q c).wf = true) (hgd : Good key (.int q c)) :
    ∃ w', (Instr.mapUpdate t (.map (some b)) key (.int q c)).run P w = .ok () w' ∧ MapG P kt et w' b Good ∧ w.grownBy w' (some b) := by
  obtain ⟨es, clock, hb, F, hg⟩ := h
  have hsz : es.size ≤ L.length := by
    have := nodup_le (es.toList.map (·.key)) L F.stamped.2.2 (fun x hx => by
      obtain ⟨e, he, rfl⟩ := List.mem_map.1 hx
      exact hL _ _ (hg e he))
    simpa using this
  obtain ⟨es', clock', hrun, F', _, _, _, hmem⟩ := Maps.fit_store (R' := plainElem P et) (H := Unit) K ht hb F (by omega) (fun _ _ _ _ hz => hz) hkey (plainElem_int he hw)
  refine ⟨_, hrun, ⟨es', clock', ChangeMaps.heap_setBlock_same hb _, F', fun x hx => ?_⟩, ⟨rfl, rfl, rfl, by simp [ChangeMaps.setBlock], fun i _ hi => ChangeMaps.heap_setBlock_other hb _ (fun e => hi (by rw [e]))⟩⟩
  rcases hmem x hx with ⟨h1, _⟩ | ⟨h1, h2⟩
  · exact hg x h1
  · rw [h1, h2]
    exact hgd
end
end Go.Proofs.Ytcigobiolbojhaa.Vb

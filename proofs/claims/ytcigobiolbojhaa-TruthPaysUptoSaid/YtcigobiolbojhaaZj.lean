/- Joined by program: Tru5 Tru6 Tru7 LawU LawV Tru8 Tru9 TruR. -/
import Derived.Test.YtcigobiolbojhaaZi
import Derived.Laws.EntriesVeiled
import Derived.Test.YtcigobiolbojhaaZa
import Derived.Test.YtcigobiolbojhaaZh
import Derived.Test.YtcigobiolbojhaaZe
/- truth.asked. -/
namespace Go.Proofs.Ytcigobiolbojhaa.Vb
open Go.RowKit

/-- what is wrong with the first list that may not be -/
def firstE (n : Int) : List (List Off) → Int
  | [] => 0
  | l :: ls => if checkE n l ≠ 0 then checkE n l else firstE n ls
def askedE (n : Int) (bs : List (List Off)) (buyer r : Int) (ls : List (List Off)) : Int :=
  if instE n bs ≠ 0 then instE n bs else if buyer < 0 ∨ (bs.length : Int) ≤ buyer ∨ ¬(r = 1 ∨ r = 2) then 2 else firstE n ls
theorem firstE_at {n : Int} : ∀ {ls : List (List Off)} {k : Nat} {l : List Off}, ls[k]? = some l → checkE n l ≠ 0 → (∀ j x, j < k → ls[j]? = some x → checkE n x = 0) → firstE n ls = checkE n l
  | [], k, l, h, _, _ => by simp at h
  | x :: ls, 0, l, h, hc, _ => by simp at h; subst h; simp [firstE, hc]
  | x :: ls, k + 1, l, h, hc, hn => by
    have h0 := hn 0 x (by omega) rfl
    have := firstE_at (ls := ls) (k := k) (l := l) (by simpa using h) hc (fun j y hj hy => hn (j + 1) y (by omega) (by simpa using hy))
    simp [firstE, h0, this]
theorem firstE_none {n : Int} : ∀ {ls : List (List Off)}, (∀ l ∈ ls, checkE n l = 0) → firstE n ls = 0
  | [], _ => rfl
  | x :: ls, h => by simp [firstE, h x (by simp), firstE_none (ls := ls) (fun l hl => h l (by simp [hl]))]
theorem firstE_zero {n : Int} : ∀ {ls : List (List Off)}, firstE n ls = 0 → ∀ l ∈ ls, checkE n l = 0
  | [], _, l, hl => by cases hl
  | x :: ls, h, l, hl => by
    simp only [firstE] at h
    split at h
    · rename_i h1; exact absurd h h1
    · rename_i h1
      rcases List.mem_cons.1 hl with rfl | h2
      · simpa using h1
      · exact firstE_zero h l h2
theorem askedE_zero {n : Int} {bs : List (List Off)} {buyer r : Int} {ls : List (List Off)} (h : askedE n bs buyer r ls = 0) : instE n bs = 0 ∧ 0 ≤ buyer ∧ buyer < bs.length ∧ (r = 1 ∨ r = 2) ∧ ∀ l ∈ ls, checkE n l = 0 := by
  unfold askedE at h
  split at h
  · rename_i h1; exact absurd h h1
  · rename_i h1
    split at h
    · omega
    · rename_i h2
      refine ⟨by simpa using h1, by omega, by omega, ?_, firstE_zero h⟩
      by_cases h3 : r = 1 ∨ r = 2
      · exact h3
      · exact absurd (.inr (.inr h3)) h2
/-- the answer: nothing and the error, or a function -/
def AskR29 (n : Int) (bs : List (List Off)) (buyer r : Int) (tr : List Off) (ls : List (List Off)) (w : World) (e : Ending) (w' : World) : Prop :=
  Below w.heap.size w w' ∧ ((askedE n bs buyer r ls ≠ 0 ∧ e = .returned (.tuple #[.nilFunc, .int .i64 (askedE n bs buyer r ls)])) ∨
    (askedE n bs buyer r ls = 0 ∧ ∃ (k b5 b6 b12 b8 : Nat) (vb vt : Value), buyer = (k : Int) ∧ AskC w' (w.heap.size ≤ ·) b5 b6 b12 b8 n bs k r tr vb vt ∧
      e = .returned (.tuple #[.func (.func 144) #[] #[.pointer (some ⟨b5, 0, none⟩), .pointer (some ⟨b6, 0, none⟩), .pointer (some ⟨b12, 0, none⟩), .pointer (some ⟨b8, 0, none⟩)], .int .i64 0])))

theorem eql_fn_nil (fn : Fn) (fi ca : Array Value) (W : World) : (binOp .eql 57 (.func fn fi ca) .nilFunc).run Try.prog W = .ok (.bool false) W := by kernel_rfl
theorem eql_nil_nil (W : World) : (binOp .eql 57 .nilFunc .nilFunc).run Try.prog W = .ok (.bool true) W := by kernel_rfl

set_option maxRecDepth 100000 in
set_option maxHeartbeats 3200000 in
theorem asked29_any (n : Int) (bs : List (List Off)) (buyer r : Int) (tr : List Off) (ts : List (List Off)) (v vt vs : Value) (R Rt Rs : Nat → Prop) (w : World) (hl : Buys w R v bs) (ht : Offs w Rt vt tr) (hs : Buys w Rs vs ts)
    (hts : ts.length ≤ 1000000) (hb : -9223372036854775808 ≤ buyer ∧ buyer ≤ 9223372036854775807) (hr : -9223372036854775808 ≤ r ∧ r ≤ 9223372036854775807) :
    Calls Try.prog 113 #[.agg #[.int .i64 n, v], .int .i64 buyer, .int .i64 r, vt, vs] w fun e w' => AskR29 n bs buyer r tr (tr :: ts) w e w' := by
  obtain ⟨_, ⟨_, A, cap, rfl, _, hcm, _⟩, _⟩ := id hl
  obtain ⟨⟨_, At, capt, rfl, _⟩, _⟩ := id ht
  obtain ⟨vts, ⟨hvl, As, caps, rfl, hsl1, hsl2, hsl3⟩, hvs⟩ := id hs
  have HSL := Lib.hid (show Sl w Rs (.slice As ts.length caps) ts.length 1 vts from ⟨hvl, As, caps, rfl, hsl1, hsl2, hsl3⟩)
  have HVS := Lib.hid hvs
  clear hsl1 hsl2 hsl3 hvs
  have hwb : ∀ l ∈ bs, ∀ o ∈ l, o.wf := hl.wf
  have HBS := Lib.hid hl
  have HT := Lib.hid ht
  have HS := Lib.hid hs
  unfold maxLen at hcm
  clear hl ht hs
  have hie := instE_bd n bs
  obtain ⟨ie, hiee⟩ : ∃ z, z = instE n bs := ⟨_, rfl⟩
  rw [← hiee] at hie
  have HIE := Lib.hid hiee
  obtain ⟨P, hP⟩ : ∃ P : Ending → World → Prop, P = fun e w' => AskR29 n bs buyer r tr (tr :: ts) w e w' := ⟨_, rfl⟩
  rw [← hP]
  have HP := Lib.hid hP
  have hnl := fun q => eql_fn_nil (.func q) #[] #[]
  have hnn := eql_nil_nil
  clear hP hiee
  have hbl : bs.length ≤ 9223372036854775807 := by omega
  have hpfc : (∃ q, payF r = .func (.func q) #[] #[] ∧ (r = 1 ∨ r = 2)) ∨ (payF r = .nilFunc ∧ ¬(r = 1 ∨ r = 2)) := by
    unfold payF
    by_cases h1 : r = 1
    · exact .inl ⟨_, by rw [if_pos h1], .inl h1⟩
    · by_cases h2 : r = 2
      · exact .inl ⟨_, by rw [if_neg h1, if_pos h2], .inr h2⟩
      · exact .inr ⟨by rw [if_neg h1, if_neg h2], by omega⟩
  by_cases hi : ie = 0
  · have HI0 := Lib.hid (show instE n bs = 0 from HIE.out ▸ hi)
    subst hi
    clear hie
    rcases hpfc with ⟨q, hpf, hr12⟩ | ⟨hpf, hr12⟩
    · by_cases hb0 : buyer < 0
      · have HEQ := Lib.hid (show askedE n bs buyer r (tr :: ts) = 2 from by unfold askedE; rw [if_neg (by simpa using HI0.out), if_pos (.inl hb0)])
        have HNZ := Lib.hid (show (2 : Int) ≠ 0 by decide)
        go_enter Try.func113, Try.ntmps113
        go_wp2_with fail
        refine (pays_any r hr _).mono ?_
        rintro e w1 ⟨rfl, rfl⟩
        rw [hpf]
        go_wp2_with fail
        have hc4 : Blk ((((w.alloc (.cells #[.int .i64 n, .slice A bs.length cap] 24)).alloc (.cells #[.int .i64 buyer] 3)).alloc (.cells #[.slice At tr.length capt] 41)).alloc (.cells #[.func (.func q) #[] #[]] 57)) w.heap.size 24 #[.int .i64 n, .slice A bs.length cap] := (((Blk.new' _ _ rfl).alloc _).alloc _).alloc _
        have hd4 : Blk ((((w.alloc (.cells #[.int .i64 n, .slice A bs.length cap] 24)).alloc (.cells #[.int .i64 buyer] 3)).alloc (.cells #[.slice At tr.length capt] 41)).alloc (.cells #[.func (.func q) #[] #[]] 57)) (w.heap.size + 1) 3 #[.int .i64 buyer] := ((Blk.new' _ _ (by simp)).alloc _).alloc _
        have he4 : Blk ((((w.alloc (.cells #[.int .i64 n, .slice A bs.length cap] 24)).alloc (.cells #[.int .i64 buyer] 3)).alloc (.cells #[.slice At tr.length capt] 41)).alloc (.cells #[.func (.func q) #[] #[]] 57)) (w.heap.size + 1 + 1) 41 #[.slice At tr.length capt] := (Blk.new' _ _ (by simp)).alloc _
        have hf4 : Blk ((((w.alloc (.cells #[.int .i64 n, .slice A bs.length cap] 24)).alloc (.cells #[.int .i64 buyer] 3)).alloc (.cells #[.slice At tr.length capt] 41)).alloc (.cells #[.func (.func q) #[] #[]] 57)) (w.heap.size + 1 + 1 + 1) 57 #[.func (.func q) #[] #[]] := Blk.new' _ _ (by simp)
        have hb4 : Below w.heap.size w ((((w.alloc (.cells #[.int .i64 n, .slice A bs.length cap] 24)).alloc (.cells #[.int .i64 buyer] 3)).alloc (.cells #[.slice At tr.length capt] 41)).alloc (.cells #[.func (.func q) #[] #[]] 57)) := ((((Below.refl _ _).alloc (Nat.le_refl _) _).alloc (by simp) _).alloc (by simp; omega) _).alloc (by simp; omega) _
        have hs4 : ((((w.alloc (.cells #[.int .i64 n, .slice A bs.length cap] 24)).alloc (.cells #[.int .i64 buyer] 3)).alloc (.cells #[.slice At tr.length capt] 41)).alloc (.cells #[.func (.func q) #[] #[]] 57)).heap.size = w.heap.size + 4 := by simp
        obtain ⟨W4, hW4⟩ : ∃ V, V = (((w.alloc (.cells #[.int .i64 n, .slice A bs.length cap] 24)).alloc (.cells #[.int .i64 buyer] 3)).alloc (.cells #[.slice At tr.length capt] 41)).alloc (.cells #[.func (.func q) #[] #[]] 57) := ⟨_, rfl⟩
        rw [← hW4] at hc4 hd4 he4 hf4 hb4 hs4 ⊢
        refine (instance_any n bs _ R W4 (HBS.out.grow hb4)).mono ?_
        rintro e w5 ⟨rfl, hb5⟩
        rw [← HIE.out]
        have hs5 : w.heap.size + 4 ≤ w5.heap.size := by rw [← hs4]; exact hb5.size
        have HC5 := Lib.hid (hc4.grow hb5)
        have HD5 := Lib.hid (hd4.grow hb5)
        have HE5 := Lib.hid (he4.grow hb5)
        have HF5 := Lib.hid (hf4.grow hb5)
        have HB5 := Lib.hid (hb4.trans (hb5.mono hb4.size))
        have x0 : w5.cell? ⟨w.heap.size, 0, none⟩ = some (.int .i64 n) := HC5.out.cell 0
        have x1 : w5.cell? ⟨w.heap.size, 1, none⟩ = some (.slice A bs.length cap) := HC5.out.cell 1
        have xb : w5.cell? ⟨w.heap.size + 1, 0, none⟩ = some (.int .i64 buyer) := HD5.out.cell 0
        have xt : w5.cell? ⟨w.heap.size + 1 + 1, 0, none⟩ = some (.slice At tr.length capt) := HE5.out.cell 0
        have xp : w5.cell? ⟨w.heap.size + 1 + 1 + 1, 0, none⟩ = some (.func (.func q) #[] #[]) := HF5.out.cell 0
        clear hc4 hd4 he4 hf4 hb4 hs4 hb5 hW4
        go_wp2_with fail
        show P (.returned (.tuple #[.nilFunc, .int .i64 (2)])) _
        rw [HP.out]
        exact ⟨HB5.out, .inl ⟨by rw [HEQ.out]; exact HNZ.out, by rw [HEQ.out]⟩⟩
      · by_cases hb1 : (bs.length : Int) ≤ buyer
        · have HEQ := Lib.hid (show askedE n bs buyer r (tr :: ts) = 2 from by unfold askedE; rw [if_neg (by simpa using HI0.out), if_pos (.inr (.inl hb1))])
          have HNZ := Lib.hid (show (2 : Int) ≠ 0 by decide)
          go_enter Try.func113, Try.ntmps113
          go_wp2_with fail
          refine (pays_any r hr _).mono ?_
          rintro e w1 ⟨rfl, rfl⟩
          rw [hpf]
          go_wp2_with fail
          have hc4 : Blk ((((w.alloc (.cells #[.int .i64 n, .slice A bs.length cap] 24)).alloc (.cells #[.int .i64 buyer] 3)).alloc (.cells #[.slice At tr.length capt] 41)).alloc (.cells #[.func (.func q) #[] #[]] 57)) w.heap.size 24 #[.int .i64 n, .slice A bs.length cap] := (((Blk.new' _ _ rfl).alloc _).alloc _).alloc _
          have hd4 : Blk ((((w.alloc (.cells #[.int .i64 n, .slice A bs.length cap] 24)).alloc (.cells #[.int .i64 buyer] 3)).alloc (.cells #[.slice At tr.length capt] 41)).alloc (.cells #[.func (.func q) #[] #[]] 57)) (w.heap.size + 1) 3 #[.int .i64 buyer] := ((Blk.new' _ _ (by simp)).alloc _).alloc _
          have he4 : Blk ((((w.alloc (.cells #[.int .i64 n, .slice A bs.length cap] 24)).alloc (.cells #[.int .i64 buyer] 3)).alloc (.cells #[.slice At tr.length capt] 41)).alloc (.cells #[.func (.func q) #[] #[]] 57)) (w.heap.size + 1 + 1) 41 #[.slice At tr.length capt] := (Blk.new' _ _ (by simp)).alloc _
          have hf4 : Blk ((((w.alloc (.cells #[.int .i64 n, .slice A bs.length cap] 24)).alloc (.cells #[.int .i64 buyer] 3)).alloc (.cells #[.slice At tr.length capt] 41)).alloc (.cells #[.func (.func q) #[] #[]] 57)) (w.heap.size + 1 + 1 + 1) 57 #[.func (.func q) #[] #[]] := Blk.new' _ _ (by simp)
          have hb4 : Below w.heap.size w ((((w.alloc (.cells #[.int .i64 n, .slice A bs.length cap] 24)).alloc (.cells #[.int .i64 buyer] 3)).alloc (.cells #[.slice At tr.length capt] 41)).alloc (.cells #[.func (.func q) #[] #[]] 57)) := ((((Below.refl _ _).alloc (Nat.le_refl _) _).alloc (by simp) _).alloc (by simp; omega) _).alloc (by simp; omega) _
          have hs4 : ((((w.alloc (.cells #[.int .i64 n, .slice A bs.length cap] 24)).alloc (.cells #[.int .i64 buyer] 3)).alloc (.cells #[.slice At tr.length capt] 41)).alloc (.cells #[.func (.func q) #[] #[]] 57)).heap.size = w.heap.size + 4 := by simp
          obtain ⟨W4, hW4⟩ : ∃ V, V = (((w.alloc (.cells #[.int .i64 n, .slice A bs.length cap] 24)).alloc (.cells #[.int .i64 buyer] 3)).alloc (.cells #[.slice At tr.length capt] 41)).alloc (.cells #[.func (.func q) #[] #[]] 57) := ⟨_, rfl⟩
          rw [← hW4] at hc4 hd4 he4 hf4 hb4 hs4 ⊢
          refine (instance_any n bs _ R W4 (HBS.out.grow hb4)).mono ?_
          rintro e w5 ⟨rfl, hb5⟩
          rw [← HIE.out]
          have hs5 : w.heap.size + 4 ≤ w5.heap.size := by rw [← hs4]; exact hb5.size
          have HC5 := Lib.hid (hc4.grow hb5)
          have HD5 := Lib.hid (hd4.grow hb5)
          have HE5 := Lib.hid (he4.grow hb5)
          have HF5 := Lib.hid (hf4.grow hb5)
          have HB5 := Lib.hid (hb4.trans (hb5.mono hb4.size))
          have x0 : w5.cell? ⟨w.heap.size, 0, none⟩ = some (.int .i64 n) := HC5.out.cell 0
          have x1 : w5.cell? ⟨w.heap.size, 1, none⟩ = some (.slice A bs.length cap) := HC5.out.cell 1
          have xb : w5.cell? ⟨w.heap.size + 1, 0, none⟩ = some (.int .i64 buyer) := HD5.out.cell 0
          have xt : w5.cell? ⟨w.heap.size + 1 + 1, 0, none⟩ = some (.slice At tr.length capt) := HE5.out.cell 0
          have xp : w5.cell? ⟨w.heap.size + 1 + 1 + 1, 0, none⟩ = some (.func (.func q) #[] #[]) := HF5.out.cell 0
          clear hc4 hd4 he4 hf4 hb4 hs4 hb5 hW4
          go_wp2_with fail
          show P (.returned (.tuple #[.nilFunc, .int .i64 (2)])) _
          rw [HP.out]
          exact ⟨HB5.out, .inl ⟨by rw [HEQ.out]; exact HNZ.out, by rw [HEQ.out]⟩⟩
        · have HEQ := Lib.hid (show askedE n bs buyer r (tr :: ts) = firstE n (tr :: ts) from by unfold askedE; rw [if_neg (by simpa using HI0.out), if_neg (by omega)])
          have HR := Lib.hid hr12
          clear hr12
          go_enter Try.func113, Try.ntmps113
          go_wp2_with fail
          refine (pays_any r hr _).mono ?_
          rintro e w1 ⟨rfl, rfl⟩
          rw [hpf]
          go_wp2_with fail
          have hc4 : Blk ((((w.alloc (.cells #[.int .i64 n, .slice A bs.length cap] 24)).alloc (.cells #[.int .i64 buyer] 3)).alloc (.cells #[.slice At tr.length capt] 41)).alloc (.cells #[.func (.func q) #[] #[]] 57)) w.heap.size 24 #[.int .i64 n, .slice A bs.length cap] := (((Blk.new' _ _ rfl).alloc _).alloc _).alloc _
          have hd4 : Blk ((((w.alloc (.cells #[.int .i64 n, .slice A bs.length cap] 24)).alloc (.cells #[.int .i64 buyer] 3)).alloc (.cells #[.slice At tr.length capt] 41)).alloc (.cells #[.func (.func q) #[] #[]] 57)) (w.heap.size + 1) 3 #[.int .i64 buyer] := ((Blk.new' _ _ (by simp)).alloc _).alloc _
          have he4 : Blk ((((w.alloc (.cells #[.int .i64 n, .slice A bs.length cap] 24)).alloc (.cells #[.int .i64 buyer] 3)).alloc (.cells #[.slice At tr.length capt] 41)).alloc (.cells #[.func (.func q) #[] #[]] 57)) (w.heap.size + 1 + 1) 41 #[.slice At tr.length capt] := (Blk.new' _ _ (by simp)).alloc _
          have hf4 : Blk ((((w.alloc (.cells #[.int .i64 n, .slice A bs.length cap] 24)).alloc (.cells #[.int .i64 buyer] 3)).alloc (.cells #[.slice At tr.length capt] 41)).alloc (.cells #[.func (.func q) #[] #[]] 57)) (w.heap.size + 1 + 1 + 1) 57 #[.func (.func q) #[] #[]] := Blk.new' _ _ (by simp)
          have hb4 : Below w.heap.size w ((((w.alloc (.cells #[.int .i64 n, .slice A bs.length cap] 24)).alloc (.cells #[.int .i64 buyer] 3)).alloc (.cells #[.slice At tr.length capt] 41)).alloc (.cells #[.func (.func q) #[] #[]] 57)) := ((((Below.refl _ _).alloc (Nat.le_refl _) _).alloc (by simp) _).alloc (by simp; omega) _).alloc (by simp; omega) _
          have hs4 : ((((w.alloc (.cells #[.int .i64 n, .slice A bs.length cap] 24)).alloc (.cells #[.int .i64 buyer] 3)).alloc (.cells #[.slice At tr.length capt] 41)).alloc (.cells #[.func (.func q) #[] #[]] 57)).heap.size = w.heap.size + 4 := by simp
          obtain ⟨W4, hW4⟩ : ∃ V, V = (((w.alloc (.cells #[.int .i64 n, .slice A bs.length cap] 24)).alloc (.cells #[.int .i64 buyer] 3)).alloc (.cells #[.slice At tr.length capt] 41)).alloc (.cells #[.func (.func q) #[] #[]] 57) := ⟨_, rfl⟩
          rw [← hW4] at hc4 hd4 he4 hf4 hb4 hs4 ⊢
          refine (instance_any n bs _ R W4 (HBS.out.grow hb4)).mono ?_
          rintro e w5 ⟨rfl, hb5⟩
          rw [← HIE.out]
          have hs5 : w.heap.size + 4 ≤ w5.heap.size := by rw [← hs4]; exact hb5.size
          have HC5 := Lib.hid (hc4.grow hb5)
          have HD5 := Lib.hid (hd4.grow hb5)
          have HE5 := Lib.hid (he4.grow hb5)
          have HF5 := Lib.hid (hf4.grow hb5)
          have HB5 := Lib.hid (hb4.trans (hb5.mono hb4.size))
          have x0 : w5.cell? ⟨w.heap.size, 0, none⟩ = some (.int .i64 n) := HC5.out.cell 0
          have x1 : w5.cell? ⟨w.heap.size, 1, none⟩ = some (.slice A bs.length cap) := HC5.out.cell 1
          have xb : w5.cell? ⟨w.heap.size + 1, 0, none⟩ = some (.int .i64 buyer) := HD5.out.cell 0
          have xt : w5.cell? ⟨w.heap.size + 1 + 1, 0, none⟩ = some (.slice At tr.length capt) := HE5.out.cell 0
          have xp : w5.cell? ⟨w.heap.size + 1 + 1 + 1, 0, none⟩ = some (.func (.func q) #[] #[]) := HF5.out.cell 0
          clear hc4 hd4 he4 hf4 hb4 hs4 hb5 hW4
          have heach : ∀ k, k < 1 + ts.length → ∃ (u : Value) (l : List Off), (tr :: ts)[k]? = some l ∧ ([.slice At tr.length capt] ++ vts)[k]? = some u ∧ Offs w5 (fun _ => True) u l := by
            intro k hk
            cases k with
            | zero => exact ⟨_, tr, rfl, rfl, (HT.out.grow HB5.out).any⟩
            | succ k =>
              have hkt : ts[k]? = some ts[k] := List.getElem?_eq_getElem (by omega)
              obtain ⟨u, hu, ho⟩ := HVS.out k _ hkt
              exact ⟨u, ts[k], by simp, by simpa using hu, (ho.grow HB5.out).any⟩
          have HEA := Lib.hid heach
          have hone : ∀ u ∈ vts, u.oneCell' = true := Sl.one_of (w := w) (R := Rs) (bs := ts) (by simp at hvl; exact hvl) HVS.out
          have HONE := Lib.hid hone
          have hsz5 := hs5
          clear heach hone
          go_wp2_with (at_builtin; go_must (refine wpList_app _ rfl (.tmp 41) (.tmp 42) et_offs rfl w5.heap.size (.slice (some ⟨w5.heap.size, 0, none⟩) 1 1) 1 [.slice At tr.length capt] rfl (World.ownsRow_lit w5 #[.slice At tr.length capt] 1 (Nat.le_refl _) (by unfold maxLen; omega) rfl) Rs _ ts.length vts rfl ((HSL.out.grow HB5.out).alloc _) HONE.out (by omega) (by unfold maxLen; omega) (by simp) ?_); go_must (intro A6 c6 w6 hown6 hg6 hlo6; have HO6 := Lib.hid hown6; have hb6 := ((Below.refl w5.heap.size w5).alloc (Nat.le_refl _) (.cells #[.slice At tr.length capt] 41)).grown hg6 (by simp) (fun r e => by simp [Value.ownBlock] at e; omega); have HB6 := Lib.hid hb6; clear hown6 hg6 hlo6 hb6))
          obtain ⟨g6, cm6, hform, hgm1, hgm2⟩ := World.ownsRow.form HO6.out (by omega)
          injection hform with hA6 _ hc6
          subst hA6 hc6
          go_loopw [45] (fun i wr => ∃ k : Nat, k ≤ 1 + ts.length ∧ i = .int .i64 k ∧ (∀ j x, j < k → (tr :: ts)[j]? = some x → checkE n x = 0) ∧ Below w6.heap.size w6 wr) (fun i _ => 1 + ts.length - (intOf i).toNat)
          case atStart => exact ⟨0, Nat.zero_le _, rfl, fun j x hj => by omega, Below.refl _ _⟩
          case round =>
            obtain ⟨k, hk, rfl, hno, hbr⟩ := hrel
            have HN := Lib.hid hno
            have hb5r := HB6.out.trans (hbr.mono HB6.out.size)
            have HC := Lib.hid (HC5.out.grow hb5r)
            have HD := Lib.hid (HD5.out.grow hb5r)
            have HE := Lib.hid (HE5.out.grow hb5r)
            have HF := Lib.hid (HF5.out.grow hb5r)
            have HBW := Lib.hid (HB5.out.trans (hb5r.mono HB5.out.size))
            have y0 : wr.cell? ⟨w.heap.size, 0, none⟩ = some (.int .i64 n) := HC.out.cell 0
            have y1 : wr.cell? ⟨w.heap.size, 1, none⟩ = some (.slice A bs.length cap) := HC.out.cell 1
            have y2 : wr.cell? ⟨w.heap.size + 1 + 1, 0, none⟩ = some (.slice At tr.length capt) := HE.out.cell 0
            have hszr : w.heap.size + 4 ≤ wr.heap.size := Nat.le_trans hs5 hb5r.size
            have HB5R := Lib.hid hb5r
            have HBR := Lib.hid hbr
            clear hno
            by_cases hlt : k < 1 + ts.length
            · obtain ⟨u, l, hlk, huk, hou⟩ := HEA.out k hlt
              have cu : wr.cell? ⟨g6, k, none⟩ = some u := (hbr.cell (p := ⟨g6, k, none⟩) hgm2).trans ((HO6.out.cellAt k (by simp; omega)).trans huk)
              obtain ⟨⟨_, Au, cu', rfl, _⟩, _⟩ := id hou
              have hcb := checkE_bd n l
              have HOU := Lib.hid (hou.grow hb5r)
              have HLK := Lib.hid hlk
              obtain ⟨z, hz⟩ : ∃ z, z = checkE n l := ⟨_, rfl⟩
              have HZ := Lib.hid hz
              rw [← hz] at hcb
              have e1 : (k : Int) < ((1 + ts.length : Nat) : Int) := by omega
              have e0 : (0 : Int) ≤ (k : Int) := by omega
              clear hbr hb5r hlk huk hou hz
              by_cases hz0 : z = 0
              · subst hz0
                clear hcb
                go_wp2_with (go_at_call 125; refine (check_any n l _ _ _ HOU.out).mono ?_; rintro e w7 ⟨rfl, hb7⟩; rw [← HZ.out]; have HB7 := Lib.hid hb7; clear hb7)
                go_roundw
                case rel =>
                  refine ⟨k + 1, by omega, by go_num, fun j x hj hx => ?_, HBR.out.trans (HB7.out.mono HBR.out.size)⟩
                  by_cases hjk : j < k
                  · exact HN.out j x hjk hx
                  · obtain rfl : j = k := by omega
                    rw [HLK.out] at hx
                    cases hx
                    exact HZ.out.symm
                case measure => simp [intOf]; omega
              · have hne : (z != 0) = true := by simpa using hz0
                have HFE := Lib.hid (show firstE n (tr :: ts) = z from by rw [firstE_at HLK.out (by rw [← HZ.out]; exact hz0) HN.out, HZ.out])
                have HNZ := Lib.hid hz0
                clear hz0
                go_wp2_with (go_at_call 125; refine (check_any n l _ _ _ HOU.out).mono ?_; rintro e w7 ⟨rfl, hb7⟩; rw [← HZ.out]; have HB7 := Lib.hid hb7; clear hb7)
                show P (.returned (.tuple #[.nilFunc, .int .i64 z])) _
                rw [HP.out]
                exact ⟨HBW.out.trans (HB7.out.mono HBW.out.size), .inl ⟨by rw [HEQ.out, HFE.out]; exact HNZ.out, by rw [HEQ.out, HFE.out]⟩⟩
            · obtain rfl : k = 1 + ts.length := by omega
              have HALL := Lib.hid (show firstE n (tr :: ts) = 0 from firstE_none (fun l hl => by
                obtain ⟨j, hj, rfl⟩ := List.getElem_of_mem hl
                exact HN.out j _ (by simp at hj; omega) (List.getElem?_eq_getElem hj)))
              have hsm : Small bs := ⟨by have := (instE_zero HI0.out).2.2.1; omega, fun l hl => by have := (instE_zero HI0.out).2.2.2.1 l hl; omega⟩
              have htr8 : checkE n tr = 0 := HN.out 0 tr (by omega) rfl
              have htr9 := checkE_len htr8
              have HSM := Lib.hid hsm
              clear hbr hb5r hsm htr8 hlt hk
              go_wp2_with fail
              have hcl := fun W hb => clone_off (Off.all tr) tr.length (.slice At tr.length capt) Rt W ((HT.out.grow HBW.out).grow hb).1 (Off.all_one tr) (by omega)
              have HCL := Lib.hid hcl
              clear hcl
              refine wp_region_F (fun W : World => W.cell? ⟨w.heap.size + 1 + 1, 0, none⟩ = some (.slice At tr.length capt)) [5] (by kernel_rfl) (show wr.drew.cell? ⟨w.heap.size + 1 + 1, 0, none⟩ = some (.slice At tr.length capt) from y2) (fun hS => ?_)
              refine wpAnyF_take (i := 2) (oi := { dst := some 62, op := Go.Op.load 41 (Go.Operand.tmp 8), type := 41, pos := "truth.go:105", after := #[], guard := none }) (v := ?_) rfl (by kernel_rfl) (by kernel_rfl) (by kernel_rfl) (by kernel_rfl) (fun _ _ _ h => h) (Or.inl ⟨by rfl, ?_⟩) hS ?_
              rotate_left
              · intro w' hSw; have q2 : w'.cell? ⟨w.heap.size + 1 + 1, 0, none⟩ = some (.slice At tr.length capt) := hSw; go_simp; try with_reducible rfl
              try simp only [Act.put, List.setIfInBounds_toArray, List.set_cons_zero, List.set_cons_succ]
              refine wpAnyF_ready (rs := [0]) (by kernel_rfl) (by simp) ?_
              refine AllReadyF.cons (o := { dst := some 60, op := Go.Op.load 24 (Go.Operand.tmp 5), type := 24, pos := "truth.go:105", after := #[], guard := none }) rfl (by rfl) (fun K hK => ?_) ?_
              · have y0' : wr.drew.cell? ⟨w.heap.size, 0, none⟩ = some (.int .i64 n) := y0
                have y1' : wr.drew.cell? ⟨w.heap.size, 1, none⟩ = some (.slice A bs.length cap) := y1
                go_simp
                refine hK.out _ _ ?_ (fun hS => ?_)
                · exact y2
                clear hK K
                try simp only [Act.put, List.setIfInBounds_toArray, List.set_cons_zero, List.set_cons_succ]
                refine wpAnyF_ready (rs := [1]) (by kernel_rfl) (by simp) ?_
                refine AllReadyF.cons (o := { dst := some 61, op := Go.Op.call { callee := Go.Callee.value (Go.Operand.func 77), args := #[Go.Operand.tmp 60], argTypes := #[24] }, type := 24, pos := "truth.go:105", after := #[{ on := 0, ground := Go.Ground.data }], guard := none }) rfl (by rfl) (fun K hK => ?_) ?_
                · go_simp
                  refine (copy_any n bs _ R _ ((HBS.out.grow HBW.out).grow (Below.refl _ _).drew) HSM.out).mono ?_
                  rintro e w7 ⟨A7, c7, rfl, hob7, hb7⟩
                  refine hK.out _ _ ?_ (fun hS => ?_)
                  · exact (((Below.refl wr.heap.size wr).drew.trans (hb7.mono (by simp))).cell (p := ⟨w.heap.size + 1 + 1, 0, none⟩) (by simp; omega)).trans y2
                  clear hK K
                  try simp only [Act.put, List.setIfInBounds_toArray, List.set_cons_zero, List.set_cons_succ]
                  have HO7 := Lib.hid (show OwnBuys w7 wr.heap.size (.slice A7 bs.length c7) bs from hob7)
                  have HB7 := Lib.hid (((Below.refl wr.heap.size wr).drew).trans (hb7.mono (by simp)))
                  have hs7 := hb7.size
                  clear hb7 hob7
                  refine wpAnyF_ready (rs := [3]) (by kernel_rfl) (by simp) ?_
                  refine AllReadyF.cons (o := { dst := some 63, op := Go.Op.call { callee := Go.Callee.value (Go.Operand.func 115), args := #[Go.Operand.tmp 62], argTypes := #[41] }, type := 41, pos := "truth.go:105", after := #[{ on := 2, ground := Go.Ground.data }, { on := 1, ground := Go.Ground.chain }], guard := none }) rfl (by rfl) (fun K hK => ?_) ?_
                  · go_simp
                    refine (HCL.out _ HB7.out).mono ?_
                    rintro e w8 ⟨A8, c8, rfl, hown8, hb8⟩
                    refine hK.out _ _ ?_ (fun hS => ?_)
                    · exact ((HB7.out.trans (hb8.mono HB7.out.size)).cell (p := ⟨w.heap.size + 1 + 1, 0, none⟩) (by simp; omega)).trans y2
                    clear hK K
                    try simp only [Act.put, List.setIfInBounds_toArray, List.set_cons_zero, List.set_cons_succ]
                    have HO8 := Lib.hid hown8
                    have hbr8 := HB7.out.trans (hb8.mono HB7.out.size)
                    have HB8 := Lib.hid hbr8
                    have HO78 := Lib.hid (HO7.out.grow hb8)
                    have hs8 := hbr8.size
                    have hC8 := HC.out.grow hbr8
                    have hE8 := HE.out.grow hbr8
                    have z0 : w8.cell? ⟨w.heap.size, 0, none⟩ = some (.int .i64 n) := hC8.cell 0
                    have z1 : w8.cell? ⟨w.heap.size, 1, none⟩ = some (.slice A bs.length cap) := hC8.cell 1
                    have z2 : w8.cell? ⟨w.heap.size + 1 + 1, 0, none⟩ = some (.slice At tr.length capt) := hE8.cell 0
                    have f0 := hC8.frozen 0
                    have f1 := hC8.frozen 1
                    have f2 := hE8.frozen 0
                    have HC8 := Lib.hid hC8
                    have HD8 := Lib.hid (HD.out.grow hbr8)
                    have HE8 := Lib.hid hE8
                    have HF8 := Lib.hid (HF.out.grow hbr8)
                    clear hb8 hown8 hbr8 hC8 hE8
                    refine wpAnyF_ready (rs := [4]) (by kernel_rfl) (by simp) ?_
                    refine AllReadyF.cons (o := { dst := none, op := Go.Op.store 24 (Go.Operand.tmp 5) (Go.Operand.tmp 61), type := 0, pos := "truth.go:105", after := #[{ on := 1, ground := Go.Ground.data }, { on := 3, ground := Go.Ground.chain }, { on := 0, ground := Go.Ground.phase }, { on := 1, ground := Go.Ground.phase }, { on := 2, ground := Go.Ground.textOnly Go.Departure.inlinedCapture }, { on := 3, ground := Go.Ground.textOnly Go.Departure.lateStoresUnsure }], guard := none }) rfl (by rfl) (fun K hK => ?_) ?_
                    · go_simp
                      refine hK.out _ _ ?_ (fun hS => ?_)
                      · rw [World.cell?_setCell_other _ _ _ _ (by simp), World.cell?_setCell_other _ _ _ _ (by simp)]
                        exact z2
                      clear hK K
                      try simp only [Act.put, List.setIfInBounds_toArray, List.set_cons_zero, List.set_cons_succ]
                      refine wpAnyF_ready (rs := [5]) (by kernel_rfl) (by simp) ?_
                      refine AllReadyF.fin (o := { dst := none, op := Go.Op.store 41 (Go.Operand.tmp 8) (Go.Operand.tmp 63), type := 0, pos := "truth.go:105", after := #[{ on := 3, ground := Go.Ground.data }, { on := 4, ground := Go.Ground.chain }, { on := 0, ground := Go.Ground.phase }, { on := 1, ground := Go.Ground.phase }, { on := 2, ground := Go.Ground.phase }, { on := 3, ground := Go.Ground.phase }, { on := 4, ground := Go.Ground.phase }], guard := none }) rfl (by rfl) (fun K hK => ?_) ?_
                      · go_simp
                        refine hK.out _ _ ?_
                        clear hK K
                        try simp only [Act.put, List.setIfInBounds_toArray, List.set_cons_zero, List.set_cons_succ]
                        refine wpAnyF_done (by kernel_rfl) ?_ _
                        have hx9 := ((HO78.out.far (grownBy_setCell w8 ⟨w.heap.size, 0, none⟩ (.int .i64 n)) (fun j e => by simp at e; omega)).far (grownBy_setCell _ ⟨w.heap.size, 1, none⟩ (.slice A7 bs.length c7)) (fun j e => by simp at e; omega)).far (grownBy_setCell _ ⟨w.heap.size + 1 + 1, 0, none⟩ (.slice A8 tr.length c8)) (fun j e => by simp at e; omega)
                        have hs7' : w.heap.size + 4 ≤ w7.heap.size := by simp at hs7; omega
                        have ht9 := ownsRow_setCell_below (ownsRow_setCell_below (ownsRow_setCell_below HO8.out (a := ⟨w.heap.size, 0, none⟩) (by simp; omega) (.int .i64 n)) (a := ⟨w.heap.size, 1, none⟩) (by simp; omega) (.slice A7 bs.length c7)) (a := ⟨w.heap.size + 1 + 1, 0, none⟩) (by simp; omega) (.slice A8 tr.length c8)
                        have hC9 := ((HC8.out.set_ 0 (.int .i64 n)).set_ 1 (.slice A7 bs.length c7)).far (p := ⟨w.heap.size + 1 + 1, 0, none⟩) (by simp; omega) (.slice A8 tr.length c8)
                        have hD9 := ((HD8.out.far (p := ⟨w.heap.size, 0, none⟩) (by simp) (.int .i64 n)).far (p := ⟨w.heap.size, 1, none⟩) (by simp) (.slice A7 bs.length c7)).far (p := ⟨w.heap.size + 1 + 1, 0, none⟩) (by simp) (.slice A8 tr.length c8)
                        have hF9 := ((HF8.out.far (p := ⟨w.heap.size, 0, none⟩) (by simp; omega) (.int .i64 n)).far (p := ⟨w.heap.size, 1, none⟩) (by simp; omega) (.slice A7 bs.length c7)).far (p := ⟨w.heap.size + 1 + 1, 0, none⟩) (by simp) (.slice A8 tr.length c8)
                        have hE9 := ((HE8.out.far (p := ⟨w.heap.size, 0, none⟩) (by simp; omega) (.int .i64 n)).far (p := ⟨w.heap.size, 1, none⟩) (by simp; omega) (.slice A7 bs.length c7)).set_ 0 (.slice A8 tr.length c8)
                        have hB9 := ((((HBW.out.trans (HB8.out.mono HBW.out.size)).setCell (p := ⟨w.heap.size, 0, none⟩) (by simp) (.int .i64 n)).setCell (p := ⟨w.heap.size, 1, none⟩) (by simp) (.slice A7 bs.length c7)).setCell (p := ⟨w.heap.size + 1 + 1, 0, none⟩) (by simp; omega) (.slice A8 tr.length c8))
                        obtain ⟨W9, hW9⟩ : ∃ V, V = ((w8.setCell ⟨w.heap.size, 0, none⟩ (.int .i64 n)).setCell ⟨w.heap.size, 1, none⟩ (.slice A7 bs.length c7)).setCell ⟨w.heap.size + 1 + 1, 0, none⟩ (.slice A8 tr.length c8) := ⟨_, rfl⟩
                        rw [← hW9] at hx9 ht9 hC9 hD9 hF9 hE9 hB9 ⊢
                        have HX9 := Lib.hid hx9
                        have HT9 := Lib.hid ht9
                        have HC9 := Lib.hid hC9
                        have HD9 := Lib.hid hD9
                        have HE9 := Lib.hid hE9
                        have HF9 := Lib.hid hF9
                        have HB9 := Lib.hid hB9
                        clear hx9 ht9 hC9 hD9 hE9 hF9 hB9 hW9 z0 z1 z2 f0 f1 f2 hS
                        go_wp2_with fail
                        show P (.returned (.tuple #[.func (.func 144) #[] #[.pointer (some ⟨w.heap.size, 0, none⟩), .pointer (some ⟨w.heap.size + 1, 0, none⟩), .pointer (some ⟨w.heap.size + 1 + 1 + 1, 0, none⟩), .pointer (some ⟨w.heap.size + 1 + 1, 0, none⟩)], .int .i64 0])) W9
                        rw [HP.out]
                        refine ⟨HB9.out, .inr ⟨by rw [HEQ.out, HALL.out], buyer.toNat, _, _, _, _, .slice A7 bs.length c7, .slice A8 tr.length c8, by omega, ⟨HC9.out, ?_, ?_, HE9.out, (HX9.out.mono (by omega)).buys, ⟨(Sl.own_from HT9.out).mono (fun b _ h => by omega), HT.out.2⟩, Nat.le_refl _, Nat.le_succ _, Nat.le_add_right _ 3, Nat.le_add_right _ 2⟩, rfl⟩⟩
                        · have hbe : ((buyer.toNat : Nat) : Int) = buyer := by omega
                          rw [hbe]
                          exact HD9.out
                        · rw [hpf]
                          exact HF9.out
                      exact AllReadyF.nil
                    exact AllReadyF.nil
                  exact AllReadyF.nil
                exact AllReadyF.nil
              exact AllReadyF.nil
    · by_cases hb0 : buyer < 0
      · have HEQ := Lib.hid (show askedE n bs buyer r (tr :: ts) = 2 from by unfold askedE; rw [if_neg (by simpa using HI0.out), if_pos (.inl hb0)])
        have HNZ := Lib.hid (show (2 : Int) ≠ 0 by decide)
        clear hr12
        go_enter Try.func113, Try.ntmps113
        go_wp2_with fail
        refine (pays_any r hr _).mono ?_
        rintro e w1 ⟨rfl, rfl⟩
        rw [hpf]
        go_wp2_with fail
        have hc4 : Blk ((((w.alloc (.cells #[.int .i64 n, .slice A bs.length cap] 24)).alloc (.cells #[.int .i64 buyer] 3)).alloc (.cells #[.slice At tr.length capt] 41)).alloc (.cells #[.nilFunc] 57)) w.heap.size 24 #[.int .i64 n, .slice A bs.length cap] := (((Blk.new' _ _ rfl).alloc _).alloc _).alloc _
        have hd4 : Blk ((((w.alloc (.cells #[.int .i64 n, .slice A bs.length cap] 24)).alloc (.cells #[.int .i64 buyer] 3)).alloc (.cells #[.slice At tr.length capt] 41)).alloc (.cells #[.nilFunc] 57)) (w.heap.size + 1) 3 #[.int .i64 buyer] := ((Blk.new' _ _ (by simp)).alloc _).alloc _
        have he4 : Blk ((((w.alloc (.cells #[.int .i64 n, .slice A bs.length cap] 24)).alloc (.cells #[.int .i64 buyer] 3)).alloc (.cells #[.slice At tr.length capt] 41)).alloc (.cells #[.nilFunc] 57)) (w.heap.size + 1 + 1) 41 #[.slice At tr.length capt] := (Blk.new' _ _ (by simp)).alloc _
        have hf4 : Blk ((((w.alloc (.cells #[.int .i64 n, .slice A bs.length cap] 24)).alloc (.cells #[.int .i64 buyer] 3)).alloc (.cells #[.slice At tr.length capt] 41)).alloc (.cells #[.nilFunc] 57)) (w.heap.size + 1 + 1 + 1) 57 #[.nilFunc] := Blk.new' _ _ (by simp)
        have hb4 : Below w.heap.size w ((((w.alloc (.cells #[.int .i64 n, .slice A bs.length cap] 24)).alloc (.cells #[.int .i64 buyer] 3)).alloc (.cells #[.slice At tr.length capt] 41)).alloc (.cells #[.nilFunc] 57)) := ((((Below.refl _ _).alloc (Nat.le_refl _) _).alloc (by simp) _).alloc (by simp; omega) _).alloc (by simp; omega) _
        have hs4 : ((((w.alloc (.cells #[.int .i64 n, .slice A bs.length cap] 24)).alloc (.cells #[.int .i64 buyer] 3)).alloc (.cells #[.slice At tr.length capt] 41)).alloc (.cells #[.nilFunc] 57)).heap.size = w.heap.size + 4 := by simp
        obtain ⟨W4, hW4⟩ : ∃ V, V = (((w.alloc (.cells #[.int .i64 n, .slice A bs.length cap] 24)).alloc (.cells #[.int .i64 buyer] 3)).alloc (.cells #[.slice At tr.length capt] 41)).alloc (.cells #[.nilFunc] 57) := ⟨_, rfl⟩
        rw [← hW4] at hc4 hd4 he4 hf4 hb4 hs4 ⊢
        refine (instance_any n bs _ R W4 (HBS.out.grow hb4)).mono ?_
        rintro e w5 ⟨rfl, hb5⟩
        rw [← HIE.out]
        have hs5 : w.heap.size + 4 ≤ w5.heap.size := by rw [← hs4]; exact hb5.size
        have HC5 := Lib.hid (hc4.grow hb5)
        have HD5 := Lib.hid (hd4.grow hb5)
        have HE5 := Lib.hid (he4.grow hb5)
        have HF5 := Lib.hid (hf4.grow hb5)
        have HB5 := Lib.hid (hb4.trans (hb5.mono hb4.size))
        have x0 : w5.cell? ⟨w.heap.size, 0, none⟩ = some (.int .i64 n) := HC5.out.cell 0
        have x1 : w5.cell? ⟨w.heap.size, 1, none⟩ = some (.slice A bs.length cap) := HC5.out.cell 1
        have xb : w5.cell? ⟨w.heap.size + 1, 0, none⟩ = some (.int .i64 buyer) := HD5.out.cell 0
        have xt : w5.cell? ⟨w.heap.size + 1 + 1, 0, none⟩ = some (.slice At tr.length capt) := HE5.out.cell 0
        have xp : w5.cell? ⟨w.heap.size + 1 + 1 + 1, 0, none⟩ = some (.nilFunc) := HF5.out.cell 0
        clear hc4 hd4 he4 hf4 hb4 hs4 hb5 hW4
        go_wp2_with fail
        show P (.returned (.tuple #[.nilFunc, .int .i64 (2)])) _
        rw [HP.out]
        exact ⟨HB5.out, .inl ⟨by rw [HEQ.out]; exact HNZ.out, by rw [HEQ.out]⟩⟩
      · by_cases hb1 : (bs.length : Int) ≤ buyer
        · have HEQ := Lib.hid (show askedE n bs buyer r (tr :: ts) = 2 from by unfold askedE; rw [if_neg (by simpa using HI0.out), if_pos (.inr (.inl hb1))])
          have HNZ := Lib.hid (show (2 : Int) ≠ 0 by decide)
          clear hr12
          go_enter Try.func113, Try.ntmps113
          go_wp2_with fail
          refine (pays_any r hr _).mono ?_
          rintro e w1 ⟨rfl, rfl⟩
          rw [hpf]
          go_wp2_with fail
          have hc4 : Blk ((((w.alloc (.cells #[.int .i64 n, .slice A bs.length cap] 24)).alloc (.cells #[.int .i64 buyer] 3)).alloc (.cells #[.slice At tr.length capt] 41)).alloc (.cells #[.nilFunc] 57)) w.heap.size 24 #[.int .i64 n, .slice A bs.length cap] := (((Blk.new' _ _ rfl).alloc _).alloc _).alloc _
          have hd4 : Blk ((((w.alloc (.cells #[.int .i64 n, .slice A bs.length cap] 24)).alloc (.cells #[.int .i64 buyer] 3)).alloc (.cells #[.slice At tr.length capt] 41)).alloc (.cells #[.nilFunc] 57)) (w.heap.size + 1) 3 #[.int .i64 buyer] := ((Blk.new' _ _ (by simp)).alloc _).alloc _
          have he4 : Blk ((((w.alloc (.cells #[.int .i64 n, .slice A bs.length cap] 24)).alloc (.cells #[.int .i64 buyer] 3)).alloc (.cells #[.slice At tr.length capt] 41)).alloc (.cells #[.nilFunc] 57)) (w.heap.size + 1 + 1) 41 #[.slice At tr.length capt] := (Blk.new' _ _ (by simp)).alloc _
          have hf4 : Blk ((((w.alloc (.cells #[.int .i64 n, .slice A bs.length cap] 24)).alloc (.cells #[.int .i64 buyer] 3)).alloc (.cells #[.slice At tr.length capt] 41)).alloc (.cells #[.nilFunc] 57)) (w.heap.size + 1 + 1 + 1) 57 #[.nilFunc] := Blk.new' _ _ (by simp)
          have hb4 : Below w.heap.size w ((((w.alloc (.cells #[.int .i64 n, .slice A bs.length cap] 24)).alloc (.cells #[.int .i64 buyer] 3)).alloc (.cells #[.slice At tr.length capt] 41)).alloc (.cells #[.nilFunc] 57)) := ((((Below.refl _ _).alloc (Nat.le_refl _) _).alloc (by simp) _).alloc (by simp; omega) _).alloc (by simp; omega) _
          have hs4 : ((((w.alloc (.cells #[.int .i64 n, .slice A bs.length cap] 24)).alloc (.cells #[.int .i64 buyer] 3)).alloc (.cells #[.slice At tr.length capt] 41)).alloc (.cells #[.nilFunc] 57)).heap.size = w.heap.size + 4 := by simp
          obtain ⟨W4, hW4⟩ : ∃ V, V = (((w.alloc (.cells #[.int .i64 n, .slice A bs.length cap] 24)).alloc (.cells #[.int .i64 buyer] 3)).alloc (.cells #[.slice At tr.length capt] 41)).alloc (.cells #[.nilFunc] 57) := ⟨_, rfl⟩
          rw [← hW4] at hc4 hd4 he4 hf4 hb4 hs4 ⊢
          refine (instance_any n bs _ R W4 (HBS.out.grow hb4)).mono ?_
          rintro e w5 ⟨rfl, hb5⟩
          rw [← HIE.out]
          have hs5 : w.heap.size + 4 ≤ w5.heap.size := by rw [← hs4]; exact hb5.size
          have HC5 := Lib.hid (hc4.grow hb5)
          have HD5 := Lib.hid (hd4.grow hb5)
          have HE5 := Lib.hid (he4.grow hb5)
          have HF5 := Lib.hid (hf4.grow hb5)
          have HB5 := Lib.hid (hb4.trans (hb5.mono hb4.size))
          have x0 : w5.cell? ⟨w.heap.size, 0, none⟩ = some (.int .i64 n) := HC5.out.cell 0
          have x1 : w5.cell? ⟨w.heap.size, 1, none⟩ = some (.slice A bs.length cap) := HC5.out.cell 1
          have xb : w5.cell? ⟨w.heap.size + 1, 0, none⟩ = some (.int .i64 buyer) := HD5.out.cell 0
          have xt : w5.cell? ⟨w.heap.size + 1 + 1, 0, none⟩ = some (.slice At tr.length capt) := HE5.out.cell 0
          have xp : w5.cell? ⟨w.heap.size + 1 + 1 + 1, 0, none⟩ = some (.nilFunc) := HF5.out.cell 0
          clear hc4 hd4 he4 hf4 hb4 hs4 hb5 hW4
          go_wp2_with fail
          show P (.returned (.tuple #[.nilFunc, .int .i64 (2)])) _
          rw [HP.out]
          exact ⟨HB5.out, .inl ⟨by rw [HEQ.out]; exact HNZ.out, by rw [HEQ.out]⟩⟩
        · have HEQ := Lib.hid (show askedE n bs buyer r (tr :: ts) = 2 from by unfold askedE; rw [if_neg (by simpa using HI0.out), if_pos (.inr (.inr hr12))])
          have HNZ := Lib.hid (show (2 : Int) ≠ 0 by decide)
          clear hr12
          go_enter Try.func113, Try.ntmps113
          go_wp2_with fail
          refine (pays_any r hr _).mono ?_
          rintro e w1 ⟨rfl, rfl⟩
          rw [hpf]
          go_wp2_with fail
          have hc4 : Blk ((((w.alloc (.cells #[.int .i64 n, .slice A bs.length cap] 24)).alloc (.cells #[.int .i64 buyer] 3)).alloc (.cells #[.slice At tr.length capt] 41)).alloc (.cells #[.nilFunc] 57)) w.heap.size 24 #[.int .i64 n, .slice A bs.length cap] := (((Blk.new' _ _ rfl).alloc _).alloc _).alloc _
          have hd4 : Blk ((((w.alloc (.cells #[.int .i64 n, .slice A bs.length cap] 24)).alloc (.cells #[.int .i64 buyer] 3)).alloc (.cells #[.slice At tr.length capt] 41)).alloc (.cells #[.nilFunc] 57)) (w.heap.size + 1) 3 #[.int .i64 buyer] := ((Blk.new' _ _ (by simp)).alloc _).alloc _
          have he4 : Blk ((((w.alloc (.cells #[.int .i64 n, .slice A bs.length cap] 24)).alloc (.cells #[.int .i64 buyer] 3)).alloc (.cells #[.slice At tr.length capt] 41)).alloc (.cells #[.nilFunc] 57)) (w.heap.size + 1 + 1) 41 #[.slice At tr.length capt] := (Blk.new' _ _ (by simp)).alloc _
          have hf4 : Blk ((((w.alloc (.cells #[.int .i64 n, .slice A bs.length cap] 24)).alloc (.cells #[.int .i64 buyer] 3)).alloc (.cells #[.slice At tr.length capt] 41)).alloc (.cells #[.nilFunc] 57)) (w.heap.size + 1 + 1 + 1) 57 #[.nilFunc] := Blk.new' _ _ (by simp)
          have hb4 : Below w.heap.size w ((((w.alloc (.cells #[.int .i64 n, .slice A bs.length cap] 24)).alloc (.cells #[.int .i64 buyer] 3)).alloc (.cells #[.slice At tr.length capt] 41)).alloc (.cells #[.nilFunc] 57)) := ((((Below.refl _ _).alloc (Nat.le_refl _) _).alloc (by simp) _).alloc (by simp; omega) _).alloc (by simp; omega) _
          have hs4 : ((((w.alloc (.cells #[.int .i64 n, .slice A bs.length cap] 24)).alloc (.cells #[.int .i64 buyer] 3)).alloc (.cells #[.slice At tr.length capt] 41)).alloc (.cells #[.nilFunc] 57)).heap.size = w.heap.size + 4 := by simp
          obtain ⟨W4, hW4⟩ : ∃ V, V = (((w.alloc (.cells #[.int .i64 n, .slice A bs.length cap] 24)).alloc (.cells #[.int .i64 buyer] 3)).alloc (.cells #[.slice At tr.length capt] 41)).alloc (.cells #[.nilFunc] 57) := ⟨_, rfl⟩
          rw [← hW4] at hc4 hd4 he4 hf4 hb4 hs4 ⊢
          refine (instance_any n bs _ R W4 (HBS.out.grow hb4)).mono ?_
          rintro e w5 ⟨rfl, hb5⟩
          rw [← HIE.out]
          have hs5 : w.heap.size + 4 ≤ w5.heap.size := by rw [← hs4]; exact hb5.size
          have HC5 := Lib.hid (hc4.grow hb5)
          have HD5 := Lib.hid (hd4.grow hb5)
          have HE5 := Lib.hid (he4.grow hb5)
          have HF5 := Lib.hid (hf4.grow hb5)
          have HB5 := Lib.hid (hb4.trans (hb5.mono hb4.size))
          have x0 : w5.cell? ⟨w.heap.size, 0, none⟩ = some (.int .i64 n) := HC5.out.cell 0
          have x1 : w5.cell? ⟨w.heap.size, 1, none⟩ = some (.slice A bs.length cap) := HC5.out.cell 1
          have xb : w5.cell? ⟨w.heap.size + 1, 0, none⟩ = some (.int .i64 buyer) := HD5.out.cell 0
          have xt : w5.cell? ⟨w.heap.size + 1 + 1, 0, none⟩ = some (.slice At tr.length capt) := HE5.out.cell 0
          have xp : w5.cell? ⟨w.heap.size + 1 + 1 + 1, 0, none⟩ = some (.nilFunc) := HF5.out.cell 0
          clear hc4 hd4 he4 hf4 hb4 hs4 hb5 hW4
          go_wp2_with fail
          show P (.returned (.tuple #[.nilFunc, .int .i64 (2)])) _
          rw [HP.out]
          exact ⟨HB5.out, .inl ⟨by rw [HEQ.out]; exact HNZ.out, by rw [HEQ.out]⟩⟩
  · have HEQ := Lib.hid (show askedE n bs buyer r (tr :: ts) = ie from by unfold askedE; rw [if_pos (by rw [← HIE.out]; exact hi), HIE.out])
    have HNZ := Lib.hid hi
    have hne : (ie != 0) = true := by simpa using hi
    rcases hpfc with ⟨q, hpf, hr12⟩ | ⟨hpf, hr12⟩
    · clear hr12 hi
      go_enter Try.func113, Try.ntmps113
      go_wp2_with fail
      refine (pays_any r hr _).mono ?_
      rintro e w1 ⟨rfl, rfl⟩
      rw [hpf]
      go_wp2_with fail
      have hc4 : Blk ((((w.alloc (.cells #[.int .i64 n, .slice A bs.length cap] 24)).alloc (.cells #[.int .i64 buyer] 3)).alloc (.cells #[.slice At tr.length capt] 41)).alloc (.cells #[.func (.func q) #[] #[]] 57)) w.heap.size 24 #[.int .i64 n, .slice A bs.length cap] := (((Blk.new' _ _ rfl).alloc _).alloc _).alloc _
      have hd4 : Blk ((((w.alloc (.cells #[.int .i64 n, .slice A bs.length cap] 24)).alloc (.cells #[.int .i64 buyer] 3)).alloc (.cells #[.slice At tr.length capt] 41)).alloc (.cells #[.func (.func q) #[] #[]] 57)) (w.heap.size + 1) 3 #[.int .i64 buyer] := ((Blk.new' _ _ (by simp)).alloc _).alloc _
      have he4 : Blk ((((w.alloc (.cells #[.int .i64 n, .slice A bs.length cap] 24)).alloc (.cells #[.int .i64 buyer] 3)).alloc (.cells #[.slice At tr.length capt] 41)).alloc (.cells #[.func (.func q) #[] #[]] 57)) (w.heap.size + 1 + 1) 41 #[.slice At tr.length capt] := (Blk.new' _ _ (by simp)).alloc _
      have hf4 : Blk ((((w.alloc (.cells #[.int .i64 n, .slice A bs.length cap] 24)).alloc (.cells #[.int .i64 buyer] 3)).alloc (.cells #[.slice At tr.length capt] 41)).alloc (.cells #[.func (.func q) #[] #[]] 57)) (w.heap.size + 1 + 1 + 1) 57 #[.func (.func q) #[] #[]] := Blk.new' _ _ (by simp)
      have hb4 : Below w.heap.size w ((((w.alloc (.cells #[.int .i64 n, .slice A bs.length cap] 24)).alloc (.cells #[.int .i64 buyer] 3)).alloc (.cells #[.slice At tr.length capt] 41)).alloc (.cells #[.func (.func q) #[] #[]] 57)) := ((((Below.refl _ _).alloc (Nat.le_refl _) _).alloc (by simp) _).alloc (by simp; omega) _).alloc (by simp; omega) _
      have hs4 : ((((w.alloc (.cells #[.int .i64 n, .slice A bs.length cap] 24)).alloc (.cells #[.int .i64 buyer] 3)).alloc (.cells #[.slice At tr.length capt] 41)).alloc (.cells #[.func (.func q) #[] #[]] 57)).heap.size = w.heap.size + 4 := by simp
      obtain ⟨W4, hW4⟩ : ∃ V, V = (((w.alloc (.cells #[.int .i64 n, .slice A bs.length cap] 24)).alloc (.cells #[.int .i64 buyer] 3)).alloc (.cells #[.slice At tr.length capt] 41)).alloc (.cells #[.func (.func q) #[] #[]] 57) := ⟨_, rfl⟩
      rw [← hW4] at hc4 hd4 he4 hf4 hb4 hs4 ⊢
      refine (instance_any n bs _ R W4 (HBS.out.grow hb4)).mono ?_
      rintro e w5 ⟨rfl, hb5⟩
      rw [← HIE.out]
      have hs5 : w.heap.size + 4 ≤ w5.heap.size := by rw [← hs4]; exact hb5.size
      have HC5 := Lib.hid (hc4.grow hb5)
      have HD5 := Lib.hid (hd4.grow hb5)
      have HE5 := Lib.hid (he4.grow hb5)
      have HF5 := Lib.hid (hf4.grow hb5)
      have HB5 := Lib.hid (hb4.trans (hb5.mono hb4.size))
      have x0 : w5.cell? ⟨w.heap.size, 0, none⟩ = some (.int .i64 n) := HC5.out.cell 0
      have x1 : w5.cell? ⟨w.heap.size, 1, none⟩ = some (.slice A bs.length cap) := HC5.out.cell 1
      have xb : w5.cell? ⟨w.heap.size + 1, 0, none⟩ = some (.int .i64 buyer) := HD5.out.cell 0
      have xt : w5.cell? ⟨w.heap.size + 1 + 1, 0, none⟩ = some (.slice At tr.length capt) := HE5.out.cell 0
      have xp : w5.cell? ⟨w.heap.size + 1 + 1 + 1, 0, none⟩ = some (.func (.func q) #[] #[]) := HF5.out.cell 0
      clear hc4 hd4 he4 hf4 hb4 hs4 hb5 hW4
      go_wp2_with fail
      show P (.returned (.tuple #[.nilFunc, .int .i64 (ie)])) _
      rw [HP.out]
      exact ⟨HB5.out, .inl ⟨by rw [HEQ.out]; exact HNZ.out, by rw [HEQ.out]⟩⟩
    · clear hr12 hi
      go_enter Try.func113, Try.ntmps113
      go_wp2_with fail
      refine (pays_any r hr _).mono ?_
      rintro e w1 ⟨rfl, rfl⟩
      rw [hpf]
      go_wp2_with fail
      have hc4 : Blk ((((w.alloc (.cells #[.int .i64 n, .slice A bs.length cap] 24)).alloc (.cells #[.int .i64 buyer] 3)).alloc (.cells #[.slice At tr.length capt] 41)).alloc (.cells #[.nilFunc] 57)) w.heap.size 24 #[.int .i64 n, .slice A bs.length cap] := (((Blk.new' _ _ rfl).alloc _).alloc _).alloc _
      have hd4 : Blk ((((w.alloc (.cells #[.int .i64 n, .slice A bs.length cap] 24)).alloc (.cells #[.int .i64 buyer] 3)).alloc (.cells #[.slice At tr.length capt] 41)).alloc (.cells #[.nilFunc] 57)) (w.heap.size + 1) 3 #[.int .i64 buyer] := ((Blk.new' _ _ (by simp)).alloc _).alloc _
      have he4 : Blk ((((w.alloc (.cells #[.int .i64 n, .slice A bs.length cap] 24)).alloc (.cells #[.int .i64 buyer] 3)).alloc (.cells #[.slice At tr.length capt] 41)).alloc (.cells #[.nilFunc] 57)) (w.heap.size + 1 + 1) 41 #[.slice At tr.length capt] := (Blk.new' _ _ (by simp)).alloc _
      have hf4 : Blk ((((w.alloc (.cells #[.int .i64 n, .slice A bs.length cap] 24)).alloc (.cells #[.int .i64 buyer] 3)).alloc (.cells #[.slice At tr.length capt] 41)).alloc (.cells #[.nilFunc] 57)) (w.heap.size + 1 + 1 + 1) 57 #[.nilFunc] := Blk.new' _ _ (by simp)
      have hb4 : Below w.heap.size w ((((w.alloc (.cells #[.int .i64 n, .slice A bs.length cap] 24)).alloc (.cells #[.int .i64 buyer] 3)).alloc (.cells #[.slice At tr.length capt] 41)).alloc (.cells #[.nilFunc] 57)) := ((((Below.refl _ _).alloc (Nat.le_refl _) _).alloc (by simp) _).alloc (by simp; omega) _).alloc (by simp; omega) _
      have hs4 : ((((w.alloc (.cells #[.int .i64 n, .slice A bs.length cap] 24)).alloc (.cells #[.int .i64 buyer] 3)).alloc (.cells #[.slice At tr.length capt] 41)).alloc (.cells #[.nilFunc] 57)).heap.size = w.heap.size + 4 := by simp
      obtain ⟨W4, hW4⟩ : ∃ V, V = (((w.alloc (.cells #[.int .i64 n, .slice A bs.length cap] 24)).alloc (.cells #[.int .i64 buyer] 3)).alloc (.cells #[.slice At tr.length capt] 41)).alloc (.cells #[.nilFunc] 57) := ⟨_, rfl⟩
      rw [← hW4] at hc4 hd4 he4 hf4 hb4 hs4 ⊢
      refine (instance_any n bs _ R W4 (HBS.out.grow hb4)).mono ?_
      rintro e w5 ⟨rfl, hb5⟩
      rw [← HIE.out]
      have hs5 : w.heap.size + 4 ≤ w5.heap.size := by rw [← hs4]; exact hb5.size
      have HC5 := Lib.hid (hc4.grow hb5)
      have HD5 := Lib.hid (hd4.grow hb5)
      have HE5 := Lib.hid (he4.grow hb5)
      have HF5 := Lib.hid (hf4.grow hb5)
      have HB5 := Lib.hid (hb4.trans (hb5.mono hb4.size))
      have x0 : w5.cell? ⟨w.heap.size, 0, none⟩ = some (.int .i64 n) := HC5.out.cell 0
      have x1 : w5.cell? ⟨w.heap.size, 1, none⟩ = some (.slice A bs.length cap) := HC5.out.cell 1
      have xb : w5.cell? ⟨w.heap.size + 1, 0, none⟩ = some (.int .i64 buyer) := HD5.out.cell 0
      have xt : w5.cell? ⟨w.heap.size + 1 + 1, 0, none⟩ = some (.slice At tr.length capt) := HE5.out.cell 0
      have xp : w5.cell? ⟨w.heap.size + 1 + 1 + 1, 0, none⟩ = some (.nilFunc) := HF5.out.cell 0
      clear hc4 hd4 he4 hf4 hb4 hs4 hb5 hW4
      go_wp2_with fail
      show P (.returned (.tuple #[.nilFunc, .int .i64 (ie)])) _
      rw [HP.out]
      exact ⟨HB5.out, .inl ⟨by rw [HEQ.out]; exact HNZ.out, by rw [HEQ.out]⟩⟩
end Go.Proofs.Ytcigobiolbojhaa.Vb

/- truth.Package. -/
namespace Go.Proofs.Ytcigobiolbojhaa.Vb
open Go.RowKit

theorem Buys.one {w : World} {R : Nat → Prop} {v : Value} {l : List Off} (h : Offs w R v l) (t : TypeId) : Buys (w.alloc (.cells #[v] t)) (fun _ => True) (.slice (some ⟨w.heap.size, 0, none⟩) 1 1) [l] :=
  ⟨[v], (Sl.new w #[v] t 1 1 (by unfold maxLen; omega) rfl).any, fun k l' hk => by
    cases k with
    | zero =>
      simp at hk
      subst hk
      exact ⟨v, rfl, (h.alloc _).any⟩
    | succ k => simp at hk⟩
theorem askedE_bd (n : Int) (bs : List (List Off)) (buyer r : Int) (ls : List (List Off)) : -9223372036854775808 ≤ askedE n bs buyer r ls ∧ askedE n bs buyer r ls ≤ 9223372036854775807 := by
  have h0 := instE_bd n bs
  have h1 : ∀ ls : List (List Off), 0 ≤ firstE n ls ∧ firstE n ls ≤ 1000 := by
    intro ls
    induction ls with
    | nil => simp [firstE]
    | cons l ls ih =>
      have := checkE_bd n l
      simp only [firstE]
      split
      · exact this
      · exact ih
  have h2 := h1 ls
  unfold askedE
  split
  · omega
  · split <;> omega

def packV (n : Int) (bs : List (List Off)) (buyer r : Int) (tr ot : List Off) : Value :=
  if askedE n bs buyer r [tr, ot] = 0 then .tuple #[.int .i64 (byV n bs buyer.toNat r tr tr), .int .i64 (byV n bs buyer.toNat r tr ot), .int .i64 0] else .tuple #[.int .i64 0, .int .i64 0, .int .i64 (askedE n bs buyer r [tr, ot])]

set_option maxRecDepth 100000 in
set_option maxHeartbeats 1600000 in
theorem package_any (n : Int) (bs : List (List Off)) (buyer r : Int) (tr ot : List Off) (v vt vo : Value) (R Rt Ro : Nat → Prop) (w : World) (hl : Buys w R v bs) (ht : Offs w Rt vt tr) (ho : Offs w Ro vo ot)
    (hb : -9223372036854775808 ≤ buyer ∧ buyer ≤ 9223372036854775807) (hr : -9223372036854775808 ≤ r ∧ r ≤ 9223372036854775807) :
    Calls Try.prog 75 #[.agg #[.int .i64 n, v], .int .i64 buyer, .int .i64 r, vt, vo] w fun e w' => e = .returned (packV n bs buyer r tr ot) ∧ Below w.heap.size w w' := by
  obtain ⟨_, ⟨_, A, cap, rfl, _⟩, _⟩ := id hl
  obtain ⟨⟨_, At, capt, rfl, _⟩, _⟩ := id ht
  obtain ⟨⟨_, Ao, capo, rfl, _⟩, _⟩ := id ho
  have HB := Lib.hid hl
  have HT := Lib.hid ht
  have HO := Lib.hid ho
  clear hl ht ho
  have hbd := askedE_bd n bs buyer r [tr, ot]
  obtain ⟨z, hz⟩ : ∃ z, z = askedE n bs buyer r [tr, ot] := ⟨_, rfl⟩
  obtain ⟨ans, hans⟩ : ∃ a, a = packV n bs buyer r tr ot := ⟨_, rfl⟩
  rw [← hans]
  have HANS := Lib.hid hans
  rw [← hz] at hbd
  have HZ := Lib.hid hz
  clear hz hans
  go_enter Try.func75, Try.ntmps75
  go_wp2_with fail
  have hone := Buys.one (HO.out.alloc (.cells #[.int .i64 n, .slice A bs.length cap] 24)) 41
  rw [World.size_alloc] at hone
  refine (asked29_any n bs buyer r tr [ot] _ _ _ R Rt (fun _ => True) ((w.alloc (.cells #[.int .i64 n, .slice A bs.length cap] 24)).alloc (.cells #[.slice Ao ot.length capo] 41)) ((HB.out.alloc _).alloc _) ((HT.out.alloc _).alloc _) hone (by simp) hb hr).mono ?_
  clear hone
  rintro e w1 ⟨hb1, hcase⟩
  have HB1 := Lib.hid ((((Below.refl w.heap.size w).alloc (Nat.le_refl _) (.cells #[.int .i64 n, .slice A bs.length cap] 24)).alloc (by simp) (.cells #[.slice Ao ot.length capo] 41)).trans (hb1.mono (by simp; omega)))
  clear hb1
  rw [← HZ.out] at hcase
  rcases hcase with ⟨hne, rfl⟩ | ⟨h0, k, b5, b6, b12, b8, vb, vt', hbk, hA, rfl⟩
  · have hcb : (z != 0) = true := by simpa using hne
    have HA := Lib.hid (show ans = .tuple #[.int .i64 0, .int .i64 0, .int .i64 z] from by rw [HANS.out]; unfold packV; rw [← HZ.out, if_neg hne])
    clear hne
    go_wp2_with fail
    exact bodyPost_ret (v := .tuple #[.int .i64 0, .int .i64 0, .int .i64 z]) (by simp [results, Try.results75, go_sem]) rfl ⟨by rw [HA.out], HB1.out⟩
  · subst h0
    obtain ⟨h1, h2, h3, h4, h5⟩ := askedE_zero HZ.out.symm
    have hk : k < bs.length := by omega
    have HAN := Lib.hid (show ans = .tuple #[.int .i64 (byV n bs k r tr tr), .int .i64 (byV n bs k r tr ot), .int .i64 0] from by rw [HANS.out]; unfold packV; rw [← HZ.out, if_pos rfl, hbk, Int.toNat_natCast])
    have HA := Lib.hid hA
    have HI := Lib.hid h1
    have HR := Lib.hid h4
    have HCT := Lib.hid (h5 tr (by simp))
    have HCO := Lib.hid (h5 ot (by simp))
    clear hbk h1 h2 h3 h4 h5 hA hbd
    go_wp2_with fail
    refine (asked1_any _ b5 b6 b12 b8 n bs k r tr tr vb vt' _ Rt w1 HA.out HR.out HI.out hk (HT.out.grow HB1.out) HCT.out).mono ?_
    rintro e w2 ⟨rfl, hb2⟩
    have HA2 := Lib.hid (HA.out.grow hb2)
    have HB2 := Lib.hid (HB1.out.trans (hb2.mono HB1.out.size))
    clear hb2
    go_wp2_with fail
    refine (asked1_any _ b5 b6 b12 b8 n bs k r tr ot vb vt' _ Ro w2 HA2.out HR.out HI.out hk (HO.out.grow HB2.out) HCO.out).mono ?_
    rintro e w3 ⟨rfl, hb3⟩
    have HB3 := Lib.hid (HB2.out.trans (hb3.mono HB2.out.size))
    clear hb3
    go_wp2_with fail
    exact bodyPost_ret (v := .tuple #[.int .i64 (byV n bs k r tr tr), .int .i64 (byV n bs k r tr ot), .int .i64 0]) (by simp [results, Try.results75, go_sem]) rfl ⟨by rw [HAN.out], HB3.out⟩
end Go.Proofs.Ytcigobiolbojhaa.Vb

/- truth.Tries. -/
namespace Go.Proofs.Ytcigobiolbojhaa.Vb
open Go.RowKit

theorem OwnBuys.nil (w : World) (lo : Nat) : OwnBuys w lo (.slice none 0 0) [] := ⟨[], World.ownsRow_nil _ _ _ _, fun k l hk => by simp at hk⟩
def fnV (b5 b6 b12 b8 : Nat) : Value := .func (.func 144) #[] #[.pointer (some ⟨b5, 0, none⟩), .pointer (some ⟨b6, 0, none⟩), .pointer (some ⟨b12, 0, none⟩), .pointer (some ⟨b8, 0, none⟩)]
def itV (g14 g12 : Nat) : Value := .func (.func 145) #[] #[.pointer (some ⟨g14, 0, none⟩), .pointer (some ⟨g12, 0, none⟩)]
/-- what the function that Tries told holds -/
structure TrC (W : World) (R0 : Nat → Prop) (g14 g12 : Nat) (n : Int) (bs : List (List Off)) (k : Nat) (r : Int) (tr : List Off) (ts : List (List Off)) : Prop where
  ask : ∃ (b5 b6 b12 b8 : Nat) (vb vt : Value), AskC W R0 b5 b6 b12 b8 n bs k r tr vb vt ∧ Blk W g12 175 #[fnV b5 b6 b12 b8]
  own : ∃ (A : Option Addr) (c : Nat), Blk W g14 22 #[.slice A ts.length c] ∧ Buys W R0 (.slice A ts.length c) ts
  l12 : R0 g12
  l14 : R0 g14
theorem TrC.lt12 {W : World} {R0 : Nat → Prop} {g14 g12 : Nat} {n : Int} {bs : List (List Off)} {k : Nat} {r : Int} {tr : List Off} {ts : List (List Off)} (h : TrC W R0 g14 g12 n bs k r tr ts) : g12 < W.heap.size ∧ g14 < W.heap.size := by
  obtain ⟨_, _, _, _, _, _, _, h1⟩ := h.ask
  obtain ⟨_, _, h2, _⟩ := h.own
  exact ⟨h1.lt, h2.lt⟩
theorem TrC.keep {W W' : World} {R0 : Nat → Prop} {g14 g12 : Nat} {n : Int} {bs : List (List Off)} {k : Nat} {r : Int} {tr : List Off} {ts : List (List Off)} (h : TrC W R0 g14 g12 n bs k r tr ts) (hs : W.heap.size ≤ W'.heap.size) (hk : ∀ b, b < W.heap.size → R0 b → W'.heap[b]? = W.heap[b]?) : TrC W' R0 g14 g12 n bs k r tr ts := by
  obtain ⟨l1, l2⟩ := h.lt12
  obtain ⟨b5, b6, b12, b8, vb, vt, ha, hb⟩ := h.ask
  obtain ⟨A, c, h2, h3⟩ := h.own
  exact ⟨⟨b5, b6, b12, b8, vb, vt, ha.keep hs hk, hb.keep (hk _ l1 h.l12)⟩, ⟨A, c, h2.keep (hk _ l2 h.l14), h3.keep hs hk⟩, h.l12, h.l14⟩
theorem TrC.mono {W : World} {R0 R1 : Nat → Prop} {g14 g12 : Nat} {n : Int} {bs : List (List Off)} {k : Nat} {r : Int} {tr : List Off} {ts : List (List Off)} (h : TrC W R0 g14 g12 n bs k r tr ts) (hR : ∀ b, b < W.heap.size → R0 b → R1 b) : TrC W R1 g14 g12 n bs k r tr ts := by
  obtain ⟨l1, l2⟩ := h.lt12
  obtain ⟨b5, b6, b12, b8, vb, vt, ha, hb⟩ := h.ask
  obtain ⟨A, c, h2, h3⟩ := h.own
  exact ⟨⟨b5, b6, b12, b8, vb, vt, ha.mono hR, hb⟩, ⟨A, c, h2, h3.mono hR⟩, hR _ l1 h.l12, hR _ l2 h.l14⟩

def TriesR (n : Int) (bs : List (List Off)) (buyer r : Int) (tr : List Off) (ts : List (List Off)) (w : World) (e : Ending) (w' : World) : Prop :=
  Below w.heap.size w w' ∧ ((askedE n bs buyer r (tr :: ts) ≠ 0 ∧ e = .returned (.tuple #[.nilFunc, .int .i64 (askedE n bs buyer r (tr :: ts))])) ∨
    (askedE n bs buyer r (tr :: ts) = 0 ∧ ∃ k g14 g12 : Nat, buyer = (k : Int) ∧ TrC w' (w.heap.size ≤ ·) g14 g12 n bs k r tr ts ∧ e = .returned (.tuple #[itV g14 g12, .int .i64 0])))

set_option maxRecDepth 100000 in
set_option maxHeartbeats 3200000 in
theorem tries_any (n : Int) (bs : List (List Off)) (buyer r : Int) (tr : List Off) (ts : List (List Off)) (v vt vs : Value) (R Rt Rs : Nat → Prop) (w : World) (hl : Buys w R v bs) (ht : Offs w Rt vt tr) (hs : Buys w Rs vs ts)
    (hts : ts.length ≤ 1000000) (hb : -9223372036854775808 ≤ buyer ∧ buyer ≤ 9223372036854775807) (hr : -9223372036854775808 ≤ r ∧ r ≤ 9223372036854775807) :
    Calls Try.prog 114 #[.agg #[.int .i64 n, v], .int .i64 buyer, .int .i64 r, vt, vs] w fun e w' => TriesR n bs buyer r tr ts w e w' := by
  obtain ⟨_, ⟨_, A, cap, rfl, _⟩, _⟩ := id hl
  obtain ⟨⟨_, At, capt, rfl, _⟩, _⟩ := id ht
  obtain ⟨vts, ⟨hvl, As, caps, rfl, hsl1, hsl2, hsl3⟩, hvs⟩ := id hs
  have HSL := Lib.hid (show Sl w Rs (.slice As ts.length caps) ts.length 1 vts from ⟨hvl, As, caps, rfl, hsl1, hsl2, hsl3⟩)
  have HVS := Lib.hid hvs
  have HB := Lib.hid hl
  have HT := Lib.hid ht
  have HS := Lib.hid hs
  have hbd := askedE_bd n bs buyer r (tr :: ts)
  obtain ⟨z, hz⟩ : ∃ z, z = askedE n bs buyer r (tr :: ts) := ⟨_, rfl⟩
  rw [← hz] at hbd
  have HZ := Lib.hid hz
  obtain ⟨P, hP⟩ : ∃ P : Ending → World → Prop, P = fun e w' => TriesR n bs buyer r tr ts w e w' := ⟨_, rfl⟩
  rw [← hP]
  have HP := Lib.hid hP
  have hsl3' : ∀ {k : Nat}, k < ts.length → ∃ b off, As = some ⟨b, off, none⟩ ∧ Rs b ∧ b < w.heap.size ∧ ∀ j u, vts[j]? = some u → w.cell? ⟨b, off + j, none⟩ = some u := fun hk => hsl3 (by omega)
  clear hsl1 hsl2 hsl3 hvs hl ht hs hz hP
  go_enter Try.func114, Try.ntmps114
  go_wp2_with fail
  refine (asked29_any n bs buyer r tr ts _ _ _ R Rt Rs (w.alloc (.cells #[.int .i64 n, .slice A bs.length cap] 24)) (HB.out.alloc _) (HT.out.alloc _) (HS.out.alloc _) hts hb hr).mono ?_
  rintro e w1 ⟨hb1, hcase⟩
  have HB1 := Lib.hid (((Below.refl w.heap.size w).alloc (Nat.le_refl _) (.cells #[.int .i64 n, .slice A bs.length cap] 24)).trans (hb1.mono (by simp)))
  clear hb1
  rw [← HZ.out] at hcase
  rcases hcase with ⟨hne, rfl⟩ | ⟨h0, k, b5, b6, b12, b8, vb, vt', hbk, hA, rfl⟩
  · have hcb : (z != 0) = true := by simpa using hne
    have HNZ := Lib.hid hne
    clear hne
    go_wp2_with fail
    show P (.returned (.tuple #[.nilFunc, .int .i64 z])) _
    rw [HP.out]
    exact ⟨HB1.out.alloc HB1.out.size _, .inl ⟨by rw [← HZ.out]; exact HNZ.out, by rw [← HZ.out]⟩⟩
  · subst h0
    clear hbd
    obtain ⟨h1, h2, h3, h4, h5⟩ := askedE_zero HZ.out.symm
    have HCK := Lib.hid (fun l hl => checkE_len (h5 l hl) : ∀ l ∈ tr :: ts, l.length ≤ 8)
    have HA := Lib.hid hA
    have HBK := Lib.hid hbk
    have hs1 := HB1.out.size
    clear h1 h2 h3 h4 h5 hA hbk
    go_wp2_with fail
    have hg12 : Blk ((w1.alloc (.cells #[fnV b5 b6 b12 b8] 175)).alloc (.cells #[.slice none 0 0] 22)) w1.heap.size 175 #[fnV b5 b6 b12 b8] := (Blk.new' _ _ rfl).alloc _
    have hg14 : Blk ((w1.alloc (.cells #[fnV b5 b6 b12 b8] 175)).alloc (.cells #[.slice none 0 0] 22)) (w1.heap.size + 1) 22 #[.slice none 0 0] := Blk.new' _ _ (by simp)
    have hb2 : Below w1.heap.size w1 ((w1.alloc (.cells #[fnV b5 b6 b12 b8] 175)).alloc (.cells #[.slice none 0 0] 22)) := ((Below.refl _ _).alloc (Nat.le_refl _) _).alloc (by simp) _
    have hs2 : ((w1.alloc (.cells #[fnV b5 b6 b12 b8] 175)).alloc (.cells #[.slice none 0 0] 22)).heap.size = w1.heap.size + 2 := by simp
    obtain ⟨W2, hW2⟩ : ∃ V, V = (w1.alloc (.cells #[fnV b5 b6 b12 b8] 175)).alloc (.cells #[.slice none 0 0] 22) := ⟨_, rfl⟩
    rw [show (w1.alloc (.cells #[Value.func (.func 144) #[] #[.pointer (some ⟨b5, 0, none⟩), .pointer (some ⟨b6, 0, none⟩), .pointer (some ⟨b12, 0, none⟩), .pointer (some ⟨b8, 0, none⟩)]] 175)).alloc (.cells #[.slice none 0 0] 22) = W2 from hW2.symm]
    rw [← hW2] at hg12 hg14 hb2 hs2
    have HG12 := Lib.hid hg12
    have HG14 := Lib.hid hg14
    have HB2 := Lib.hid hb2
    have HS2 := Lib.hid hs2
    clear hW2 hg12 hg14 hb2 hs2
    go_loopw [31] (fun i wr => ∃ (k : Nat) (A' : Option Addr) (c' : Nat), k ≤ ts.length ∧ i = .int .i64 k ∧ Blk wr (w1.heap.size + 1) 22 #[.slice A' k c'] ∧ OwnBuys wr (w1.heap.size + 2) (.slice A' k c') (ts.take k) ∧ Below (w1.heap.size + 1) W2 wr) (fun i _ => ts.length - (intOf i).toNat)
    case atStart => exact ⟨0, none, 0, Nat.zero_le _, rfl, HG14.out, OwnBuys.nil _ _, Below.refl _ _⟩
    case round =>
      obtain ⟨k, A', c', hk, rfl, hg, hob, hbr⟩ := hrel
      have hsz : w1.heap.size + 2 ≤ wr.heap.size := hg.lt
      have hbw1 : Below w1.heap.size w1 wr := HB2.out.trans (hbr.mono (by omega))
      have x0 : wr.cell? ⟨w1.heap.size + 1, 0, none⟩ = some (.slice A' k c') := hg.cell 0
      have HG := Lib.hid hg
      have HBR := Lib.hid hbr
      have HBW1 := Lib.hid hbw1
      have HBW := Lib.hid (HB1.out.trans (hbw1.mono HB1.out.size))
      by_cases hlt : k < ts.length
      · obtain ⟨l, hlk⟩ : ∃ l, ts[k]? = some l := ⟨_, List.getElem?_eq_getElem hlt⟩
        obtain ⟨u, hu, hou⟩ := HVS.out k l hlk
        obtain ⟨bq, of, rfl, _, hbq, hcs⟩ := hsl3' hlt
        have cu : wr.cell? ⟨bq, of + k, none⟩ = some u := (HBW.out.cell (p := ⟨bq, of + k, none⟩) hbq).trans (hcs _ _ hu)
        have hl8 := HCK.out l (List.mem_cons_of_mem _ (List.mem_of_getElem? hlk))
        obtain ⟨⟨_, Au, cu', rfl, _⟩, _⟩ := id hou
        have HOU := Lib.hid (hou.grow HBW.out)
        obtain ⟨vs', hs', ho'⟩ := hob
        have hlk2 : (ts.take k).length = k := by simp; omega
        rw [hlk2] at hs'
        have HS' := Lib.hid hs'
        have HO' := Lib.hid ho'
        have HLK := Lib.hid hlk
        have HLK2 := Lib.hid hlk2
        have e0 : (0 : Int) ≤ (k : Int) := by omega
        have e1 : (k : Int) < (ts.length : Int) := by omega
        have hcl := fun W hb => clone_off (Off.all l) l.length (.slice Au l.length cu') Rs W (HOU.out.grow hb).1 (Off.all_one l) (by omega)
        have HCL := Lib.hid hcl
        clear hg hbr hbw1 hcs hu hou hs' ho' hlk hlk2 hcl
        go_wp2_with fail
        refine wp_region_F (fun W : World => W.cell? ⟨w1.heap.size + 1, 0, none⟩ = some (.slice A' k c')) [5] (by kernel_rfl) (show wr.drew.cell? ⟨w1.heap.size + 1, 0, none⟩ = some (.slice A' k c') from x0) (fun hS => ?_)
        refine wpAnyF_take (i := 0) (oi := { dst := some 35, op := Go.Op.load 22 (Go.Operand.tmp 14), type := 22, pos := "truth.go:135", after := #[], guard := none }) (v := ?_) rfl (by kernel_rfl) (by kernel_rfl) (by kernel_rfl) (by kernel_rfl) (fun _ _ _ h => h) (Or.inl ⟨by rfl, ?_⟩) hS ?_
        rotate_left
        · intro w' hSw; have q0 : w'.cell? ⟨w1.heap.size + 1, 0, none⟩ = some (.slice A' k c') := hSw; go_simp; try with_reducible rfl
        try simp only [Act.put, List.setIfInBounds_toArray, List.set_cons_zero, List.set_cons_succ]
        refine wpAnyF_take (i := 1) (oi := { dst := some 36, op := Go.Op.move (Go.Operand.tmp 16), type := 41, pos := "truth.go:135", after := #[], guard := none }) (v := ?_) rfl (by kernel_rfl) (by kernel_rfl) (by kernel_rfl) (by kernel_rfl) (fun _ _ _ h => h) (Or.inl ⟨by rfl, ?_⟩) hS ?_
        rotate_left
        · intro w' hSw; have q0 : w'.cell? ⟨w1.heap.size + 1, 0, none⟩ = some (.slice A' k c') := hSw; go_simp; try with_reducible rfl
        try simp only [Act.put, List.setIfInBounds_toArray, List.set_cons_zero, List.set_cons_succ]
        refine wpAnyF_ready (rs := [2]) (by kernel_rfl) (by simp) ?_
        refine AllReadyF.cons (o := { dst := some 37, op := Go.Op.call { callee := Go.Callee.value (Go.Operand.func 115), args := #[Go.Operand.tmp 36], argTypes := #[41] }, type := 41, pos := "truth.go:135", after := #[{ on := 1, ground := Go.Ground.data }], guard := none }) rfl (by rfl) (fun K hK => ?_) ?_
        · go_simp
          refine (HCL.out _ (Below.refl _ _).drew).mono ?_
          rintro e w7 ⟨A7, c7, rfl, hown7, hb7⟩
          refine hK.out _ _ ?_ (fun hS => ?_)
          · exact (((Below.refl wr.heap.size wr).drew.trans (hb7.mono (by simp))).cell (p := ⟨w1.heap.size + 1, 0, none⟩) (by simp; omega)).trans x0
          clear hK K
          try simp only [Act.put, List.setIfInBounds_toArray, List.set_cons_zero, List.set_cons_succ]
          have hb7' : Below wr.heap.size wr w7 := (Below.refl wr.heap.size wr).drew.trans (hb7.mono (by simp))
          have HO7 := Lib.hid (show w7.ownsRow wr.heap.size 45 2 (.slice A7 l.length c7) l.length (Off.all l) from hown7)
          have HB7 := Lib.hid hb7'
          have hs7 := hb7'.size
          have HS8 := Lib.hid (own_alloc (own_grow HS'.out hb7') (.cells #[.slice A7 l.length c7] 41))
          clear hb7 hb7' hown7
          refine wpAnyF_ready (rs := [3]) (by kernel_rfl) (by simp) ?_
          refine AllReadyF.cons (o := { dst := some 38, op := Go.Op.buildSlice 22 1 #[(0, Go.Operand.tmp 37)], type := 22, pos := "truth.go:135", after := #[{ on := 2, ground := Go.Ground.data }], guard := none }) rfl (by rfl) (fun K hK => ?_) ?_
          · go_simp
            refine hK.out _ _ ?_ (fun hS => ?_)
            · exact ((HB7.out.alloc HB7.out.size _).cell (p := ⟨w1.heap.size + 1, 0, none⟩) (by simp; omega)).trans x0
            clear hK K
            try simp only [Act.put, List.setIfInBounds_toArray, List.set_cons_zero, List.set_cons_succ]
            refine wpAnyF_ready (rs := [4]) (by kernel_rfl) (by simp) ?_
            refine AllReadyF.cons (o := { dst := some 39, op := Go.Op.call { callee := Go.Callee.builtin Go.Builtin.append, args := #[Go.Operand.tmp 35, Go.Operand.tmp 38], argTypes := #[22, 22] }, type := 22, pos := "truth.go:135", after := #[{ on := 0, ground := Go.Ground.data }, { on := 3, ground := Go.Ground.data }, { on := 2, ground := Go.Ground.chain }], guard := none }) rfl (by rfl) (fun K hK => ?_) ?_
            · refine step_app (w7.alloc (.cells #[.slice A7 l.length c7] 41)) rfl (.tmp 35) (.tmp 38) et_offs rfl (w1.heap.size + 2) (.slice A' k c') k vs' rfl HS8.out _ (.slice (some ⟨w7.heap.size, 0, none⟩) 1 1) 1 [.slice A7 l.length c7] rfl (Sl.new w7 #[.slice A7 l.length c7] _ 1 1 (by unfold maxLen; omega) rfl) (by simp [Value.oneCell']) (by omega) (by unfold maxLen; omega) (by simp; omega) ?_
              intro A8 c8 w8 hown8 hg8 hlo8
              refine hK.out _ _ ?_ (fun hS => ?_)
              · exact (((HG.out.grow HB7.out).alloc (.cells #[.slice A7 l.length c7] 41)).grown hg8 (fun e => by have := (HS'.out.lt _ e.symm).1; omega)).cell 0
              clear hK K
              try simp only [Act.put, List.setIfInBounds_toArray, List.set_cons_zero, List.set_cons_succ]
              have hne14 : (Value.slice A' k c').ownBlock ≠ some (w1.heap.size + 1) := (fun e => by have := (HS'.out.lt _ e).1; omega)
              have hg14' := ((HG.out.grow HB7.out).alloc (.cells #[.slice A7 l.length c7] 41)).grown hg8 (fun e => hne14 e.symm)
              have z0 : w8.cell? ⟨w1.heap.size + 1, 0, none⟩ = some (.slice A' k c') := hg14'.cell 0
              have f0 := hg14'.frozen 0
              have HG8 := Lib.hid hg8
              have HO8 := Lib.hid hown8
              have HL8 := Lib.hid hlo8
              have HG14' := Lib.hid hg14'
              clear hown8 hg8 hlo8 hg14' hne14
              refine wpAnyF_ready (rs := [5]) (by kernel_rfl) (by simp) ?_
              refine AllReadyF.fin (o := { dst := none, op := Go.Op.store 22 (Go.Operand.tmp 14) (Go.Operand.tmp 39), type := 0, pos := "truth.go:135", after := #[{ on := 4, ground := Go.Ground.data }, { on := 4, ground := Go.Ground.chain }, { on := 0, ground := Go.Ground.phase }, { on := 1, ground := Go.Ground.phase }, { on := 2, ground := Go.Ground.phase }, { on := 3, ground := Go.Ground.phase }, { on := 4, ground := Go.Ground.phase }], guard := none }) rfl (by rfl) (fun K hK => ?_) ?_
              · go_simp
                refine hK.out _ _ ?_
                clear hK K
                try simp only [Act.put, List.setIfInBounds_toArray, List.set_cons_zero, List.set_cons_succ]
                refine wpAnyF_done (by kernel_rfl) ?_ _
                go_wp2_with fail
                go_roundw
                case rel =>
                  have hclone : Offs (w7.alloc (.cells #[.slice A7 l.length c7] 41)) (fun b => w1.heap.size + 2 ≤ b ∧ (Value.slice A' k c').ownBlock ≠ some b) (.slice A7 l.length c7) l := by
                    refine ⟨((Sl.of_own HO7.out).alloc _).mono fun b _ hb => ⟨?_, fun e => ?_⟩, HOU.out.2⟩
                    · have := (HO7.out.lt b hb).1; omega
                    · have h1 := (HO7.out.lt b hb).1
                      have h2 := (HS'.out.lt b e).2
                      omega
                  have hold : ∀ (j : Nat) (l2 : List Off), (ts.take k)[j]? = some l2 → ∃ u, vs'[j]? = some u ∧ Offs (w7.alloc (.cells #[.slice A7 l.length c7] 41)) (fun b => w1.heap.size + 2 ≤ b ∧ (Value.slice A' k c').ownBlock ≠ some b) u l2 :=
                    fun j l2 hj => let ⟨u, hu, hl⟩ := HO'.out j l2 hj; ⟨u, hu, (hl.grow HB7.out).alloc _⟩
                  have hsn := OwnBuys.snoc HLK2.out HS8.out hold hclone HO8.out HG8.out HL8.out
                  have htk : ts.take (k + 1) = ts.take k ++ [l] := by rw [List.take_add_one, HLK.out]; rfl
                  rw [← htk] at hsn
                  exact ⟨k + 1, A8, c8, by omega, by go_num, HG14'.out.set_ 0 (.slice A8 (k + 1) c8), hsn.far (grownBy_setCell w8 ⟨w1.heap.size + 1, 0, none⟩ (.slice A8 (k + 1) c8)) (fun j e => by simp at e; omega),
                    (((HBR.out.trans (HB7.out.mono (by omega))).alloc (by omega) _).grown HG8.out (by simp; omega) (fun g e => by have := (HS'.out.lt g e).1; omega)).setCell (p := ⟨w1.heap.size + 1, 0, none⟩) (by simp) _⟩
                case measure => simp [intOf]; omega
              exact AllReadyF.nil
            exact AllReadyF.nil
          exact AllReadyF.nil
        exact AllReadyF.nil
      · obtain rfl : k = ts.length := by omega
        rw [List.take_length] at hob
        have HOB := Lib.hid hob
        clear hg hbr hbw1 hob
        go_wp2_with fail
        show P (.returned (.tuple #[itV (w1.heap.size + 1) w1.heap.size, .int .i64 0])) _
        rw [HP.out]
        refine ⟨HBW.out, .inr ⟨HZ.out.symm, ?_⟩⟩
        refine ⟨_, w1.heap.size + 1, w1.heap.size, HBK.out, ⟨⟨b5, b6, b12, b8, vb, vt', (HA.out.grow HBW1.out).mono (fun b _ h => by simp at h; omega), ?_⟩, ⟨A', c', HG.out, (HOB.out.mono (show w.heap.size ≤ w1.heap.size + 2 by omega)).buys⟩, hs1, by omega⟩, rfl⟩
        exact HG12.out.below HBR.out (by omega)
end Go.Proofs.Ytcigobiolbojhaa.Vb

/- Law 29: an Ask that came in; how many lists it holds. -/
namespace Go.Proofs.Ytcigobiolbojhaa.Vb
open Go.RowKit Go.WideShapes Go.ChangeShapes Go.ChangeAt Go.Joins Go.Deep

theorem array6 {α : Type} {cs : Array α} (h : cs.size = 6) : ∃ c0 c1 c2 c3 c4 c5, cs = #[c0, c1, c2, c3, c4, c5] := by
  obtain ⟨l⟩ := cs
  match l, h with
  | [c0, c1, c2, c3, c4, c5], _ => exact ⟨c0, c1, c2, c3, c4, c5, rfl⟩
theorem list5 {α : Type} {l : List α} (h : l.length = 5) : ∃ c0 c1 c2 c3 c4, l = [c0, c1, c2, c3, c4] := by
  match l, h with
  | [c0, c1, c2, c3, c4], _ => exact ⟨c0, c1, c2, c3, c4, rfl⟩
theorem bulk_len {H : Type} (l : List (DataW H)) : l.length ≤ Rows.uptoBulkAll l := by
  induction l with
  | nil => simp [Rows.uptoBulkAll]
  | cons x r ih =>
    have : 1 ≤ Rows.uptoBulk x := by
      cases x with
      | lit l => cases l <;> simp [Rows.uptoBulk]
      | nil => simp [Rows.uptoBulk]
      | ptr d => simp [Rows.uptoBulk]
      | slice elems spare => simp [Rows.uptoBulk]
      | agg parts => simp [Rows.uptoBulk]
      | iface t d => simp [Rows.uptoBulk]
      | map entries => simp [Rows.uptoBulk]
      | held h => simp [Rows.uptoBulk]
    simp only [Rows.uptoBulkAll, List.length_cons]
    omega
theorem slice_bulk {H : Type} {enc : TypeId × Value → H} {P : Program} {w : World} {base : Nat} {held : Bool} {t e : TypeId} {fuel n c : Nat} {A : Option Addr} {x : DataW H × List MemPlace} (ht : P.underlying t = some (.slice e))
    (h : DataW.trod enc P w base (fun _ => true) held fuel t [.slice A n c] = some x) : n ≤ Rows.uptoBulk x.1 := by
  rcases open_slice ht h with ⟨hcs, _⟩ | ⟨a, len, cap, m, k, D, Pl, hcs, _, hl, hm, hmm, hx, _⟩
  · simp at hcs
    omega
  · simp at hcs
    subst hx
    have h1 := bulk_len ((List.range len).map D)
    simp only [Rows.uptoBulk]
    simp at h1
    omega

set_option maxRecDepth 100000 in
set_option maxHeartbeats 1600000 in
theorem open_ask {H : Type} {enc : TypeId × Value → H} {w : World} {base : Nat} {held : Bool} {r : Reach} {b0 : Nat} {v : Value} {d : DataW H} {p : List MemPlace}
    (hv : Value.okWide Try.prog w r b0 115 v) (h : DataW.Trod enc Try.prog w base (fun _ => true) held 115 v d p) :
    ∃ (n : Int) (bs : List (List Off)) (buyer r : Int) (tr : List Off) (ts : List (List Off)) (vb vt vs : Value), v = .agg #[.int .i64 n, vb, .int .i64 buyer, .int .i64 r, vt, vs] ∧ Buys w (fun _ => True) vb bs ∧ Offs w (fun _ => True) vt tr ∧ Buys w (fun _ => True) vs ts ∧
      (-9223372036854775808 ≤ buyer ∧ buyer ≤ 9223372036854775807) ∧ (-9223372036854775808 ≤ r ∧ r ≤ 9223372036854775807) ∧ bs.length ≤ Rows.uptoBulk d ∧ ts.length ≤ Rows.uptoBulk d := by
  obtain ⟨cs, rfl, hsz⟩ := okWide_struct Try.underlying115 hv
  obtain ⟨c0, c1, c2, c3, c4, c5, rfl⟩ := array6 (hsz.trans (show Try.prog.cellsOf 115 = 6 by kernel_rfl))
  obtain ⟨fuel, hf⟩ := h
  obtain ⟨xs, m, _, hx, _, hlen, hff⟩ := DataW.trod_struct Try.underlying115 hf
  obtain ⟨y0, y1, y2, y3, y4, rfl⟩ := list5 (l := xs) (by simpa using hlen)
  have k24 : Try.prog.cellsOf 24 = 2 := by kernel_rfl
  have k3 : Try.prog.cellsOf 3 = 1 := by kernel_rfl
  have k25 : Try.prog.cellsOf 113 = 1 := by kernel_rfl
  have k26 : Try.prog.cellsOf 41 = 1 := by kernel_rfl
  have k22 : Try.prog.cellsOf 22 = 1 := by kernel_rfl
  have h0 := hff 0 _ rfl
  have h1 := hff 1 _ rfl
  have h2 := hff 2 _ rfl
  have h3 := hff 3 _ rfl
  have h4 := hff 4 _ rfl
  simp [Value.cells, k24] at h0
  simp [Value.cells, k3] at h1
  simp [Value.cells, k25] at h2
  simp [Value.cells, k26] at h3
  simp [Value.cells, k22] at h4
  obtain ⟨z0, z1, m2, hz, _, g0, g1⟩ := trod_struct2 Try.underlying24 h0
  simp [k3] at g0
  simp [k22] at g1
  obtain ⟨n, e0, _, w0⟩ := DataW.trod_int Try.underlying3 g0
  obtain ⟨bu, e1, _, w1⟩ := DataW.trod_int Try.underlying3 h1
  obtain ⟨ru, e2, _, w2⟩ := DataW.trod_int Try.underlying113 h2
  simp at e0 e1 e2
  subst e0 e1 e2
  obtain ⟨bs, hbs⟩ := open_buys Try.underlying22 (by kernel_rfl) Try.underlying41 Try.underlying45 (by kernel_rfl) (by kernel_rfl) rfl rfl (by kernel_rfl) (by kernel_rfl) (by kernel_rfl) g1
  obtain ⟨ts, hts⟩ := open_buys Try.underlying22 (by kernel_rfl) Try.underlying41 Try.underlying45 (by kernel_rfl) (by kernel_rfl) rfl rfl (by kernel_rfl) (by kernel_rfl) (by kernel_rfl) h4
  obtain ⟨tr, htr⟩ := open_offs Try.underlying41 Try.underlying45 (by kernel_rfl) (by kernel_rfl) rfl rfl (by kernel_rfl) (by kernel_rfl) (by kernel_rfl) h3
  obtain ⟨_, ⟨_, Ab, cb, hvb, _⟩, _⟩ := id hbs
  obtain ⟨_, ⟨_, At, ct, hvt, _⟩, _⟩ := id hts
  subst hvb hvt
  have hb1 := slice_bulk Try.underlying22 g1
  have hb2 := slice_bulk Try.underlying22 h4
  subst hz
  simp only [List.map_cons, List.map_nil, Prod.mk.injEq] at hx
  obtain ⟨rfl, _⟩ := hx
  refine ⟨n, bs, bu, ru, tr, ts, _, c4, _, rfl, hbs, htr, hts, bd_i64 w1, bd_i64 w2, ?_, ?_⟩
  · simp only [Rows.uptoBulk, Rows.uptoBulkAll]
    omega
  · simp only [Rows.uptoBulk, Rows.uptoBulkAll]
    omega
end Go.Proofs.Ytcigobiolbojhaa.Vb

/- Law 29: an Asked that came in. -/
namespace Go.Proofs.Ytcigobiolbojhaa.Vb
open Go.RowKit Go.WideShapes Go.ChangeShapes Go.ChangeAt Go.Joins Go.Deep

section
variable {H : Type} {enc : TypeId × Value → H} {P : Program} {w : World} {base : Nat} {held : Bool}
/-- bids that came in -/
theorem open_secs {t e : TypeId} {f0 f1 : Field} (ht : P.underlying t = some (.slice e)) (he : P.underlying e = some (.struct #[f0, f1])) (h0 : P.underlying f0.type = some (.int .i64)) (h1 : P.underlying f1.type = some (.int .i64))
    (o0 : f0.offset = 0) (o1 : f1.offset = 1) (s0 : P.cellsOf f0.type = 1) (s1 : P.cellsOf f1.type = 1) (hC : P.cellsOf e = 2) {fuel : Nat} {v : Value} {x : DataW H × List MemPlace}
    (h : DataW.trod enc P w base (fun _ => true) held fuel t [v] = some x) : ∃ l, Secs w (fun _ => True) v l := by
  rcases open_slice ht h with ⟨hcs, _⟩ | ⟨a, len, cap, m, n, D, Pl, hcs, _, hl, hm, hmm, _, hi⟩
  · obtain rfl : v = .slice none 0 0 := by simpa using hcs
    exact ⟨[], ⟨rfl, none, 0, rfl, Nat.le_refl _, Nat.zero_le _, fun h => absurd h (by simp)⟩, fun o ho => by cases ho⟩
  · obtain rfl : v = .slice (some a) len cap := by simpa using hcs
    simp only [if_true] at hmm
    have hmm' := hmm.symm
    subst hmm'
    have each : ∀ i, i < len → ∃ o : Sec, o.wf ∧ w.cell? (a.add (i * 2)) = some (.int .i64 o.b) ∧ w.cell? (a.add (i * 2 + 1)) = some (.int .i64 o.c) := by
      intro i hlt
      obtain ⟨cs', hc, ht'⟩ := hi i (by omega)
      rw [hC] at hc
      obtain ⟨xs, n', _, _, _, _, hg⟩ := DataW.trod_struct he ht'
      obtain ⟨_, hcl, hat⟩ := World.cells?_some hc
      have g0 := hg 0 f0 rfl
      have g1 := hg 1 f1 rfl
      rw [o0, s0] at g0
      rw [o1, s1] at g1
      match cs', hcl with
      | [c0, c1], _ =>
        obtain ⟨y0, hy0⟩ : ∃ y, xs[0]? = some y := by
          cases hx : xs[0]? with
          | some y => exact ⟨y, rfl⟩
          | none => have : xs.length = 2 := by assumption
                    rw [List.getElem?_eq_none_iff] at hx; omega
        obtain ⟨y1, hy1⟩ : ∃ y, xs[1]? = some y := by
          cases hx : xs[1]? with
          | some y => exact ⟨y, rfl⟩
          | none => have : xs.length = 2 := by assumption
                    rw [List.getElem?_eq_none_iff] at hx; omega
        rw [hy0] at g0
        rw [hy1] at g1
        simp at g0 g1
        obtain ⟨m0, e0, _, w0⟩ := DataW.trod_int h0 g0
        obtain ⟨m1, e1, _, w1⟩ := DataW.trod_int h1 g1
        simp at e0 e1
        subst e0 e1
        refine ⟨⟨m0, m1⟩, ⟨bd_i64 w0, (bd_i64 w1).1, (bd_i64 w1).2⟩, ?_, ?_⟩
        · have := hat 0 (by omega)
          simpa [add_add] using this
        · have := hat 1 (by omega)
          simpa [add_add] using this
    haveI : Inhabited Sec := ⟨⟨0, 0⟩⟩
    obtain ⟨F, hF⟩ := choose_lt each
    refine ⟨(List.range len).map F, ⟨by rw [Sec.all_length], some a, cap, by simp, by simpa using hl, hm, fun h0' => ?_⟩, fun o ho => ?_⟩
    · have h0'' : 0 < len := by simpa using h0'
      obtain ⟨b, off, rfl⟩ := addr_of_cell (w := w) (a := a) (by simpa using (hF 0 h0'').2.1)
      refine ⟨b, off, rfl, trivial, World.block_lt_of_cell? w ⟨b, off, none⟩ (u := .int .i64 (F 0).b) (by simpa [Addr.add] using (hF 0 h0'').2.1), fun j u hu => ?_⟩
      have hlen : (Sec.all ((List.range len).map F)).length = len * 2 := by rw [Sec.all_length]; simp
      have hj : j < len * 2 := by rw [← hlen]; exact (List.getElem?_eq_some_iff.1 hu).1
      have hk : ((List.range len).map F)[j / 2]? = some (F (j / 2)) := by
        rw [List.getElem?_map, List.getElem?_range (by omega)]
        rfl
      have hq := hF (j / 2) (by omega)
      rcases (show j = j / 2 * 2 ∨ j = j / 2 * 2 + 1 by omega) with h2 | h2
      · have := Sec.all_fst _ _ _ hk
        rw [← h2, hu] at this
        injection this with this
        subst this
        rw [← add_lit', h2, show j / 2 * 2 / 2 = j / 2 by omega]
        exact hq.2.1
      · have := Sec.all_snd _ _ _ hk
        rw [← h2, hu] at this
        injection this with this
        subst this
        rw [← add_lit', h2, show (j / 2 * 2 + 1) / 2 = j / 2 by omega]
        exact hq.2.2
    · obtain ⟨i, hi', rfl⟩ := List.mem_map.1 ho
      exact (hF i (List.mem_range.1 hi')).1

end

theorem array5 {α : Type} {cs : Array α} (h : cs.size = 5) : ∃ c0 c1 c2 c3 c4, cs = #[c0, c1, c2, c3, c4] := by
  obtain ⟨l⟩ := cs
  match l, h with
  | [c0, c1, c2, c3, c4], _ => exact ⟨c0, c1, c2, c3, c4, rfl⟩
set_option maxRecDepth 100000 in
set_option maxHeartbeats 1600000 in
theorem open_asked {H : Type} {enc : TypeId × Value → H} {w : World} {base : Nat} {held : Bool} {r : Reach} {b0 : Nat} {v : Value} {d : DataW H} {p : List MemPlace}
    (hv : Value.okWide Try.prog w r b0 118 v) (h : DataW.Trod enc Try.prog w base (fun _ => true) held 118 v d p) :
    ∃ (floor : Int) (l : List Sec) (b worth other : Int) (vl : Value), v = .agg #[.int .i64 floor, vl, .int .i64 b, .int .i64 worth, .int .i64 other] ∧ Secs w (fun _ => True) vl l ∧
      (-9223372036854775808 ≤ floor ∧ floor ≤ 9223372036854775807) ∧ (-9223372036854775808 ≤ b ∧ b ≤ 9223372036854775807) ∧ (-9223372036854775808 ≤ worth ∧ worth ≤ 9223372036854775807) ∧ (-9223372036854775808 ≤ other ∧ other ≤ 9223372036854775807) := by
  obtain ⟨cs, rfl, hsz⟩ := okWide_struct Try.underlying118 hv
  obtain ⟨c0, c1, c2, c3, c4, rfl⟩ := array5 (hsz.trans (show Try.prog.cellsOf 118 = 5 by kernel_rfl))
  obtain ⟨fuel, hf⟩ := h
  obtain ⟨xs, m, _, hx, _, hlen, hff⟩ := DataW.trod_struct Try.underlying118 hf
  obtain ⟨y0, y1, y2, y3, y4, rfl⟩ := list5 (l := xs) (by simpa using hlen)
  have k2 : Try.prog.cellsOf 2 = 1 := by kernel_rfl
  have k3 : Try.prog.cellsOf 3 = 1 := by kernel_rfl
  have k116 : Try.prog.cellsOf 116 = 1 := by kernel_rfl
  have h0 := hff 0 _ rfl
  have h1 := hff 1 _ rfl
  have h2 := hff 2 _ rfl
  have h3 := hff 3 _ rfl
  have h4 := hff 4 _ rfl
  simp [Value.cells, k2] at h0
  simp [Value.cells, k116] at h1
  simp [Value.cells, k3] at h2
  simp [Value.cells, k2] at h3
  simp [Value.cells, k2] at h4
  obtain ⟨fl, e0, _, w0⟩ := DataW.trod_int Try.underlying2 h0
  obtain ⟨bi, e2, _, w2⟩ := DataW.trod_int Try.underlying3 h2
  obtain ⟨wo, e3, _, w3⟩ := DataW.trod_int Try.underlying2 h3
  obtain ⟨ot, e4, _, w4⟩ := DataW.trod_int Try.underlying2 h4
  simp at e0 e2 e3 e4
  subst e0 e2 e3 e4
  obtain ⟨l, hl⟩ := open_secs Try.underlying116 Try.underlying148 (by kernel_rfl) (by kernel_rfl) rfl rfl (by kernel_rfl) (by kernel_rfl) (by kernel_rfl) h1
  exact ⟨fl, l, bi, wo, ot, c1, rfl, hl, bd_i64 w0, bd_i64 w2, bd_i64 w3, bd_i64 w4⟩
end Go.Proofs.Ytcigobiolbojhaa.Vb

/- truth.Tries' iterator. -/
namespace Go.Proofs.Ytcigobiolbojhaa.Vb
open Go.RowKit Go.Shelf
attribute [local go_sem] Oper.semAt_some

/-- each try's number and what it gains -/
def gainsZ (n : Int) (bs : List (List Off)) (k : Nat) (r : Int) (tr : List Off) (ts : List (List Off)) : List (Int × Int) := ts.mapIdx fun i l => ((i : Int), byV n bs k r tr l)
theorem gainsZ_len (n : Int) (bs : List (List Off)) (k : Nat) (r : Int) (tr : List Off) (ts : List (List Off)) : (gainsZ n bs k r tr ts).length = ts.length := by simp [gainsZ]
theorem gainsZ_get {n : Int} {bs : List (List Off)} {k : Nat} {r : Int} {tr : List Off} {ts : List (List Off)} {i : Nat} {l : List Off} (h : ts[i]? = some l) : (gainsZ n bs k r tr ts)[i]? = some ((i : Int), byV n bs k r tr l) := by simp [gainsZ, h]

set_option maxRecDepth 100000 in
set_option maxHeartbeats 2000000 in
theorem tries1_in (nn : Nat) (hn : 1 ≤ nn) (l lo hi g14 g12 : Nat) (n : Int) (bs : List (List Off)) (k : Nat) (r : Int) (tr : List Off) (ts : List (List Off)) (hts : ts.length ≤ 1000000)
    (hr : r = 1 ∨ r = 2) (hinst : instE n bs = 0) (hk : k < bs.length) (hck : ∀ l ∈ ts, checkE n l = 0) (J Jx : List (Int × Int) → World → Prop) (W : World) (hhi : hi ≤ W.heap.size) (hJ : AbidesFrom W.heap.size J)
    (hY : ∀ pre x W1, J pre W1 → pre ++ [x] <+: gainsZ n bs k r tr ts → pre.length < ts.length → YieldAt Fence.wide (nn - 1) Try.prog l #[.int .i64 x.1, .int .i64 x.2] W1 fun e W' =>
      (e = .returned (.bool true) ∧ J (pre ++ [x]) W' ∧ KeepR lo hi W1 W') ∨ (e = .returned (.bool false) ∧ Jx (pre ++ [x]) W'))
    (hT : TrC W (fun b => lo ≤ b ∧ b < hi) g14 g12 n bs k r tr ts) (h0 : J [] W) :
    CallsIn Fence.wide nn Try.prog 145 #[.func (.yield l) #[] #[], .pointer (some ⟨g14, 0, none⟩), .pointer (some ⟨g12, 0, none⟩)] W fun e W' => (∃ v, e = .returned v) ∧
      ((∃ ys, ys = gainsZ n bs k r tr ts ∧ J ys W') ∨ (∃ pre, pre <+: gainsZ n bs k r tr ts ∧ Jx pre W')) := by
  refine callsIn_of_wp Try.func145 rfl trivial ?_ rfl
  obtain ⟨A, c, hg14, hbu⟩ := hT.own
  have hl14 := hT.l14
  have hl12 := hT.l12
  have x14 : W.cell? ⟨g14, 0, none⟩ = some (.slice A ts.length c) := hg14.cell 0
  have HT := Lib.hid hT
  have HY := Lib.hid hY
  have HJA := Lib.hid hJ
  have HR := Lib.hid hr
  have HI := Lib.hid hinst
  have HCK := Lib.hid hck
  have HBU := Lib.hid hbu
  clear hT hY hJ hr hinst hck hg14 hbu
  simp only [Try.ntmps145, List.size_toArray, List.length_cons, List.length_nil, Nat.reduceAdd, Nat.reduceSub, Array.replicate_succ, Array.replicate_zero, List.push_toArray, List.append_toArray, List.nil_append, List.cons_append]
  gi_wp2
  clear x14
  gi_loopw [8] (fun i wr => ∃ j : Nat, j ≤ ts.length ∧ i = .int .i64 j ∧ J ((gainsZ n bs k r tr ts).take j) wr ∧ KeepR lo hi W wr) (fun i _ => ts.length - (intOf i).toNat)
  case atStart => exact ⟨0, Nat.zero_le _, rfl, h0, KeepR.refl _ _ _⟩
  case round =>
    obtain ⟨j, hj, rfl, hJs, hnx⟩ := hrel
    have hkeep : TrC wr (fun b => lo ≤ b ∧ b < hi) g14 g12 n bs k r tr ts := HT.out.keep hnx.size fun b _ hb => hnx.same b hb.1 hb.2
    have hbr : Buys wr (fun b => lo ≤ b ∧ b < hi) (.slice A ts.length c) ts := HBU.out.keep hnx.size fun b _ hb => hnx.same b hb.1 hb.2
    have HJ := Lib.hid hJs
    have HNX := Lib.hid hnx
    have hsz := hnx.size
    clear hJs
    by_cases hlt : j < ts.length
    · obtain ⟨b5, b6, b12, b8, vb, vt, hA, hf⟩ := hkeep.ask
      have x12 : wr.cell? ⟨g12, 0, none⟩ = some (fnV b5 b6 b12 b8) := hf.cell 0
      obtain ⟨tl, htl⟩ : ∃ tl, ts[j]? = some tl := ⟨_, List.getElem?_eq_getElem hlt⟩
      obtain ⟨bq, of, u, rfl, _, hcu, hou⟩ := hbr.at_ htl
      obtain ⟨⟨_, Au, cu, rfl, _⟩, _⟩ := id hou
      have HA := Lib.hid hA
      have HOU := Lib.hid hou
      have HTL := Lib.hid htl
      have e0 : (0 : Int) ≤ (j : Int) := by omega
      have e1 : (j : Int) < (ts.length : Int) := by omega
      clear hA hf hou htl hbr hkeep hnx
      unfold fnV at x12
      gi_wp2
      refine ⟨trivial, (callsIn_wide.2 (asked1_any _ b5 b6 b12 b8 n bs k r tr tl vb vt _ _ wr HA.out HR.out HI.out hk HOU.out (HCK.out tl (List.mem_of_getElem? HTL.out)))).mono ?_⟩
      rintro e w2 ⟨rfl, hb2⟩
      obtain ⟨gv, hgv⟩ : ∃ z, z = byV n bs k r tr tl := ⟨_, rfl⟩
      rw [← hgv]
      have hget : (gainsZ n bs k r tr ts)[j]? = some ((j : Int), gv) := by rw [hgv]; exact gainsZ_get HTL.out
      have hsu : (gainsZ n bs k r tr ts).take (j + 1) = (gainsZ n bs k r tr ts).take j ++ [((j : Int), gv)] := by rw [List.take_add_one, hget]; rfl
      have HSU := Lib.hid hsu
      have HN2 := Lib.hid (HNX.out.grown (grownBy_of_below hb2 none) (by omega))
      have hlj : ((gainsZ n bs k r tr ts).take j).length < ts.length := by rw [List.length_take, gainsZ_len]; omega
      obtain ⟨fn, tmps, assign, body, hy, hRR⟩ := HY.out _ ((j : Int), gv) w2 (HJA.out _ wr w2 none HJ.out (grownBy_of_below hb2 none) (fun r e => by cases e)) (by rw [← hsu]; exact List.take_prefix _ _) hlj
      dsimp only at hy
      have HRR := Lib.hid hRR
      clear hgv hget hsu hb2 hlj hRR
      gi_wp2
      refine HRR.out.mono ?_
      rintro e W3 (⟨rfl, hJ3, hk3⟩ | ⟨rfl, hJx3⟩)
      · gi_wp2
        go_roundw
        case rel => exact ⟨j + 1, by omega, by go_num, by rw [HSU.out]; exact hJ3, HN2.out.trans hk3⟩
        case measure => simp [intOf]; omega
      · gi_wp2
        refine bodyPost_ret (results_none rfl _ _ _) rfl ?_
        exact ⟨⟨_, rfl⟩, .inr ⟨_, by rw [← HSU.out]; exact List.take_prefix _ _, hJx3⟩⟩
    · obtain rfl : j = ts.length := by omega
      clear hbr hkeep hnx
      gi_wp2
      go_end0
      have := HJ.out
      rw [List.take_of_length_le (by rw [gainsZ_len]; exact Nat.le_refl _)] at this
      exact ⟨⟨_, rfl⟩, .inl ⟨_, rfl, this⟩⟩

theorem tries1_stops (nn : Nat) (hn : 1 ≤ nn) (lo hi g14 g12 : Nat) (n : Int) (bs : List (List Off)) (k : Nat) (r : Int) (tr : List Off) (ts : List (List Off)) (hts : ts.length ≤ 1000000)
    (hr : r = 1 ∨ r = 2) (hinst : instE n bs = 0) (hk : k < bs.length) (hck : ∀ l ∈ ts, checkE n l = 0) (w : World) (hhi : hi ≤ w.heap.size) (hT : TrC w (fun b => lo ≤ b ∧ b < hi) g14 g12 n bs k r tr ts) :
    SeqStopsV Fence.wide nn Try.prog 145 #[.pointer (some ⟨g14, 0, none⟩), .pointer (some ⟨g12, 0, none⟩)] (fun x : Int × Int => #[Value.int .i64 x.1, Value.int .i64 x.2]) (KeepR lo hi) (fun _ _ _ => True) (fun ys => ys = gainsZ n bs k r tr ts) (fun pre => pre <+: gainsZ n bs k r tr ts) ts.length w := fun l J Jx W hW hJ _ hY h0 =>
  tries1_in nn hn l lo hi g14 g12 n bs k r tr ts hts hr hinst hk hck J Jx W (Nat.le_trans hhi hW.size) hJ (fun pre x W1 h1 h2 h3 => hY pre x W1 h1 trivial h2 h3) (hT.keep hW.size fun b hb _ => hW.block b hb) h0
end Go.Proofs.Ytcigobiolbojhaa.Vb

/- truth.Regret. -/
namespace Go.Proofs.Ytcigobiolbojhaa.Vb
open Go.RowKit Go.Shelf
attribute [local go_sem] Oper.semAt_some

theorem wp_quietP {P : Program} {c : Code} {Q : Exit → Act → World → Prop} {a : Act} {w : World} (h : c.wp P (fun e a w => match e with | .panic _ => False | e => Q e a w) a w) : c.wp P Q a w :=
  wp_mono h fun e a w h => by
    cases e with
    | panic c => exact h.elim
    | _ => exact h

/-- the best try so far: what it gains, its number -/
def bestZ (own : Int) (l : List (Int × Int)) : Int × Int := l.foldl (fun a x => if a.1 < x.2 then (x.2, x.1) else a) (own, -1)
theorem bestZ_snoc (own : Int) (l : List (Int × Int)) (x : Int × Int) : bestZ own (l ++ [x]) = if (bestZ own l).1 < x.2 then (x.2, x.1) else bestZ own l := by
  unfold bestZ
  rw [List.foldl_append]
  rfl
structure RegI (bB bA : Nat) (own : Int) (pre : List (Int × Int)) (W : World) : Prop where
  b : Blk W bB 2 #[.int .i64 (bestZ own pre).1]
  a : Blk W bA 3 #[.int .i64 (bestZ own pre).2]
theorem RegI.own (bB bA : Nat) (ow : Int) : Own (RegI bB bA ow) := fun _ _ _ _ h hg hr => ⟨h.b.cells hg hr, h.a.cells hg hr⟩

def regretV (n : Int) (bs : List (List Off)) (buyer r : Int) (tr : List Off) (ts : List (List Off)) : Value :=
  if askedE n bs buyer r (tr :: ts) = 0 then .tuple #[.int .i64 (wrap64 ((bestZ (byV n bs buyer.toNat r tr tr) (gainsZ n bs buyer.toNat r tr ts)).1 - byV n bs buyer.toNat r tr tr)), .int .i64 (bestZ (byV n bs buyer.toNat r tr tr) (gainsZ n bs buyer.toNat r tr ts)).2, .int .i64 0]
  else .tuple #[.int .i64 0, .int .i64 0, .int .i64 (askedE n bs buyer r (tr :: ts))]

set_option maxRecDepth 100000 in
set_option maxHeartbeats 4000000 in
theorem regret_err (n : Int) (bs : List (List Off)) (buyer r : Int) (tr : List Off) (ts : List (List Off)) (v vt vs : Value) (R Rt Rs : Nat → Prop) (w : World) (hl : Buys w R v bs) (ht : Offs w Rt vt tr) (hs : Buys w Rs vs ts)
    (hts : ts.length ≤ 1000000) (hz9 : askedE n bs buyer r (tr :: ts) ≠ 0) (hb : -9223372036854775808 ≤ buyer ∧ buyer ≤ 9223372036854775807) (hr : -9223372036854775808 ≤ r ∧ r ≤ 9223372036854775807) :
    Calls Try.prog 73 #[.agg #[.int .i64 n, v], .int .i64 buyer, .int .i64 r, vt, vs] w fun e w' => e = .returned (regretV n bs buyer r tr ts) ∧ Below w.heap.size w w' := by
  obtain ⟨_, ⟨_, A, cap, rfl, _⟩, _⟩ := id hl
  obtain ⟨⟨_, At, capt, rfl, _⟩, _⟩ := id ht
  obtain ⟨_, ⟨_, As, caps, rfl, _⟩, _⟩ := id hs
  have HB := Lib.hid hl
  have HT := Lib.hid ht
  have HS := Lib.hid hs
  have hbd := askedE_bd n bs buyer r (tr :: ts)
  obtain ⟨z, hz⟩ : ∃ z, z = askedE n bs buyer r (tr :: ts) := ⟨_, rfl⟩
  obtain ⟨ans, hans⟩ : ∃ a, a = regretV n bs buyer r tr ts := ⟨_, rfl⟩
  rw [← hans]
  have HANS := Lib.hid hans
  rw [← hz] at hbd
  have HZ := Lib.hid hz
  have HZ9 := Lib.hid hz9
  clear hl ht hs hz hans hz9
  go_enter Try.func73, Try.ntmps73
  go_wp2_with fail
  refine (asked29_any n bs buyer r tr ts _ _ _ R Rt Rs (w.alloc (.cells #[.int .i64 n, .slice A bs.length cap] 24)) (HB.out.alloc _) (HT.out.alloc _) (HS.out.alloc _) hts hb hr).mono ?_
  rintro e w1 ⟨hb1, hcase⟩
  have HX1 := Lib.hid ((Blk.new w 24 #[.int .i64 n, .slice A bs.length cap]).grow hb1)
  have HB1 := Lib.hid (((Below.refl w.heap.size w).alloc (Nat.le_refl _) (.cells #[.int .i64 n, .slice A bs.length cap] 24)).trans (hb1.mono (by simp)))
  clear hb1
  rw [← HZ.out] at hcase
  rcases hcase with ⟨hne, rfl⟩ | ⟨h0, k, b5, b6, b12, b8, vb, vt', hbk, hA, rfl⟩
  · have hcb : (z != 0) = true := by simpa using hne
    have HA := Lib.hid (show ans = .tuple #[.int .i64 0, .int .i64 0, .int .i64 z] from by rw [HANS.out]; unfold regretV; rw [← HZ.out, if_neg hne])
    clear hne
    go_wp2_with fail
    exact bodyPost_ret (v := .tuple #[.int .i64 0, .int .i64 0, .int .i64 z]) (by simp [results, Try.results73, go_sem]) rfl ⟨by rw [HA.out], HB1.out⟩
  · exact absurd (HZ.out.symm.trans h0) HZ9.out

set_option maxRecDepth 100000 in
set_option maxHeartbeats 4000000 in
theorem regret_any (n : Int) (bs : List (List Off)) (buyer r : Int) (tr : List Off) (ts : List (List Off)) (v vt vs : Value) (R Rt Rs : Nat → Prop) (w : World) (hl : Buys w R v bs) (ht : Offs w Rt vt tr) (hs : Buys w Rs vs ts)
    (hts : ts.length ≤ 1000000) (hb : -9223372036854775808 ≤ buyer ∧ buyer ≤ 9223372036854775807) (hr : -9223372036854775808 ≤ r ∧ r ≤ 9223372036854775807) :
    Calls Try.prog 73 #[.agg #[.int .i64 n, v], .int .i64 buyer, .int .i64 r, vt, vs] w fun e w' => e = .returned (regretV n bs buyer r tr ts) ∧ Below w.heap.size w w' := by
  obtain ⟨_, ⟨_, A, cap, rfl, _⟩, _⟩ := id hl
  obtain ⟨⟨_, At, capt, rfl, _⟩, _⟩ := id ht
  obtain ⟨_, ⟨_, As, caps, rfl, _⟩, _⟩ := id hs
  have HB := Lib.hid hl
  have HT := Lib.hid ht
  have HS := Lib.hid hs
  by_cases hz9 : askedE n bs buyer r (tr :: ts) ≠ 0
  · exact regret_err n bs buyer r tr ts _ _ _ R Rt Rs w HB.out HT.out HS.out hts hz9 hb hr
  have hbd := askedE_bd n bs buyer r (tr :: ts)
  obtain ⟨z, hz⟩ : ∃ z, z = askedE n bs buyer r (tr :: ts) := ⟨_, rfl⟩
  obtain ⟨ans, hans⟩ : ∃ a, a = regretV n bs buyer r tr ts := ⟨_, rfl⟩
  rw [← hans]
  have HANS := Lib.hid hans
  rw [← hz] at hbd
  have HZ := Lib.hid hz
  clear hl ht hs hz hans
  refine (callsIn_wide (n := 3)).1 (callsIn_of_wp_marks Try.func73 rfl trivial ((wpIn_wide (n := 3)).2 ?_))
  simp only [Try.ntmps73, List.size_toArray, List.length_cons, List.length_nil, Nat.reduceAdd, Nat.reduceSub, Array.replicate_succ, Array.replicate_zero, List.push_toArray, List.append_toArray, List.nil_append, List.cons_append]
  go_wp2_with fail
  refine (asked29_any n bs buyer r tr ts _ _ _ R Rt Rs (w.alloc (.cells #[.int .i64 n, .slice A bs.length cap] 24)) (HB.out.alloc _) (HT.out.alloc _) (HS.out.alloc _) hts hb hr).mono ?_
  rintro e w1 ⟨hb1, hcase⟩
  have HX1 := Lib.hid ((Blk.new w 24 #[.int .i64 n, .slice A bs.length cap]).grow hb1)
  have HB1 := Lib.hid (((Below.refl w.heap.size w).alloc (Nat.le_refl _) (.cells #[.int .i64 n, .slice A bs.length cap] 24)).trans (hb1.mono (by simp)))
  clear hb1
  rw [← HZ.out] at hcase
  rcases hcase with ⟨hne, rfl⟩ | ⟨h0, k, b5, b6, b12, b8, vb, vt', hbk, hA, rfl⟩
  · exact absurd (HZ.out.symm) (fun h => hz9 (fun h1 => hne (h.symm.trans h1)))
  · subst h0
    obtain ⟨h1, h2, h3, h4, h5⟩ := askedE_zero HZ.out.symm
    have hk : k < bs.length := by omega
    obtain ⟨ow, how⟩ : ∃ z, z = byV n bs k r tr tr := ⟨_, rfl⟩
    obtain ⟨gz, hgz⟩ : ∃ z, z = gainsZ n bs k r tr ts := ⟨_, rfl⟩
    have HAN := Lib.hid (show ans = .tuple #[.int .i64 (wrap64 ((bestZ ow gz).1 - ow)), .int .i64 (bestZ ow gz).2, .int .i64 0] from by rw [HANS.out]; unfold regretV; rw [← HZ.out, if_pos rfl, hbk, Int.toNat_natCast, how, hgz])
    have HA := Lib.hid hA
    have HI := Lib.hid h1
    have HR := Lib.hid h4
    have HOW := Lib.hid how
    have HGZ := Lib.hid hgz
    have HCT := Lib.hid (h5 tr (by simp))
    have HCK := Lib.hid (fun l hl => h5 l (List.mem_cons_of_mem _ hl) : ∀ l ∈ ts, checkE n l = 0)
    subst hbk
    clear h1 h2 h3 h4 h5 hA hbd how hgz
    have hx0 : w1.cell? ⟨w.heap.size, 0, none⟩ = some (.int .i64 n) := HX1.out.cell 0
    go_wp2_with fail
    refine (asked1_any _ b5 b6 b12 b8 n bs k r tr tr vb vt' _ Rt w1 HA.out HR.out HI.out hk (HT.out.grow HB1.out) HCT.out).mono ?_
    rintro e w2 ⟨rfl, hb2⟩
    rw [← HOW.out]
    have hal : Below w1.heap.size w1 ((w2.alloc (.cells #[.int .i64 ow] 2)).alloc (.cells #[.int .i64 (-1)] 3)) := (hb2.alloc hb2.size _).alloc (by have := hb2.size; simp; omega) _
    have hx0 : ((w2.alloc (.cells #[.int .i64 ow] 2)).alloc (.cells #[.int .i64 (-1)] 3)).cell? ⟨w.heap.size, 0, none⟩ = some (.int .i64 n) := (HX1.out.grow hal).cell 0
    have hx1 : ((w2.alloc (.cells #[.int .i64 ow] 2)).alloc (.cells #[.int .i64 (-1)] 3)).cell? ⟨w.heap.size, 1, none⟩ = some (.slice A bs.length cap) := (HX1.out.grow hal).cell 1
    have hq : Blk ((w2.alloc (.cells #[.int .i64 ow] 2)).alloc (.cells #[.int .i64 (-1)] 3)) w2.heap.size 2 #[.int .i64 ow] := (Blk.new' _ _ rfl).alloc _
    have hq2 : Blk ((w2.alloc (.cells #[.int .i64 ow] 2)).alloc (.cells #[.int .i64 (-1)] 3)) (w2.heap.size + 1) 3 #[.int .i64 (-1)] := Blk.new' _ _ (by simp)
    have hs3 : ((w2.alloc (.cells #[.int .i64 ow] 2)).alloc (.cells #[.int .i64 (-1)] 3)).heap.size = w2.heap.size + 2 := by simp
    have HAL := Lib.hid hal
    have HQ := Lib.hid hq
    have HQ2 := Lib.hid hq2
    have HS3 := Lib.hid hs3
    have hw2 := (HB1.out.trans (hb2.mono HB1.out.size)).size
    clear hb2 hal hq hq2 hs3
    go_wp2_with fail
    obtain ⟨W3, hW3⟩ : ∃ V, V = (w2.alloc (.cells #[.int .i64 ow] 2)).alloc (.cells #[.int .i64 (-1)] 3) := ⟨_, rfl⟩
    rw [← hW3] at hx0 hx1 ⊢
    have HQ := Lib.hid (show Blk W3 w2.heap.size 2 #[.int .i64 ow] from by rw [hW3]; exact HQ.out)
    have HQ2 := Lib.hid (show Blk W3 (w2.heap.size + 1) 3 #[.int .i64 (-1)] from by rw [hW3]; exact HQ2.out)
    have HB3 := Lib.hid (show Below w.heap.size w W3 from by rw [hW3]; exact HB1.out.trans (HAL.out.mono HB1.out.size))
    have hs3 : W3.heap.size = w2.heap.size + 2 := by rw [hW3]; exact HS3.out
    clear hW3 HAL HS3 hx0 hx1
    refine (tries_any n bs (k : Int) r tr ts _ _ _ R Rt Rs W3 (HB.out.grow HB3.out) (HT.out.grow HB3.out) (HS.out.grow HB3.out) hts hb hr).mono ?_
    rintro e w4 ⟨hb4, ⟨hne, rfl⟩ | ⟨_, k', g14, g12, hkk, hTr, rfl⟩⟩
    · exact absurd HZ.out.symm hne
    · obtain rfl : k = k' := by omega
      have HTr := Lib.hid (hTr.mono (R1 := fun b => W3.heap.size ≤ b ∧ b < w4.heap.size) (fun b hb h => ⟨h, hb⟩))
      have HQ4 := Lib.hid (HQ.out.grow hb4)
      have HQ5 := Lib.hid (HQ2.out.grow hb4)
      have HB4 := Lib.hid (HB3.out.trans (hb4.mono HB3.out.size))
      have hs4 := hb4.size
      unfold itV
      clear hkk hTr hb4
      go_wp2_with fail
      refine (wpIn_wide (n := 3)).1 ?_
      refine' wpIn_rangeFunc_V (F := Fence.wide) (n := 3) rfl (by omega) (gf := 145) (lb := #[.pointer (some ⟨g14, 0, none⟩), .pointer (some ⟨g12, 0, none⟩)]) rfl trivial (enters_of Try.func145 (by kernel_rfl) rfl)
        (tries1_stops 2 (by omega) W3.heap.size w4.heap.size g14 g12 n bs k r tr ts hts HR.out HI.out hk HCK.out w4 (Nat.le_refl _) HTr.out) keepR_t (keepR_b (Nat.le_refl _)) (Below.refl _ _) (fun _ => rfl) (fun _ _ _ _ _ _ _ => trivial)
        (fun pre W => RegI w2.heap.size (w2.heap.size + 1) ow pre W ∧ Below w.heap.size w W)
        (fun _ _ _ => False)
        (OwnFrom.and (Own.from (RegI.own _ _ _) _) (ownFrom_below (Nat.le_refl _) (by omega)))
        (fun c => fun _ _ _ _ h _ _ => h)
        ⟨⟨HQ4.out, HQ5.out⟩, HB4.out⟩ _ ?assign ?body ?done ?stop
      case assign =>
        intro l x W K hK
        gi_wp2
        exact hK
      case body =>
        rintro l pre x W ⟨hI, hB⟩ _ hsp hlt2
        obtain ⟨xa, xb⟩ := x
        obtain ⟨zb, hzb⟩ : ∃ z, z = bestZ ow pre := ⟨_, rfl⟩
        have hsn := bestZ_snoc ow pre (xa, xb)
        rw [← hzb] at hsn
        have hIb := hI.b
        have hIa := hI.a
        rw [← hzb] at hIb hIa
        obtain ⟨z1, z2⟩ := zb
        have p0 : W.cell? ⟨w2.heap.size, 0, none⟩ = some (.int .i64 z1) := hIb.cell 0
        have p1 : W.frozen? ⟨w2.heap.size, 0, none⟩ = false := hIb.frozen 0
        have p2 : W.cell? ⟨w2.heap.size + 1, 0, none⟩ = some (.int .i64 z2) := hIa.cell 0
        have p3 : W.frozen? ⟨w2.heap.size + 1, 0, none⟩ = false := hIa.frozen 0
        have HIB := Lib.hid hIb
        have HIA := Lib.hid hIa
        have HSN := Lib.hid hsn
        have HBB := Lib.hid hB
        clear hI hB hsp hlt2 hIb hIa hsn hzb
        dsimp only
        by_cases hgt : z1 < xb
        · gi_wp2
          have hnew : bestZ ow (pre ++ [(xa, xb)]) = (xb, xa) := by rw [HSN.out, if_pos hgt]
          refine ⟨(KeepsOthers.setCell _ _ _).trans (KeepsOthers.setCell _ _ _), (KeepR.set W (.inl (by simp <;> omega)) _).trans (KeepR.set _ (.inl (by simp <;> omega)) _), ⟨?_, ?_⟩, (HBB.out.setCell (p := ⟨w2.heap.size, 0, none⟩) (by simp; omega) _).setCell (p := ⟨w2.heap.size + 1, 0, none⟩) (by simp; omega) _⟩
          · rw [hnew]
            exact (HIB.out.set_ 0 (.int .i64 xb)).far (by simp) _
          · rw [hnew]
            exact (HIA.out.far (by simp) _).set_ 0 (.int .i64 xa)
        · have hnew : bestZ ow (pre ++ [(xa, xb)]) = (z1, z2) := by rw [HSN.out, if_neg hgt]
          have HNW := Lib.hid hnew
          clear hnew
          gi_wp2
          refine ⟨KeepsOthers.refl _, KeepR.refl _ _ _, ⟨?_, ?_⟩, HBB.out⟩
          · rw [HNW.out]; exact HIB.out
          · rw [HNW.out]; exact HIA.out
      case done =>
        rintro D ys W hD hys ⟨hI, hB⟩ hK
        rw [← HGZ.out] at hys
        subst hys
        have p0 : W.cell? ⟨w2.heap.size, 0, none⟩ = some (.int .i64 (bestZ ow ys).1) := hI.b.cell 0
        have p2 : W.cell? ⟨w2.heap.size + 1, 0, none⟩ = some (.int .i64 (bestZ ow ys).2) := hI.a.cell 0
        have HBB := Lib.hid hB
        have HK := Lib.hid hK
        clear hI hB hK
        go_wp2_with fail
        refine wp_quietP ?_
        go_quiet (fail)
        go_wp2_with fail
        refine ⟨by simp, .inl ⟨_, _, rfl, run_takeDeferred HK.out, ?_⟩⟩
        refine ⟨.tuple #[.int .i64 (wrap64 ((bestZ ow ys).1 - ow)), .int .i64 (bestZ ow ys).2, .int .i64 0], by simp [results, Try.results73, go_sem], by rw [HAN.out], (below_drewN HBB.out nq).trans (belowK_b (w := w) (Nat.le_refl _) (W.drewN nq) D _ _ (by omega) HK.out rfl rfl)⟩
      case stop =>
        rintro D c pre W hD hpre2 hf hK
        exact hf.elim
end Go.Proofs.Ytcigobiolbojhaa.Vb

/- Plain law: by Costs nobody gains by other offers than the true ones; what is gained by Core. -/
namespace Go.Proofs.Ytcigobiolbojhaa.Vb

theorem andNot_comm2 {f a b : Nat} (ha : a < 4294967296) (hb : b < 4294967296) : andNot (andNot f a) b = andNot (andNot f b) a := by
  apply Nat.eq_of_testBit_eq
  intro i
  rw [andNot_bit hb, andNot_bit ha, andNot_bit ha, andNot_bit hb]
  cases f.testBit i <;> cases decide (i < 32) <;> cases a.testBit i <;> cases b.testBit i <;> rfl
/-- two parts of f that do not meet -/
theorem sub_apart {f a b : Nat} (ha : a < 4294967296) (hb : b < 4294967296) (h1 : SubG b f) (h2 : SubG a (andNot f b)) : SubG b (andNot f a) := fun i hi => by
  have h3 := h1 i hi
  rw [andNot_bit ha, h3]
  have h4 := bit_lt hb hi
  cases h5 : a.testBit i with
  | false => simp [h4]
  | true =>
    have h6 := h2 i h5
    rw [andNot_bit hb, hi] at h6
    simp at h6
theorem W_win2 : ∀ (bs : List (List Off)) (k f j : Nat) (l : List Off) (o : Off), GoodL bs → f < 4294967296 → (choose bs f)[k]? = some (j : Int) → bs[k]? = some l → l[j]? = some o → SubG o.g f ∧ W bs f ≤ W (bs.set k []) (andNot f o.g) + o.c
  | [], k, f, j, l, o, _, _, h, _, _ => by simp [choose] at h
  | l0 :: bs, 0, f, j, l, o, hg, hf, h, hl, ho => by
    simp only [List.getElem?_cons_zero, Option.some.injEq] at hl
    subst hl
    simp only [choose, List.getElem?_cons_zero, Option.some.injEq] at h
    unfold pickN at h
    cases hp : pickAt (W bs) f (W (l0 :: bs) f) l0 with
    | none => rw [hp] at h; simp only at h; omega
    | some p =>
      rw [hp] at h
      simp only at h
      obtain ⟨o', h1, h2, h3, h4, _⟩ := pickAt_get' (j := p.1) (x := p.2) hp
      have hj : p.1 = j := by omega
      rw [hj, ho] at h1
      have h1' := Option.some.inj h1
      subst h1'
      have hog := hg l0 (by simp) o (List.mem_of_getElem? ho)
      refine ⟨(andNot_zero_iff hog hf).1 h3, ?_⟩
      simp only [List.set_cons_zero]
      show W (l0 :: bs) f ≤ W bs (andNot f o.g) + o.c
      omega
  | l0 :: bs, k + 1, f, j, l, o, hg, hf, h, hl, ho => by
    have hg' : GoodL bs := fun x hx => hg x (by simp [hx])
    simp only [choose, List.getElem?_cons_succ] at h hl
    simp only [List.set_cons_succ]
    have hog : o.g < 4294967296 := hg' l (List.mem_of_getElem? hl) o (List.mem_of_getElem? ho)
    unfold pickN at h
    cases hp : pickAt (W bs) f (W (l0 :: bs) f) l0 with
    | none =>
      rw [hp] at h
      obtain ⟨h1, ih⟩ := W_win2 bs k f j l o hg' hf h hl ho
      rw [pick_none_W hp]
      have := fold_ge (W (bs.set k [])) (andNot f o.g) l0 (W (bs.set k []) (andNot f o.g))
      refine ⟨h1, ?_⟩
      show W bs f ≤ W (l0 :: bs.set k []) (andNot f o.g) + o.c
      simp only [W]
      omega
    | some p =>
      obtain ⟨j0, x⟩ := p
      rw [hp] at h
      obtain ⟨o0, ho0, rfl, hf0, he0⟩ := pickAt_att hp
      have ho0g : o0.g < 4294967296 := hg l0 (by simp) o0 ho0
      obtain ⟨h1, ih⟩ := W_win2 bs k (andNot f o0.g) j l o hg' (andNot_lt hf) h hl ho
      have hs0 := (andNot_zero_iff ho0g hf).1 hf0
      have hap := sub_apart hog ho0g hs0 h1
      have := fold_mem (g := W (bs.set k [])) (f := andNot f o.g) l0 (W (bs.set k []) (andNot f o.g)) o0 ho0 ((andNot_zero_iff ho0g (andNot_lt hf)).2 hap)
      rw [andNot_comm2 hog ho0g] at this
      refine ⟨h1.trans (andNot_sub ho0g), ?_⟩
      show W (l0 :: bs) f ≤ W (l0 :: bs.set k []) (andNot f o.g) + o.c
      simp only [W] at he0 ⊢
      omega
theorem W_put : ∀ (bs : List (List Off)) (k f : Nat) (tr : List Off) (o : Off), GoodL bs → f < 4294967296 → o ∈ tr → o.g < 4294967296 → SubG o.g f → k < bs.length → o.c + W (bs.set k []) (andNot f o.g) ≤ W (bs.set k tr) f
  | [], k, f, tr, o, _, _, _, _, _, hk => by simp at hk
  | l0 :: bs, 0, f, tr, o, _, hf, ho, hog, hs, _ => by
    simp only [List.set_cons_zero]
    have := fold_mem (g := W bs) (f := f) tr (W bs f) o ho ((andNot_zero_iff hog hf).2 hs)
    show o.c + W bs (andNot f o.g) ≤ W (tr :: bs) f
    simp only [W]
    exact this
  | l0 :: bs, k + 1, f, tr, o, hg, hf, ho, hog, hs, hk => by
    have hg' : GoodL bs := fun x hx => hg x (by simp [hx])
    have hk' : k < bs.length := by simpa using hk
    simp only [List.set_cons_succ]
    show o.c + W (l0 :: bs.set k []) (andNot f o.g) ≤ W (l0 :: bs.set k tr) f
    simp only [W]
    rcases fold_att (g := W (bs.set k [])) (f := andNot f o.g) l0 (W (bs.set k []) (andNot f o.g)) with h | ⟨o0, ho0, hf0, he⟩
    · rw [h]
      exact Int.le_trans (W_put bs k f tr o hg' hf ho hog hs hk') (fold_ge _ _ _ _)
    · rw [← he]
      have ho0g : o0.g < 4294967296 := hg l0 (by simp) o0 ho0
      have hs0 := (andNot_zero_iff ho0g (andNot_lt hf)).1 hf0
      have hap := sub_apart ho0g hog hs hs0
      have ih := W_put bs k (andNot f o0.g) tr o hg' (andNot_lt hf) ho hog hap hk'
      have hm := fold_mem (g := W (bs.set k tr)) (f := f) l0 (W (bs.set k tr) f) o0 ho0 ((andNot_zero_iff ho0g hf).2 (hs0.trans (andNot_sub hog)))
      rw [andNot_comm2 hog ho0g]
      omega

/-- what goods are worth, by some offers: one offer's coins that they hold, or nothing -/
theorem worthK_at (g : Nat) (l : List Off) : ∀ k, k ≤ l.length → ((worthK g l k).1 = 0 ∨ ∃ o ∈ l, andNot o.g g = 0 ∧ o.c = (worthK g l k).1) ∧ 0 ≤ (worthK g l k).1 ∧ ∀ (j : Nat) (o : Off), j < k → l[j]? = some o → andNot o.g g = 0 → o.c ≤ (worthK g l k).1
  | 0, _ => ⟨.inl rfl, by simp [worthK], fun j o h => absurd h (by omega)⟩
  | k + 1, hk => by
    obtain ⟨h1, h2, h3⟩ := worthK_at g l k (by omega)
    obtain ⟨x, hx⟩ : ∃ x, l[k]? = some x := ⟨_, List.getElem?_eq_getElem (by omega)⟩
    rw [worthK_succ hx]
    unfold wstep
    split
    · rename_i h
      simp at h
      refine ⟨.inr ⟨x, List.mem_of_getElem? hx, h.2, rfl⟩, by simp only; omega, fun j o hj ho hg => ?_⟩
      rcases Nat.lt_or_ge j k with hjk | hjk
      · have := h3 j o hjk ho hg
        simp only
        omega
      · obtain rfl : j = k := by omega
        rw [hx] at ho
        injection ho with ho
        subst ho
        exact Int.le_refl _
    · rename_i h
      refine ⟨h1, h2, fun j o hj ho hg => ?_⟩
      rcases Nat.lt_or_ge j k with hjk | hjk
      · exact h3 j o hjk ho hg
      · obtain rfl : j = k := by omega
        rw [hx] at ho
        injection ho with ho
        subst ho
        simp [hg] at h
        omega
theorem worthV_at (l : List Off) (g : Nat) : (worthV l g = 0 ∨ ∃ o ∈ l, andNot o.g g = 0 ∧ o.c = worthV l g) ∧ 0 ≤ worthV l g ∧ ∀ o ∈ l, andNot o.g g = 0 → o.c ≤ worthV l g := by
  obtain ⟨h1, h2, h3⟩ := worthK_at g l l.length (Nat.le_refl _)
  refine ⟨h1, h2, fun o ho hg => ?_⟩
  obtain ⟨j, hj⟩ := List.mem_iff_getElem?.1 ho
  exact h3 j o (List.getElem?_eq_some_iff.1 hj).1 hj hg
end Go.Proofs.Ytcigobiolbojhaa.Vb

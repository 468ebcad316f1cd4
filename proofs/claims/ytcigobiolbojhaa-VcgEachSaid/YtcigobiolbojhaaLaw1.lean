/- Law 17's own: num, great, Income. -/
import Derived.Test.YtcigobiolbojhaaRef17f
namespace Go.Proofs.Ytcigobiolbojhaa.Vb
open Go.RowKit

set_option maxHeartbeats 400000 in
theorem num_any (x : Int) (h0 : -9223372036854775808 ≤ x) (h1 : x ≤ 9223372036854775807) (w : World) :
    Calls Try.prog 18 #[.int .i64 x] w fun e w' => e = .returned (.int .i64 x) ∧ w = w' := by
  go_enter Try.func18, Try.ntmps18
  go_wp2
  go_ret
  exact ⟨rfl, rfl⟩

def greatB (bs : List (List Off)) : Bool := bs.any (fun l => decide (40 < l.length)) || decide (40 < bs.length)
theorem greatB_of {bs : List (List Off)} {k : Nat} {l : List Off} (h : bs[k]? = some l) (hl : 40 < l.length) : greatB bs = true := by
  unfold greatB
  rw [List.any_eq_true.2 ⟨l, List.mem_of_getElem? h, by simpa using hl⟩]
  rfl
theorem greatB_none {bs : List (List Off)} (h : ∀ j l, j < bs.length → bs[j]? = some l → ¬ 40 < l.length) : greatB bs = decide (40 < bs.length) := by
  unfold greatB
  have : bs.any (fun l => decide (40 < l.length)) = false := by
    rw [List.any_eq_false]
    intro l hl
    obtain ⟨j, hj, rfl⟩ := List.getElem_of_mem hl
    simpa using h j _ hj (List.getElem?_eq_getElem hj)
  rw [this]
  rfl

set_option maxHeartbeats 800000 in
theorem great_any (n : Int) (bs : List (List Off)) (v : Value) (R : Nat → Prop) (w : World) (hl : Buys w R v bs) :
    Calls Try.prog 13 #[.agg #[.int .i64 n, v]] w fun e w' => e = .returned (.bool (greatB bs)) ∧ Below w.heap.size w w' := by
  obtain ⟨vs, ⟨hlen, A, cap, rfl, hncap, hcap, hcells⟩, hvs⟩ := id hl
  unfold maxLen at hcap
  have hnl : bs.length ≤ 9223372036854775807 := by omega
  have HC := Lib.hid hcells
  have HV := Lib.hid hvs
  clear hl hcells hvs hlen
  go_enter Try.func13, Try.ntmps13
  go_wp2
  go_loop [3] (fun i => ∃ k : Nat, k ≤ bs.length ∧ i = .int .i64 k ∧ ∀ j l, j < k → bs[j]? = some l → ¬ 40 < l.length) (fun i => bs.length - (intOf i).toNat)
  case atStart => exact ⟨0, Nat.zero_le _, rfl, fun j x hj => by omega⟩
  case round =>
    obtain ⟨k, hk, rfl, hno⟩ := hrel
    have HN := Lib.hid hno
    clear hno
    by_cases hlt : k < bs.length
    · obtain ⟨bb, off, rfl, _, hbb, hcs⟩ := HC.out (by omega)
      obtain ⟨l, ho⟩ : ∃ l, bs[k]? = some l := ⟨_, List.getElem?_eq_getElem hlt⟩
      obtain ⟨u, hu, hol⟩ := HV.out k l ho
      have c0 := cellAlloc (hcs _ _ hu)
      obtain ⟨⟨_, A', cap', rfl, _⟩, _⟩ := hol
      clear hcs hu
      have HO := Lib.hid ho
      clear ho
      by_cases h8 : 40 < l.length
      · have h8' := Lib.hid h8
        go_wp2
        go_ret
        rw [greatB_of HO.out h8'.out]
        exact ⟨rfl, (Below.refl _ _).alloc (Nat.le_refl _) _⟩
      · have h8' := Lib.hid h8
        go_wp2
        go_round
        case rel =>
          refine ⟨k + 1, by omega, by go_num, fun j x hj hx => ?_⟩
          by_cases hjk : j < k
          · exact HN.out j x hjk hx
          · obtain rfl : j = k := by omega
            rw [HO.out] at hx
            cases hx
            exact h8'.out
        case measure => simp [intOf]; omega
    · obtain rfl : k = bs.length := by omega
      have hg := greatB_none HN.out
      have HG := Lib.hid hg
      clear hg
      go_wp2
      go_ret
      refine ⟨ret_bool ?_, (Below.refl _ _).alloc (Nat.le_refl _) _⟩
      rw [HG.out, Bool.eq_iff_iff]
      simp
      omega

def sumI : List Int → Int
  | [] => 0
  | x :: l => x + sumI l
theorem sumI_app : ∀ (a b : List Int), sumI (a ++ b) = sumI a + sumI b
  | [], b => by simp [sumI]
  | x :: a, b => by simp only [List.cons_append, sumI, sumI_app a b]; omega
theorem sumI_take {ps : List Int} {k : Nat} {c : Int} (h : ps[k]? = some c) : sumI (ps.take (k + 1)) = sumI (ps.take k) + c := by
  rw [List.take_add_one, h, sumI_app]
  simp [sumI]
theorem sumI_bd {M : Int} : ∀ (l : List Int), (∀ x ∈ l, -M ≤ x ∧ x ≤ M) → -(l.length * M) ≤ sumI l ∧ sumI l ≤ l.length * M
  | [], _ => by simp [sumI]
  | x :: l, h => by
    have h1 := h x (by simp)
    have h2 := sumI_bd l (fun y hy => h y (by simp [hy]))
    simp only [sumI, List.length_cons]
    have : ((l.length + 1 : Nat) : Int) * M = l.length * M + M := by rw [Int.natCast_add, Int.add_mul]; simp
    rw [this]
    omega

set_option maxHeartbeats 800000 in
theorem income_any (W0 : Int) (ps : List Int) (cv pv : Value) (R : Nat → Prop) (w : World) (h : Sl w R pv ps.length 1 (ints ps)) (hb : ∀ x ∈ ps, -9007199254740992 ≤ x ∧ x ≤ 9007199254740992) (hn : ps.length ≤ 40) :
    Calls Try.prog 23 #[.agg #[cv, .int .i64 W0, pv]] w fun e w' => e = .returned (.int .i64 (sumI ps)) ∧ Below w.heap.size w w' := by
  obtain ⟨_, A, cap, rfl, hnc, hcm, hcs⟩ := h
  unfold maxLen at hcm
  have HC := Lib.hid hcs
  have HB := Lib.hid hb
  clear hcs hb
  go_enter Try.func23, Try.ntmps23
  go_wp2
  go_loop [3, 9] (fun s i => ∃ k : Nat, k ≤ ps.length ∧ i = .int .i64 k ∧ s = .int .i64 (sumI (ps.take k))) (fun _ i => ps.length - (intOf i).toNat)
  case atStart => exact ⟨0, Nat.zero_le _, rfl, rfl⟩
  case round =>
    obtain ⟨k, hk, rfl, rfl⟩ := hrel
    by_cases hlt : k < ps.length
    · obtain ⟨bb, off, rfl, _, hbb, hcs⟩ := HC.out (by omega)
      obtain ⟨c, hc⟩ : ∃ c, ps[k]? = some c := ⟨_, List.getElem?_eq_getElem hlt⟩
      have c0 := cellAlloc (hcs _ _ (ints_get hc))
      have hst := sumI_take hc
      have h1 := sumI_bd (ps.take k) (fun x hx => HB.out x (List.mem_of_mem_take hx))
      have h2 := HB.out c (List.mem_of_getElem? hc)
      have hkl : ((ps.take k).length : Int) = k := by simp; omega
      rw [hkl] at h1
      have hsum : IntKind.i64.wrap (sumI (ps.take k) + c) = sumI (ps.take k) + c := IntWalk.i64_in _ (by omega)
      have HST := Lib.hid hst
      clear hst h1 h2 hc hcs
      go_wp2
      go_round
      case rel => exact ⟨k + 1, by omega, by go_num, by rw [HST.out]⟩
      case measure => simp [intOf]; omega
    · obtain rfl : k = ps.length := by omega
      rw [List.take_length]
      go_wp2
      go_ret
      exact ⟨rfl, (Below.refl _ _).alloc (Nat.le_refl _) _⟩
end Go.Proofs.Ytcigobiolbojhaa.Vb

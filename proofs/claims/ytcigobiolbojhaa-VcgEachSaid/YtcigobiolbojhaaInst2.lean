/- offers.Instance, whole. -/
import Derived.Test.YtcigobiolbojhaaInst
namespace Go.Proofs.Ytcigobiolbojhaa.Vb
open Go.RowKit

set_option maxHeartbeats 800000 in
theorem instance_any (n : Int) (bs : List (List Off)) (v : Value) (R : Nat → Prop) (w : World) (hl : Buys w R v bs) :
    Calls Try.prog 124 #[.agg #[.int .i64 n, v]] w fun e w' => e = .returned (.int .i64 (instE n bs)) ∧ Below w.heap.size w w' := by
  obtain ⟨vs, ⟨hlen, A, cap, rfl, hncap, hcap, hcells⟩, hvs⟩ := id hl
  unfold maxLen at hcap
  have hnl : bs.length ≤ 9223372036854775807 := by omega
  have HB := Lib.hid hl
  have HC := Lib.hid hcells
  have HV := Lib.hid hvs
  clear hl hcells hvs hlen
  by_cases hn : n < 1 ∨ 10 < n
  · have hE : instE n bs = 2 := by unfold instE; rw [if_pos hn]
    have HE := Lib.hid hE
    clear hE
    rcases hn with hn | hn
    all_goals
      go_enter Try.func124, Try.ntmps124
      go_wp2
      all_goals go_ret
      all_goals rw [HE.out]
      all_goals exact ⟨rfl, (Below.refl _ _).alloc (Nat.le_refl _) _⟩
  · by_cases h32 : 32 < bs.length
    · have hE : instE n bs = 3 := by unfold instE; rw [if_neg hn, if_pos (Or.inl h32)]
      have HE := Lib.hid hE
      clear hE
      have hn0 : 1 ≤ n := by omega
      have hn1 : n ≤ 10 := by omega
      clear hn
      go_enter Try.func124, Try.ntmps124
      go_wp2
      all_goals go_ret
      all_goals rw [HE.out]
      all_goals exact ⟨rfl, (Below.refl _ _).alloc (Nat.le_refl _) _⟩
    · have hn0 : 1 ≤ n := by omega
      have hn1 : n ≤ 10 := by omega
      cases hany : bs.any longB with
      | true =>
        have hE : instE n bs = 3 := by unfold instE; rw [if_neg hn, if_pos (Or.inr hany)]
        have HE := Lib.hid hE
        clear hE hn
        go_enter Try.func124, Try.ntmps124
        go_wp2_with (go_at_call 147; refine (contains_any bs _ R _ (HB.out.alloc _)).mono ?_; rintro e w1 ⟨rfl, rfl⟩)
        all_goals go_ret
        all_goals rw [HE.out]
        all_goals exact ⟨rfl, (Below.refl _ _).alloc (Nat.le_refl _) _⟩
      | false =>
        have hE : instE n bs = instLoop n bs := by unfold instE; rw [if_neg hn, if_neg (by rw [hany]; simp; omega)]
        have HE := Lib.hid hE
        clear hE hn
        go_enter Try.func124, Try.ntmps124
        go_wp2_with (go_at_call 147; refine (contains_any bs _ R _ (HB.out.alloc _)).mono ?_; rintro e w1 ⟨rfl, rfl⟩)
        go_loopw [31] (fun i wr => ∃ k : Nat, k ≤ bs.length ∧ i = .int .i64 k ∧ Below (w.heap.size + 1) (w.alloc (.cells #[.int .i64 n, .slice A bs.length cap] 24)) wr ∧ ∀ j x, j < k → bs[j]? = some x → checkE n x = 0) (fun i _ => bs.length - (intOf i).toNat)
        case atStart => exact ⟨0, Nat.zero_le _, rfl, Below.refl _ _, fun j x hj => by omega⟩
        case round =>
          obtain ⟨k, hk, rfl, hb, hno⟩ := hrel
          have HN := Lib.hid hno
          clear hno
          have hb' : Below w.heap.size w wr := ((Below.refl _ _).alloc (Nat.le_refl _) _).trans (hb.mono (by omega))
          have cb0 : wr.cell? ⟨w.heap.size, 0, none⟩ = some (.int .i64 n) := (hb.cell (p := ⟨w.heap.size, 0, none⟩) (by simp)).trans (by simp)
          have cb1 : wr.cell? ⟨w.heap.size, 1, none⟩ = some (.slice A bs.length cap) := (hb.cell (p := ⟨w.heap.size, 1, none⟩) (by simp)).trans (by simp)
          by_cases hlt : k < bs.length
          · obtain ⟨bb, off, rfl, _, hbb, hcs⟩ := HC.out (by omega)
            obtain ⟨l, ho⟩ : ∃ l, bs[k]? = some l := ⟨_, List.getElem?_eq_getElem hlt⟩
            obtain ⟨u, hu, hol⟩ := HV.out k l ho
            have c0 := (hb'.cell hbb).trans (hcs _ _ hu)
            have HOL := Lib.hid (hol.grow hb')
            obtain ⟨⟨_, A', cap', rfl, _⟩, _⟩ := hol
            clear hcs hu
            have HO := Lib.hid ho
            clear ho
            have HBB := Lib.hid hb
            have HBB' := Lib.hid hb'
            clear hb hb'
            by_cases hce : checkE n l = 0
            · have HCE := Lib.hid hce
              clear hce
              go_wp2_with (go_at_call 125; refine (check_any n l _ R _ HOL.out).mono ?_; rintro e w1 ⟨rfl, hb1⟩; rw [HCE.out])
              go_roundw
              case rel =>
                refine ⟨k + 1, by omega, by go_num, HBB.out.trans (hb1.mono (by have := HBB.out.size; simp at this; omega)), fun j x hj hx => ?_⟩
                by_cases hjk : j < k
                · exact HN.out j x hjk hx
                · obtain rfl : j = k := by omega
                  rw [HO.out] at hx
                  cases hx
                  exact HCE.out
              case measure => simp [intOf]; omega
            · have hcb : (checkE n l != 0) = true := by simpa using hce
              have HCE := Lib.hid hce
              clear hce
              go_wp2_with (go_at_call 125; refine (check_any n l _ R _ HOL.out).mono ?_; rintro e w1 ⟨rfl, hb1⟩)
              go_ret
              refine ⟨ret_int ?_, HBB'.out.trans (hb1.mono HBB'.out.size)⟩
              rw [HE.out, instLoop_some n bs k l HO.out HCE.out HN.out]
          · have HBB' := Lib.hid hb'
            clear hb hb'
            go_wp2
            go_ret
            refine ⟨ret_int ?_, HBB'.out⟩
            rw [HE.out, instLoop_none n bs (fun o ho => ?_)]
            obtain ⟨j, hj, rfl⟩ := List.getElem_of_mem ho
            exact HN.out j _ (by omega) (List.getElem?_eq_getElem hj)
end Go.Proofs.Ytcigobiolbojhaa.Vb

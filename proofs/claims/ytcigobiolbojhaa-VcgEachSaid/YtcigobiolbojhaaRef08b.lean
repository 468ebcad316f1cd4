/- The reference of layer 8: Check, Instance. -/
import Derived.Test.YtcigobiolbojhaaRef08a
namespace Go.Proofs.Ytcigobiolbojhaa.Vb
open Go.RowKit

set_option maxHeartbeats 800000 in
theorem refCheck_any (n : Int) (l : List Off) (v : Value) (R : Nat → Prop) (w : World) (hl : Offs w R v l) :
    Calls Try.prog 86 #[.int .i64 n, v] w fun e w' => e = .returned (.tuple #[.int .i64 (checkI n l), .int .i64 (checkE n l)]) ∧ Below w.heap.size w w' := by
  obtain ⟨⟨hlen, A, cap, rfl, hncap, hcap, hcells⟩, hwf⟩ := hl
  unfold maxLen at hcap
  have HL := Lib.hid hlen
  have HC := Lib.hid hcells
  clear hlen hcells
  by_cases hn : n < 1 ∨ 10 < n
  · have hI : checkI n l = 0 := by unfold checkI; rw [if_pos hn]
    have hE : checkE n l = 2 := by unfold checkE; rw [if_pos hn]
    have HI := Lib.hid hI
    have HE := Lib.hid hE
    clear hI hE hwf
    rcases hn with hn | hn
    all_goals
      go_enter Try.func86, Try.ntmps86
      go_wp2
      all_goals go_ret2
      all_goals rw [HI.out, HE.out]
      all_goals exact ⟨rfl, Below.refl _ _⟩
  · by_cases h8 : 8 < l.length
    · have hI : checkI n l = 0 := by unfold checkI; rw [if_neg hn, if_pos h8]
      have hE : checkE n l = 3 := by unfold checkE; rw [if_neg hn, if_pos h8]
      have HI := Lib.hid hI
      have HE := Lib.hid hE
      have hn0 : 1 ≤ n := by omega
      have hn1 : n ≤ 10 := by omega
      clear hI hE hn hwf
      go_enter Try.func86, Try.ntmps86
      go_wp2
      go_ret2
      rw [HI.out, HE.out]
      exact ⟨rfl, Below.refl _ _⟩
    · have hI : checkI n l = match badAt (2 ^ n.toNat - 1) l with | some k => (k : Int) | none => 0 := by unfold checkI; rw [if_neg hn, if_neg h8]; rfl
      have hE : checkE n l = match badAt (2 ^ n.toNat - 1) l with | some _ => 180 | none => 0 := by unfold checkE; rw [if_neg hn, if_neg h8]; rfl
      obtain ⟨m, rfl⟩ : ∃ m : Nat, n = m := ⟨n.toNat, by omega⟩
      have hm0 : 1 ≤ m := by omega
      have hm1 : m ≤ 10 := by omega
      simp only [Int.toNat_natCast] at hI hE
      have HI := Lib.hid hI
      have HE := Lib.hid hE
      have HW := Lib.hid hwf
      clear hI hE hn hwf
      go_enter Try.func86, Try.ntmps86
      go_wp2
      go_loopw [6] (fun i wr => ∃ k : Nat, k ≤ l.length ∧ i = .int .i64 k ∧ Below w.heap.size w wr ∧ ∀ j x, j < k → l[j]? = some x → badB (2 ^ m - 1) x = false) (fun i _ => l.length - (intOf i).toNat)
      case atStart => exact ⟨0, Nat.zero_le _, rfl, Below.refl _ _, fun j x hj => by omega⟩
      case round =>
        obtain ⟨k, hk, rfl, hb, hno⟩ := hrel
        have HN := Lib.hid hno
        clear hno
        by_cases hlt : k < l.length
        · obtain ⟨bb, off, rfl, _, hbb, hcs⟩ := HC.out (by omega)
          obtain ⟨o, ho⟩ : ∃ o, l[k]? = some o := ⟨_, List.getElem?_eq_getElem hlt⟩
          have c0 : wr.cell? ⟨bb, off + k * 2, none⟩ = some (.int .u32 o.g) := (hb.cell hbb).trans (hcs _ _ (Off.all_fst l k o ho))
          have c1 : wr.cell? ⟨bb, off + k * 2 + 1, none⟩ = some (.int .i64 o.c) := (hb.cell hbb).trans (hcs _ _ (Off.all_snd l k o ho))
          have hwo := HW.out o (List.mem_of_getElem? ho)
          clear hcs
          have HO := Lib.hid ho
          have HWO := Lib.hid hwo
          clear ho hwo
          by_cases hbad : badB (2 ^ m - 1) o = true
          · have hnb : (!badB (2 ^ m - 1) o) = false := by rw [hbad]; rfl
            have HB := Lib.hid hbad
            have HNB := Lib.hid hnb
            clear hbad hnb
            go_wp2_with (go_at_call 119; refine (refMay_any m hm0 hm1 o HWO.out _).mono ?_; rintro e w1 ⟨rfl, hb1⟩; rw [HNB.out])
            go_ret2
            rw [HI.out, HE.out, badAt_some _ l k o HO.out HB.out HN.out]
            exact ⟨rfl, hb.trans (hb1.mono hb.size)⟩
          · have hbad : badB (2 ^ m - 1) o = false := by simpa using hbad
            have hnb : (!badB (2 ^ m - 1) o) = true := by rw [hbad]; rfl
            have HB := Lib.hid hbad
            have HNB := Lib.hid hnb
            clear hbad hnb
            go_wp2_with (go_at_call 119; refine (refMay_any m hm0 hm1 o HWO.out _).mono ?_; rintro e w1 ⟨rfl, hb1⟩; rw [HNB.out])
            go_roundw
            case rel =>
              refine ⟨k + 1, by omega, by go_num, hb.trans (hb1.mono hb.size), fun j x hj hx => ?_⟩
              by_cases hjk : j < k
              · exact HN.out j x hjk hx
              · obtain rfl : j = k := by omega
                rw [HO.out] at hx
                cases hx
                exact HB.out
            case measure => simp [intOf]; omega
        · go_wp2
          go_ret2
          rw [HI.out, HE.out, badAt_none _ l (fun o ho => ?_)]
          · exact ⟨rfl, hb⟩
          · obtain ⟨j, hj, rfl⟩ := List.getElem_of_mem ho
            exact HN.out j _ (by omega) (List.getElem?_eq_getElem hj)

theorem longAny_of : ∀ (bs : List (List Off)) (k : Nat) (l : List Off), bs[k]? = some l → longB l = true → bs.any longB = true :=
  fun _ _ l h hl => List.any_eq_true.2 ⟨l, List.mem_of_getElem? h, hl⟩

set_option maxHeartbeats 1600000 in
theorem refInstance_any (n : Int) (bs : List (List Off)) (v : Value) (R : Nat → Prop) (w : World) (hl : Buys w R v bs) :
    Calls Try.prog 30 #[.agg #[.int .i64 n, v]] w fun e w' => e = .returned (.int .i64 (instE n bs)) ∧ Below w.heap.size w w' := by
  obtain ⟨vs, ⟨hlen, A, cap, rfl, hncap, hcap, hcells⟩, hvs⟩ := id hl
  unfold maxLen at hcap
  have hnl : bs.length ≤ 9223372036854775807 := by omega
  have HC := Lib.hid hcells
  have HV := Lib.hid hvs
  clear hl hcells hvs hlen
  by_cases hn : n < 1 ∨ 10 < n
  · have hE : instE n bs = 2 := by unfold instE; rw [if_pos hn]
    have HE := Lib.hid hE
    clear hE
    rcases hn with hn | hn
    all_goals
      go_enter Try.func30, Try.ntmps30
      go_wp2
      all_goals go_ret
      all_goals rw [HE.out]
      all_goals exact ⟨rfl, (Below.refl _ _).alloc (Nat.le_refl _) _⟩
  · have hn0 : 1 ≤ n := by omega
    have hn1 : n ≤ 10 := by omega
    by_cases h32 : 32 < bs.length
    · have hE : instE n bs = 3 := by unfold instE; rw [if_neg hn, if_pos (Or.inl h32)]
      have HE := Lib.hid hE
      clear hE hn
      go_enter Try.func30, Try.ntmps30
      go_wp2
      all_goals go_ret
      all_goals rw [HE.out]
      all_goals exact ⟨rfl, (Below.refl _ _).alloc (Nat.le_refl _) _⟩
    · have hE : ∀ k l, bs[k]? = some l → longB l = true → instE n bs = 3 := fun k l h1 h2 => by unfold instE; rw [if_neg hn, if_pos (Or.inr (longAny_of bs k l h1 h2))]
      have hE2 : (∀ j x, j < bs.length → bs[j]? = some x → longB x = false) → instE n bs = instLoop n bs := fun h => by
        unfold instE
        rw [if_neg hn, if_neg]
        rintro (hh | hh)
        · exact h32 hh
        · obtain ⟨x, hx, hxx⟩ := List.any_eq_true.1 hh
          obtain ⟨j, hj, rfl⟩ := List.getElem_of_mem hx
          rw [h j _ hj (List.getElem?_eq_getElem hj)] at hxx
          cases hxx
      have HE := Lib.hid hE
      have HE2 := Lib.hid hE2
      clear hE hE2 hn
      go_enter Try.func30, Try.ntmps30
      go_wp2
      have ca : ∀ W : World, (W.alloc (.cells #[.int .i64 n, .slice A bs.length cap] 24)).cell? ⟨W.heap.size, 1, none⟩ = some (.slice A bs.length cap) := fun W => by simp
      go_loop [3] (fun i => ∃ k : Nat, k ≤ bs.length ∧ i = .int .i64 k ∧ ∀ j x, j < k → bs[j]? = some x → longB x = false) (fun i => bs.length - (intOf i).toNat)
      case atStart => exact ⟨0, Nat.zero_le _, rfl, fun j x hj => by omega⟩
      case round =>
        obtain ⟨k, hk, rfl, hno⟩ := hrel
        have HN := Lib.hid hno
        clear hno
        by_cases hlt : k < bs.length
        · obtain ⟨bb, off, rfl, _, hbb, hcs⟩ := HC.out (by omega)
          obtain ⟨l, ho⟩ : ∃ l, bs[k]? = some l := ⟨_, List.getElem?_eq_getElem hlt⟩
          obtain ⟨u, hu, hol⟩ := HV.out k l ho
          have c0 := cellAlloc (hcs _ _ hu)
          obtain ⟨⟨_, A', cap', rfl, _⟩, _⟩ := hol
          clear hcs hu
          have HO := Lib.hid ho
          clear ho
          by_cases h8 : 8 < l.length
          · have h8' := Lib.hid h8
            go_wp2
            go_ret
            rw [HE.out k l HO.out (by unfold longB; simpa using h8'.out)]
            exact ⟨rfl, (Below.refl _ _).alloc (Nat.le_refl _) _⟩
          · have h8' := Lib.hid h8
            go_wp2
            go_round
            case rel =>
              refine ⟨k + 1, by omega, by go_num, fun j x hj hx => ?_⟩
              by_cases hjk : j < k
              · exact HN.out j x hjk hx
              · obtain rfl : j = k := by omega
                rw [HO.out] at hx
                cases hx
                unfold longB
                simp
                omega
            case measure => simp [intOf]; omega
        · have HE3 := HE2.out (fun j x hj => HN.out j x (by omega))
          have HE4 := Lib.hid HE3
          clear HE3 HE2 HE HN
          go_wp2
          go_loopw [4] (fun i wr => ∃ k : Nat, k ≤ bs.length ∧ i = .int .i64 k ∧ Below (w.heap.size + 1) (w.alloc (.cells #[.int .i64 n, .slice A bs.length cap] 24)) wr ∧ ∀ j x, j < k → bs[j]? = some x → checkE n x = 0) (fun i _ => bs.length - (intOf i).toNat)
          case atStart => exact ⟨0, Nat.zero_le _, rfl, Below.refl _ _, fun j x hj => by omega⟩
          case round =>
            obtain ⟨k2, hk2, rfl, hb, hno⟩ := hrel
            have HN := Lib.hid hno
            clear hno
            have hb' : Below w.heap.size w wr := ((Below.refl _ _).alloc (Nat.le_refl _) _).trans (hb.mono (by omega))
            have cb0 : wr.cell? ⟨w.heap.size, 0, none⟩ = some (.int .i64 n) := (hb.cell (p := ⟨w.heap.size, 0, none⟩) (by simp)).trans (by simp)
            have cb1 : wr.cell? ⟨w.heap.size, 1, none⟩ = some (.slice A bs.length cap) := (hb.cell (p := ⟨w.heap.size, 1, none⟩) (by simp)).trans (by simp)
            by_cases hlt : k2 < bs.length
            · obtain ⟨bb, off, rfl, _, hbb, hcs⟩ := HC.out (by omega)
              obtain ⟨l, ho⟩ : ∃ l, bs[k2]? = some l := ⟨_, List.getElem?_eq_getElem hlt⟩
              obtain ⟨u, hu, hol⟩ := HV.out k2 l ho
              have c0 : wr.cell? ⟨bb, off + k2, none⟩ = some u := by have h := (hb'.cell hbb).trans (hcs _ _ hu); simpa using h
              have hbbr : bb < wr.heap.size := Nat.lt_of_lt_of_le hbb hb'.size
              have hwr : w.heap.size < wr.heap.size := by have := hb.size; simp at this; omega
              have HOL := Lib.hid (show Offs wr.drew R u l from (show Offs wr R u l from hol.grow hb'))
              obtain ⟨⟨_, A', cap', rfl, _⟩, _⟩ := hol
              clear hcs hu
              have HO := Lib.hid ho
              have HBB := Lib.hid hb
              have HBB' := Lib.hid hb'
              clear ho hb hb'
              by_cases hce : checkE n l = 0
              · have HCE := Lib.hid hce
                clear hce
                go_wp2_with fail
                go_region_held3 (fun w' => w'.cell? ⟨w.heap.size, 0, none⟩ = some (.int .i64 n) ∧ w'.cell? ⟨w.heap.size, 1, none⟩ = some (.slice (some ⟨bb, off, none⟩) bs.length cap) ∧ w'.cell? ⟨bb, off + k2, none⟩ = some (.slice A' l.length cap')) (go_keep)
                  ((go_at_call 86; refine (refCheck_any n l _ R _ HOL.out).mono ?_; rintro e w1 ⟨rfl, hb1⟩; have e0 := (hb1.cell (p := ⟨w.heap.size, 0, none⟩) (by simp; omega)).trans cb0; have e1 := (hb1.cell (p := ⟨w.heap.size, 1, none⟩) (by simp; omega)).trans cb1; have e2 := (hb1.cell (p := ⟨bb, off + k2, none⟩) (by simp; omega)).trans c0; have HB1 := Lib.hid hb1; clear hb1; rw [HCE.out]))
                go_wp2_with fail
                go_roundw
                case rel =>
                  refine ⟨k2 + 1, by omega, by go_num, (HBB.out.drew).trans (HB1.out.mono (by have := HBB.out.size; simp at this; simp; omega)), fun j x hj hx => ?_⟩
                  by_cases hjk : j < k2
                  · exact HN.out j x hjk hx
                  · obtain rfl : j = k2 := by omega
                    rw [HO.out] at hx
                    cases hx
                    exact HCE.out
                case measure => simp [intOf]; omega
              · have hcb : (checkE n l != 0) = true := by simpa using hce
                have HCE := Lib.hid hce
                clear hce
                go_wp2_with fail
                go_region_held3 (fun w' => w'.cell? ⟨w.heap.size, 0, none⟩ = some (.int .i64 n) ∧ w'.cell? ⟨w.heap.size, 1, none⟩ = some (.slice (some ⟨bb, off, none⟩) bs.length cap) ∧ w'.cell? ⟨bb, off + k2, none⟩ = some (.slice A' l.length cap')) (go_keep)
                  ((go_at_call 86; refine (refCheck_any n l _ R _ HOL.out).mono ?_; rintro e w1 ⟨rfl, hb1⟩; have e0 := (hb1.cell (p := ⟨w.heap.size, 0, none⟩) (by simp; omega)).trans cb0; have e1 := (hb1.cell (p := ⟨w.heap.size, 1, none⟩) (by simp; omega)).trans cb1; have e2 := (hb1.cell (p := ⟨bb, off + k2, none⟩) (by simp; omega)).trans c0; have HB1 := Lib.hid hb1; clear hb1))
                go_wp2_with fail
                go_ret
                refine ⟨ret_int ?_, (HBB'.out.drew).trans (HB1.out.mono (by have := HBB'.out.size; simpa using this))⟩
                rw [HE4.out, instLoop_some n bs k2 l HO.out HCE.out HN.out]
            · have HBB' := Lib.hid hb'
              clear hb hb'
              go_wp2
              go_ret
              refine ⟨ret_int ?_, HBB'.out⟩
              rw [HE4.out, instLoop_none n bs (fun o ho => ?_)]
              obtain ⟨j, hj, rfl⟩ := List.getElem_of_mem ho
              exact HN.out j _ (by omega) (List.getElem?_eq_getElem hj)
end Go.Proofs.Ytcigobiolbojhaa.Vb

/- The reference of layer 8: SameOffers, SameInstance, With. -/
import Derived.Test.YtcigobiolbojhaaRef08b
namespace Go.Proofs.Ytcigobiolbojhaa.Vb
open Go.RowKit

set_option maxHeartbeats 800000 in
theorem refSameOff_true (l : List Off) (va vb : Value) (Ra Rb : Nat → Prop) (w : World) (ha : Offs w Ra va l) (hb : Offs w Rb vb l) :
    Calls Try.prog 66 #[va, vb] w fun e w' => e = .returned (.bool true) ∧ Below w.heap.size w w' := by
  obtain ⟨⟨hlen, A, cap, rfl, hncap, hcap, hcells⟩, hwf⟩ := ha
  obtain ⟨⟨_, A', cap', rfl, hncap', hcap', hcells'⟩, _⟩ := hb
  unfold maxLen at hcap hcap'
  have HC := Lib.hid hcells
  have HC' := Lib.hid hcells'
  have HW := Lib.hid hwf
  clear hcells hcells' hwf hlen
  go_enter Try.func66, Try.ntmps66
  go_wp2
  go_loopw [5] (fun i wr => ∃ k : Nat, k ≤ l.length ∧ i = .int .i64 k ∧ Below w.heap.size w wr) (fun i _ => l.length - (intOf i).toNat)
  case atStart => exact ⟨0, Nat.zero_le _, rfl, Below.refl _ _⟩
  case round =>
    obtain ⟨k, hk, rfl, hb⟩ := hrel
    by_cases hlt : k < l.length
    · obtain ⟨bb, off, rfl, _, hbb, hcs⟩ := HC.out (by omega)
      obtain ⟨bb', off', rfl, _, hbb', hcs'⟩ := HC'.out (by omega)
      obtain ⟨o, ho⟩ : ∃ o, l[k]? = some o := ⟨_, List.getElem?_eq_getElem hlt⟩
      have c0 : wr.cell? ⟨bb, off + k * 2, none⟩ = some (.int .u32 o.g) := (hb.cell hbb).trans (hcs _ _ (Off.all_fst l k o ho))
      have c1 : wr.cell? ⟨bb, off + k * 2 + 1, none⟩ = some (.int .i64 o.c) := (hb.cell hbb).trans (hcs _ _ (Off.all_snd l k o ho))
      have d0 : wr.cell? ⟨bb', off' + k * 2, none⟩ = some (.int .u32 o.g) := (hb.cell hbb').trans (hcs' _ _ (Off.all_fst l k o ho))
      have d1 : wr.cell? ⟨bb', off' + k * 2 + 1, none⟩ = some (.int .i64 o.c) := (hb.cell hbb').trans (hcs' _ _ (Off.all_snd l k o ho))
      clear hcs hcs' ho
      go_wp2_with fail
      go_quiet (fail)
      go_wp2_with fail
      go_roundw
      case rel =>
        exact ⟨k + 1, by omega, by go_num, below_drewN hb _⟩
      case measure => simp [intOf]; omega
    · go_wp2
      go_ret
      exact ⟨rfl, hb⟩

set_option maxHeartbeats 1600000 in
theorem refSameInst_true (n : Int) (bs : List (List Off)) (va vb : Value) (Ra Rb : Nat → Prop) (w : World) (ha : Buys w Ra va bs) (hb : Buys w Rb vb bs) :
    Calls Try.prog 83 #[.agg #[.int .i64 n, va], .agg #[.int .i64 n, vb]] w fun e w' => e = .returned (.bool true) ∧ Below w.heap.size w w' := by
  obtain ⟨vs, ⟨hlen, A, cap, rfl, hncap, hcap, hcells⟩, hvs⟩ := ha
  obtain ⟨vs', ⟨hlen', A', cap', rfl, hncap', hcap', hcells'⟩, hvs'⟩ := hb
  unfold maxLen at hcap hcap'
  have HC := Lib.hid hcells
  have HC' := Lib.hid hcells'
  have HV := Lib.hid hvs
  have HV' := Lib.hid hvs'
  clear hcells hcells' hvs hvs' hlen hlen'
  go_enter Try.func83, Try.ntmps83
  go_wp2
  go_loopw [5] (fun i wr => ∃ k : Nat, k ≤ bs.length ∧ i = .int .i64 k ∧ Below (w.heap.size + 2) ((w.alloc (.cells #[.int .i64 n, .slice A bs.length cap] 24)).alloc (.cells #[.int .i64 n, .slice A' bs.length cap'] 24)) wr) (fun i _ => bs.length - (intOf i).toNat)
  case atStart => exact ⟨0, Nat.zero_le _, rfl, Below.refl _ _⟩
  case round =>
    obtain ⟨k, hk, rfl, hb⟩ := hrel
    obtain ⟨cx0, cx1, cy0, cy1, fx, fy, hs, hbw⟩ := two_new hb
    have HB := Lib.hid hb
    have HBW := Lib.hid hbw
    clear hb fx fy cx0 cy0
    by_cases hlt : k < bs.length
    · obtain ⟨bb, off, rfl, _, hbb, hcs⟩ := HC.out (by omega)
      obtain ⟨bb', off', rfl, _, hbb', hcs'⟩ := HC'.out (by omega)
      obtain ⟨l, ho⟩ : ∃ l, bs[k]? = some l := ⟨_, List.getElem?_eq_getElem hlt⟩
      obtain ⟨u, hu, hol⟩ := HV.out k l ho
      obtain ⟨u', hu', hol'⟩ := HV'.out k l ho
      have c0 : wr.cell? ⟨bb, off + k, none⟩ = some u := by have h := (hbw.cell hbb).trans (hcs _ _ hu); simpa using h
      have d0 : wr.cell? ⟨bb', off' + k, none⟩ = some u' := by have h := (hbw.cell hbb').trans (hcs' _ _ hu'); simpa using h
      have hbbr : bb < wr.heap.size := Nat.lt_of_lt_of_le hbb hbw.size
      have hbbr' : bb' < wr.heap.size := Nat.lt_of_lt_of_le hbb' hbw.size
      have HOL := Lib.hid (show Offs wr.drew Ra u l from (show Offs wr Ra u l from hol.grow hbw))
      have HOL' := Lib.hid (show Offs wr.drew Rb u' l from (show Offs wr Rb u' l from hol'.grow hbw))
      obtain ⟨⟨_, A1, cap1, rfl, _⟩, _⟩ := hol
      obtain ⟨⟨_, A2, cap2, rfl, _⟩, _⟩ := hol'
      clear hcs hcs' ho hu hu' hbw
      go_wp2_with fail
      go_region_held3 (fun w' => w'.cell? ⟨w.heap.size, 1, none⟩ = some (.slice (some ⟨bb, off, none⟩) bs.length cap) ∧ w'.cell? ⟨w.heap.size + 1, 1, none⟩ = some (.slice (some ⟨bb', off', none⟩) bs.length cap') ∧ w'.cell? ⟨bb, off + k, none⟩ = some (.slice A1 l.length cap1) ∧ w'.cell? ⟨bb', off' + k, none⟩ = some (.slice A2 l.length cap2)) (go_keep)
        ((go_at_call 66; refine (refSameOff_true l _ _ Ra Rb _ HOL.out HOL'.out).mono ?_; rintro e w1 ⟨rfl, hb1⟩; have e0 := (hb1.cell (p := ⟨w.heap.size, 1, none⟩) (by simp; omega)).trans cx1; have e1 := (hb1.cell (p := ⟨w.heap.size + 1, 1, none⟩) (by simp; omega)).trans cy1; have e2 := (hb1.cell (p := ⟨bb, off + k, none⟩) (by simp; omega)).trans c0; have e3 := (hb1.cell (p := ⟨bb', off' + k, none⟩) (by simp; omega)).trans d0; have HB1 := Lib.hid hb1; clear hb1))
      go_wp2_with fail
      go_roundw
      case rel =>
        exact ⟨k + 1, by omega, by go_num, HB.out.drew.trans (HB1.out.mono (by simp; omega))⟩
      case measure => simp [intOf]; omega
    · clear hbw
      go_wp2
      go_ret
      exact ⟨rfl, HBW.out⟩

theorem Buys.any {w : World} {R : Nat → Prop} {v : Value} {bs : List (List Off)} (h : Buys w R v bs) : Buys w (fun _ => True) v bs := by
  obtain ⟨vs, hs, ho⟩ := h
  exact ⟨vs, hs.mono fun _ _ _ => trivial, fun k l hk => let ⟨u, hu, hl⟩ := ho k l hk; ⟨u, hu, hl.mono fun _ _ _ => trivial⟩⟩
theorem Offs.any {w : World} {R : Nat → Prop} {v : Value} {l : List Off} (h : Offs w R v l) : Offs w (fun _ => True) v l := h.mono fun _ _ _ => trivial

set_option maxHeartbeats 1600000 in
theorem refWith_err (n : Int) (bs : List (List Off)) (buyer : Int) (l : List Off) (v v2 : Value) (R R2 : Nat → Prop) (w : World) (hl : Buys w R v bs) (hl2 : Offs w R2 v2 l) (he : withE n bs buyer l ≠ 0) :
    Calls Try.prog 85 #[.agg #[.int .i64 n, v], .int .i64 buyer, v2] w fun e w' => e = .returned (.tuple #[.agg #[.int .i64 0, .slice none 0 0], .int .i64 (withE n bs buyer l)]) ∧ Below w.heap.size w w' := by
  obtain ⟨vs, ⟨hlen, A, cap, rfl, hncap, hcap, hcells⟩, hvs⟩ := id hl
  have HB := Lib.hid hl
  have HB2 := Lib.hid hl2
  clear hl hl2 hcells hvs hlen hcap
  by_cases hi : instE n bs = 0
  · have hlen32 := (instE_zero hi).2.2.1
    by_cases hbu : buyer < 0 ∨ (bs.length : Int) ≤ buyer
    · have hE : withE n bs buyer l = 2 := by unfold withE; rw [if_neg (by simpa using hi), if_pos hbu]
      have HE := Lib.hid hE
      have HI := Lib.hid hi
      clear hE he hi
      rcases hbu with hbu | hbu
      all_goals
        go_enter Try.func85, Try.ntmps85
        go_wp2_with (go_at_call 30; refine (refInstance_any n bs _ R _ ((HB.out.alloc _).alloc _)).mono ?_; rintro e w1 ⟨rfl, hb1⟩; rw [HI.out]; obtain ⟨cx0, cx1, cy0, cy1, fx, fy, hs1, hb1'⟩ := two_new (by simpa using hb1))
        all_goals refine bodyPost_ret (v := .tuple #[.agg #[.int .i64 0, .slice none 0 0], .int .i64 2]) (by simp [results, Try.results85, go_sem, cy0, cy1]) rfl ⟨by rw [HE.out], ?_⟩
        all_goals exact (hb1'.setCell (p := ⟨w.heap.size + 1, 0, none⟩) (by simp) _).setCell (p := ⟨w.heap.size + 1, 1, none⟩) (by simp) _
    · have hE : withE n bs buyer l = checkE n l := by unfold withE; rw [if_neg (by simpa using hi), if_neg hbu]
      rw [hE] at he
      have hcb : (checkE n l != 0) = true := by simpa using he
      have hb0 : 0 ≤ buyer := by omega
      have hb1 : buyer < bs.length := by omega
      have HE := Lib.hid hE
      have HI := Lib.hid hi
      clear hE he hi hbu
      go_enter Try.func85, Try.ntmps85
      go_wp2_with (first
        | (go_at_call 30; refine (refInstance_any n bs _ R _ ((HB.out.alloc _).alloc _)).mono ?_; rintro e w1 ⟨rfl, hb1⟩; rw [HI.out]; obtain ⟨cx0, cx1, cy0, cy1, fx, fy, hs1, hb1'⟩ := two_new (by simpa using hb1))
        | (go_at_call 86; refine (refCheck_any n l _ R2 _ (HB2.out.grow hb1')).mono ?_; rintro e w2 ⟨rfl, hb2⟩; obtain ⟨dx0, dx1, dy0, dy1, gx, gy, hs2, hb2'⟩ := two_new ((show Below (w.heap.size + 2) _ _ from by simpa using hb1).trans (hb2.mono (by omega)))))
      refine bodyPost_ret (v := .tuple #[.agg #[.int .i64 0, .slice none 0 0], .int .i64 (checkE n l)]) (by simp [results, Try.results85, go_sem, dy0, dy1]) rfl ⟨by rw [HE.out], ?_⟩
      exact (hb2'.setCell (p := ⟨w.heap.size + 1, 0, none⟩) (by simp) _).setCell (p := ⟨w.heap.size + 1, 1, none⟩) (by simp) _
  · have hE : withE n bs buyer l = instE n bs := by unfold withE; rw [if_pos (by simpa using hi)]
    have hcb : (instE n bs != 0) = true := by simpa using hi
    have HE := Lib.hid hE
    clear hE he hi
    go_enter Try.func85, Try.ntmps85
    go_wp2_with (go_at_call 30; refine (refInstance_any n bs _ R _ ((HB.out.alloc _).alloc _)).mono ?_; rintro e w1 ⟨rfl, hb1⟩; obtain ⟨cx0, cx1, cy0, cy1, fx, fy, hs1, hb1'⟩ := two_new (by simpa using hb1))
    refine bodyPost_ret (v := .tuple #[.agg #[.int .i64 0, .slice none 0 0], .int .i64 (instE n bs)]) (by simp [results, Try.results85, go_sem, cy0, cy1]) rfl ⟨by rw [HE.out], ?_⟩
    exact (hb1'.setCell (p := ⟨w.heap.size + 1, 0, none⟩) (by simp) _).setCell (p := ⟨w.heap.size + 1, 1, none⟩) (by simp) _
end Go.Proofs.Ytcigobiolbojhaa.Vb

/- Joined by program: Ref08c Ref08d Tab Ref17a Ref17b Ref17c Plain17 Ref17d Ref17e Ref17f Law1 Each1. -/
import Derived.Test.YtcigobiolbojhaaZb
import Derived.Deep.OwnRows
import Derived.Deep.CutRange
import Derived.Deep.RegionWith
import Derived.Deep.RegionHeld3
/- The reference of layer 8: SameOffers, SameInstance, With. -/
namespace Go.Proofs.Ytcigobiolbojhaa.Vb
open Go.RowKit

set_option maxHeartbeats 800000 in
theorem refSameOff_true (l : List Off) (va vb : Value) (Ra Rb : Nat → Prop) (w : World) (ha : Offs w Ra va l) (hb : Offs w Rb vb l) :
    Calls Try.prog 66 #[va, vb] w fun e w' => e = .returned (.bool true) ∧ Below w.heap.size w w' := by
  obtain ⟨⟨hlen, A, cap, rfl, hncap, hcap, hcells⟩, hwf⟩ := ha
  obtain ⟨⟨_, A', cap', rfl, hncap', hcap', hcells'⟩, _⟩ := hb
  unfold maxLen at hcap hcap'
  have HC := Lib.hid hcells
  have HC' := Lib.hid hcells'
  have HW := Lib.hid hwf
  clear hcells hcells' hwf hlen
  go_enter Try.func66, Try.ntmps66
  go_wp2
  go_loopw [5] (fun i wr => ∃ k : Nat, k ≤ l.length ∧ i = .int .i64 k ∧ Below w.heap.size w wr) (fun i _ => l.length - (intOf i).toNat)
  case atStart => exact ⟨0, Nat.zero_le _, rfl, Below.refl _ _⟩
  case round =>
    obtain ⟨k, hk, rfl, hb⟩ := hrel
    by_cases hlt : k < l.length
    · obtain ⟨bb, off, rfl, _, hbb, hcs⟩ := HC.out (by omega)
      obtain ⟨bb', off', rfl, _, hbb', hcs'⟩ := HC'.out (by omega)
      obtain ⟨o, ho⟩ : ∃ o, l[k]? = some o := ⟨_, List.getElem?_eq_getElem hlt⟩
      have c0 : wr.cell? ⟨bb, off + k * 2, none⟩ = some (.int .u32 o.g) := (hb.cell hbb).trans (hcs _ _ (Off.all_fst l k o ho))
      have c1 : wr.cell? ⟨bb, off + k * 2 + 1, none⟩ = some (.int .i64 o.c) := (hb.cell hbb).trans (hcs _ _ (Off.all_snd l k o ho))
      have d0 : wr.cell? ⟨bb', off' + k * 2, none⟩ = some (.int .u32 o.g) := (hb.cell hbb').trans (hcs' _ _ (Off.all_fst l k o ho))
      have d1 : wr.cell? ⟨bb', off' + k * 2 + 1, none⟩ = some (.int .i64 o.c) := (hb.cell hbb').trans (hcs' _ _ (Off.all_snd l k o ho))
      clear hcs hcs' ho
      go_wp2_with fail
      go_quiet (fail)
      go_wp2_with fail
      go_roundw
      case rel =>
        exact ⟨k + 1, by omega, by go_num, below_drewN hb _⟩
      case measure => simp [intOf]; omega
    · go_wp2
      go_ret
      exact ⟨rfl, hb⟩

set_option maxHeartbeats 1600000 in
theorem refSameInst_true (n : Int) (bs : List (List Off)) (va vb : Value) (Ra Rb : Nat → Prop) (w : World) (ha : Buys w Ra va bs) (hb : Buys w Rb vb bs) :
    Calls Try.prog 83 #[.agg #[.int .i64 n, va], .agg #[.int .i64 n, vb]] w fun e w' => e = .returned (.bool true) ∧ Below w.heap.size w w' := by
  obtain ⟨vs, ⟨hlen, A, cap, rfl, hncap, hcap, hcells⟩, hvs⟩ := ha
  obtain ⟨vs', ⟨hlen', A', cap', rfl, hncap', hcap', hcells'⟩, hvs'⟩ := hb
  unfold maxLen at hcap hcap'
  have HC := Lib.hid hcells
  have HC' := Lib.hid hcells'
  have HV := Lib.hid hvs
  have HV' := Lib.hid hvs'
  clear hcells hcells' hvs hvs' hlen hlen'
  go_enter Try.func83, Try.ntmps83
  go_wp2
  go_loopw [5] (fun i wr => ∃ k : Nat, k ≤ bs.length ∧ i = .int .i64 k ∧ Below (w.heap.size + 2) ((w.alloc (.cells #[.int .i64 n, .slice A bs.length cap] 24)).alloc (.cells #[.int .i64 n, .slice A' bs.length cap'] 24)) wr) (fun i _ => bs.length - (intOf i).toNat)
  case atStart => exact ⟨0, Nat.zero_le _, rfl, Below.refl _ _⟩
  case round =>
    obtain ⟨k, hk, rfl, hb⟩ := hrel
    obtain ⟨cx0, cx1, cy0, cy1, fx, fy, hs, hbw⟩ := two_new hb
    have HB := Lib.hid hb
    have HBW := Lib.hid hbw
    clear hb fx fy cx0 cy0
    by_cases hlt : k < bs.length
    · obtain ⟨bb, off, rfl, _, hbb, hcs⟩ := HC.out (by omega)
      obtain ⟨bb', off', rfl, _, hbb', hcs'⟩ := HC'.out (by omega)
      obtain ⟨l, ho⟩ : ∃ l, bs[k]? = some l := ⟨_, List.getElem?_eq_getElem hlt⟩
      obtain ⟨u, hu, hol⟩ := HV.out k l ho
      obtain ⟨u', hu', hol'⟩ := HV'.out k l ho
      have c0 : wr.cell? ⟨bb, off + k, none⟩ = some u := by have h := (hbw.cell hbb).trans (hcs _ _ hu); simpa using h
      have d0 : wr.cell? ⟨bb', off' + k, none⟩ = some u' := by have h := (hbw.cell hbb').trans (hcs' _ _ hu'); simpa using h
      have hbbr : bb < wr.heap.size := Nat.lt_of_lt_of_le hbb hbw.size
      have hbbr' : bb' < wr.heap.size := Nat.lt_of_lt_of_le hbb' hbw.size
      have HOL := Lib.hid (show Offs wr.drew Ra u l from (show Offs wr Ra u l from hol.grow hbw))
      have HOL' := Lib.hid (show Offs wr.drew Rb u' l from (show Offs wr Rb u' l from hol'.grow hbw))
      obtain ⟨⟨_, A1, cap1, rfl, _⟩, _⟩ := hol
      obtain ⟨⟨_, A2, cap2, rfl, _⟩, _⟩ := hol'
      clear hcs hcs' ho hu hu' hbw
      go_wp2_with fail
      go_region_held3 (fun w' => w'.cell? ⟨w.heap.size, 1, none⟩ = some (.slice (some ⟨bb, off, none⟩) bs.length cap) ∧ w'.cell? ⟨w.heap.size + 1, 1, none⟩ = some (.slice (some ⟨bb', off', none⟩) bs.length cap') ∧ w'.cell? ⟨bb, off + k, none⟩ = some (.slice A1 l.length cap1) ∧ w'.cell? ⟨bb', off' + k, none⟩ = some (.slice A2 l.length cap2)) (go_keep)
        ((go_at_call 66; refine (refSameOff_true l _ _ Ra Rb _ HOL.out HOL'.out).mono ?_; rintro e w1 ⟨rfl, hb1⟩; have e0 := (hb1.cell (p := ⟨w.heap.size, 1, none⟩) (by simp; omega)).trans cx1; have e1 := (hb1.cell (p := ⟨w.heap.size + 1, 1, none⟩) (by simp; omega)).trans cy1; have e2 := (hb1.cell (p := ⟨bb, off + k, none⟩) (by simp; omega)).trans c0; have e3 := (hb1.cell (p := ⟨bb', off' + k, none⟩) (by simp; omega)).trans d0; have HB1 := Lib.hid hb1; clear hb1))
      go_wp2_with fail
      go_roundw
      case rel =>
        exact ⟨k + 1, by omega, by go_num, HB.out.drew.trans (HB1.out.mono (by simp; omega))⟩
      case measure => simp [intOf]; omega
    · clear hbw
      go_wp2
      go_ret
      exact ⟨rfl, HBW.out⟩

theorem Buys.any {w : World} {R : Nat → Prop} {v : Value} {bs : List (List Off)} (h : Buys w R v bs) : Buys w (fun _ => True) v bs := by
  obtain ⟨vs, hs, ho⟩ := h
  exact ⟨vs, hs.mono fun _ _ _ => trivial, fun k l hk => let ⟨u, hu, hl⟩ := ho k l hk; ⟨u, hu, hl.mono fun _ _ _ => trivial⟩⟩
theorem Offs.any {w : World} {R : Nat → Prop} {v : Value} {l : List Off} (h : Offs w R v l) : Offs w (fun _ => True) v l := h.mono fun _ _ _ => trivial

set_option maxHeartbeats 1600000 in
theorem refWith_err (n : Int) (bs : List (List Off)) (buyer : Int) (l : List Off) (v v2 : Value) (R R2 : Nat → Prop) (w : World) (hl : Buys w R v bs) (hl2 : Offs w R2 v2 l) (he : withE n bs buyer l ≠ 0) :
    Calls Try.prog 85 #[.agg #[.int .i64 n, v], .int .i64 buyer, v2] w fun e w' => e = .returned (.tuple #[.agg #[.int .i64 0, .slice none 0 0], .int .i64 (withE n bs buyer l)]) ∧ Below w.heap.size w w' := by
  obtain ⟨vs, ⟨hlen, A, cap, rfl, hncap, hcap, hcells⟩, hvs⟩ := id hl
  have HB := Lib.hid hl
  have HB2 := Lib.hid hl2
  clear hl hl2 hcells hvs hlen hcap
  by_cases hi : instE n bs = 0
  · have hlen32 := (instE_zero hi).2.2.1
    by_cases hbu : buyer < 0 ∨ (bs.length : Int) ≤ buyer
    · have hE : withE n bs buyer l = 2 := by unfold withE; rw [if_neg (by simpa using hi), if_pos hbu]
      have HE := Lib.hid hE
      have HI := Lib.hid hi
      clear hE he hi
      rcases hbu with hbu | hbu
      all_goals
        go_enter Try.func85, Try.ntmps85
        go_wp2_with (go_at_call 30; refine (refInstance_any n bs _ R _ ((HB.out.alloc _).alloc _)).mono ?_; rintro e w1 ⟨rfl, hb1⟩; rw [HI.out]; obtain ⟨cx0, cx1, cy0, cy1, fx, fy, hs1, hb1'⟩ := two_new (by simpa using hb1))
        all_goals refine bodyPost_ret (v := .tuple #[.agg #[.int .i64 0, .slice none 0 0], .int .i64 2]) (by simp [results, Try.results85, go_sem, cy0, cy1]) rfl ⟨by rw [HE.out], ?_⟩
        all_goals exact (hb1'.setCell (p := ⟨w.heap.size + 1, 0, none⟩) (by simp) _).setCell (p := ⟨w.heap.size + 1, 1, none⟩) (by simp) _
    · have hE : withE n bs buyer l = checkE n l := by unfold withE; rw [if_neg (by simpa using hi), if_neg hbu]
      rw [hE] at he
      have hcb : (checkE n l != 0) = true := by simpa using he
      have hb0 : 0 ≤ buyer := by omega
      have hb1 : buyer < bs.length := by omega
      have HE := Lib.hid hE
      have HI := Lib.hid hi
      clear hE he hi hbu
      go_enter Try.func85, Try.ntmps85
      go_wp2_with (first
        | (go_at_call 30; refine (refInstance_any n bs _ R _ ((HB.out.alloc _).alloc _)).mono ?_; rintro e w1 ⟨rfl, hb1⟩; rw [HI.out]; obtain ⟨cx0, cx1, cy0, cy1, fx, fy, hs1, hb1'⟩ := two_new (by simpa using hb1))
        | (go_at_call 86; refine (refCheck_any n l _ R2 _ (HB2.out.grow hb1')).mono ?_; rintro e w2 ⟨rfl, hb2⟩; obtain ⟨dx0, dx1, dy0, dy1, gx, gy, hs2, hb2'⟩ := two_new ((show Below (w.heap.size + 2) _ _ from by simpa using hb1).trans (hb2.mono (by omega)))))
      refine bodyPost_ret (v := .tuple #[.agg #[.int .i64 0, .slice none 0 0], .int .i64 (checkE n l)]) (by simp [results, Try.results85, go_sem, dy0, dy1]) rfl ⟨by rw [HE.out], ?_⟩
      exact (hb2'.setCell (p := ⟨w.heap.size + 1, 0, none⟩) (by simp) _).setCell (p := ⟨w.heap.size + 1, 1, none⟩) (by simp) _
  · have hE : withE n bs buyer l = instE n bs := by unfold withE; rw [if_pos (by simpa using hi)]
    have hcb : (instE n bs != 0) = true := by simpa using hi
    have HE := Lib.hid hE
    clear hE he hi
    go_enter Try.func85, Try.ntmps85
    go_wp2_with (go_at_call 30; refine (refInstance_any n bs _ R _ ((HB.out.alloc _).alloc _)).mono ?_; rintro e w1 ⟨rfl, hb1⟩; obtain ⟨cx0, cx1, cy0, cy1, fx, fy, hs1, hb1'⟩ := two_new (by simpa using hb1))
    refine bodyPost_ret (v := .tuple #[.agg #[.int .i64 0, .slice none 0 0], .int .i64 (instE n bs)]) (by simp [results, Try.results85, go_sem, cy0, cy1]) rfl ⟨by rw [HE.out], ?_⟩
    exact (hb1'.setCell (p := ⟨w.heap.size + 1, 0, none⟩) (by simp) _).setCell (p := ⟨w.heap.size + 1, 1, none⟩) (by simp) _
end Go.Proofs.Ytcigobiolbojhaa.Vb

/- The reference of layer 8: With where it may be. -/
namespace Go.Proofs.Ytcigobiolbojhaa.Vb
open Go.RowKit

theorem Sl.one_of {w : World} {R : Nat → Prop} {bs : List (List Off)} {vs : List Value} (hl : vs.length = bs.length) (ho : ∀ (k : Nat) (l : List Off), bs[k]? = some l → ∃ u, vs[k]? = some u ∧ Offs w R u l) : ∀ u ∈ vs, u.oneCell' = true := by
  intro u hu
  obtain ⟨j, hj, rfl⟩ := List.getElem_of_mem hu
  obtain ⟨u', h1, h2⟩ := ho j bs[j] (List.getElem?_eq_getElem (by omega))
  rw [List.getElem?_eq_getElem hj] at h1
  injection h1 with h1
  obtain ⟨⟨_, A, cap, h3, _⟩, _⟩ := h2
  rw [h1, h3]
  rfl

theorem own_some {w : World} {base : Nat} {e : TypeId} {n cap : Nat} {A : Option Addr} {xs : List Value} (h : w.ownsRow base e 1 (.slice A n cap) n xs) (h0 : 0 < n) :
    ∃ g, A = some ⟨g, 0, none⟩ ∧ base ≤ g ∧ g < w.heap.size ∧ n ≤ cap ∧ (∀ i, w.frozen? ⟨g, i, none⟩ = false) ∧ ∀ k, k < n → ∃ u, xs[k]? = some u ∧ w.cell? ⟨g, k, none⟩ = some u := by
  have hl := h.1
  rcases h.2 with ⟨_, h⟩ | ⟨g, cap', cur, hv, hg, hh, hnc, _⟩
  · omega
  · injection hv with hA _ hc
    subst hA hc
    refine ⟨g, rfl, hg, (Array.getElem?_eq_some_iff.1 hh).1, hnc, fun i => h.frozenAt i, fun k hk => ?_⟩
    have hx : xs[k]? = some xs[k] := List.getElem?_eq_getElem (by omega)
    exact ⟨_, hx, (h.cellAt k (by omega)).trans hx⟩

set_option maxHeartbeats 1600000 in
set_option maxRecDepth 100000 in
theorem refWith_ok (n : Int) (bs : List (List Off)) (buyer : Int) (l : List Off) (v v2 : Value) (R R2 : Nat → Prop) (w : World) (hl : Buys w R v bs) (hl2 : Offs w R2 v2 l) (he : withE n bs buyer l = 0) :
    Calls Try.prog 85 #[.agg #[.int .i64 n, v], .int .i64 buyer, v2] w fun e w' => ∃ A' cap', e = .returned (.tuple #[.agg #[.int .i64 n, .slice A' bs.length cap'], .int .i64 0]) ∧
      Buys w' (fun _ => True) (.slice A' bs.length cap') (bs.set buyer.toNat l) ∧ Below w.heap.size w w' := by
  have hi : instE n bs = 0 := by
    by_cases h : instE n bs = 0
    · exact h
    · unfold withE at he; rw [if_pos h] at he; exact absurd he h
  have hbu : ¬ (buyer < 0 ∨ (bs.length : Int) ≤ buyer) := by
    intro h
    unfold withE at he
    rw [if_neg (by simpa using hi), if_pos h] at he
    omega
  have hc : checkE n l = 0 := by unfold withE at he; rwa [if_neg (by simpa using hi), if_neg hbu] at he
  have hlen32 := (instE_zero hi).2.2.1
  have hb0 : 0 ≤ buyer := by omega
  have hb1 : buyer < bs.length := by omega
  clear hbu he
  obtain ⟨bu, rfl⟩ := Int.eq_ofNat_of_zero_le hb0
  rw [Int.toNat_natCast]
  have hbn : bu < bs.length := by omega
  obtain ⟨vs, hsv, hvs⟩ := id hl
  have hone := Sl.one_of (by have := hsv.1; omega) hvs
  have HSV := Lib.hid hsv
  have HVS := Lib.hid hvs
  have HONE := Lib.hid hone
  obtain ⟨hlen, A, cap, rfl, hncap, hcap, hcells⟩ := hsv
  obtain ⟨⟨_, A2, cap2, rfl, _⟩, _⟩ := id hl2
  have HB := Lib.hid hl
  have HB2 := Lib.hid hl2
  have HI := Lib.hid hi
  have HC := Lib.hid hc
  clear hl hl2 hcells hvs hcap hi hc hone
  go_enter Try.func85, Try.ntmps85
  go_wp2_with (first
    | (go_at_call 30; refine (refInstance_any n bs _ R _ ((HB.out.alloc _).alloc _)).mono ?_; rintro e w1 ⟨rfl, hb1⟩; rw [HI.out]; have hb1a := hb1.mono (B' := w.heap.size + 2) (by simp); obtain ⟨cx0, cx1, cy0, cy1, fx, fy, hs1, hb1'⟩ := two_new hb1a; have HB1 := Lib.hid hb1a; have HB1' := Lib.hid hb1'; clear hb1 hb1a hb1')
    | (go_at_call 86; refine (refCheck_any n l _ R2 _ (HB2.out.grow HB1'.out)).mono ?_; rintro e w2 ⟨rfl, hb2⟩; rw [HC.out]; have hb2a := HB1.out.trans (hb2.mono hs1); obtain ⟨dx0, dx1, dy0, dy1, gx, gy, hs2, hb2'⟩ := two_new hb2a; have HB3 := Lib.hid hb2a; have HB3' := Lib.hid hb2'; have dz1 := cellAlloc dx1; clear hb2 hb2a hb2' cx0 cx1 cy0 cy1 fx fy hs1)
    | (at_builtin; refine wpList_app _ rfl (.tmp 43) (.tmp 45) et_offs rfl (w2.heap.size + 1) (.slice none 0 0) 0 [] rfl (World.ownsRow_nil _ _ _ _) R _ bs.length vs rfl (((HSV.out.grow HB3'.out)).alloc _) HONE.out (by omega) (by unfold maxLen; omega) (by simp) ?_; intro A' cap' w4 hown4 hg4 hloc4; rw [Nat.zero_add, List.nil_append] at hown4; obtain ⟨g, rfl, hg0, hg1, hnc, hgf, hgc⟩ := own_some hown4 (by omega); obtain ⟨ug, _, hug⟩ := hgc bu hbn; rw [Nat.zero_add]; have hy4 : Blk w4 w2.heap.size 24 #[.int .i64 n, .slice none 0 0] := (Blk.new w2 _ _).grown hg4 (by simp [Value.ownBlock]); have y1 : w4.cell? ⟨w2.heap.size, 1, none⟩ = some (.slice none 0 0) := hy4.cell 1; have yf := hy4.frozen 1; have hy5 := hy4.set_ 1 (.slice (some ⟨g, 0, none⟩) bs.length cap'); have z1 : (w4.setCell ⟨w2.heap.size, 1, none⟩ (.slice (some ⟨g, 0, none⟩) bs.length cap')).cell? ⟨w2.heap.size, 1, none⟩ = some (.slice (some ⟨g, 0, none⟩) bs.length cap') := hy5.cell 1; have g5 : (w4.setCell ⟨w2.heap.size, 1, none⟩ (.slice (some ⟨g, 0, none⟩) bs.length cap')).cell? ⟨g, bu, none⟩ = some ug := (World.cell?_setCell_other w4 ⟨w2.heap.size, 1, none⟩ ⟨g, bu, none⟩ _ (fun e => by injection e with e; omega)).trans hug; have f5 : (w4.setCell ⟨w2.heap.size, 1, none⟩ (.slice (some ⟨g, 0, none⟩) bs.length cap')).frozen? ⟨g, bu, none⟩ = false := (by rw [World.frozen?_setCell]; exact hgf bu); have hy6 := hy5.far (p := ⟨g, bu, none⟩) (show w2.heap.size ≠ g by omega) (.slice A2 l.length cap2); have z60 : ((w4.setCell ⟨w2.heap.size, 1, none⟩ (.slice (some ⟨g, 0, none⟩) bs.length cap')).setCell ⟨g, bu, none⟩ (.slice A2 l.length cap2)).cell? ⟨w2.heap.size, 0, none⟩ = some (.int .i64 n) := hy6.cell 0; have z61 : ((w4.setCell ⟨w2.heap.size, 1, none⟩ (.slice (some ⟨g, 0, none⟩) bs.length cap')).setCell ⟨g, bu, none⟩ (.slice A2 l.length cap2)).cell? ⟨w2.heap.size, 1, none⟩ = some (.slice (some ⟨g, 0, none⟩) bs.length cap') := hy6.cell 1; have r6 : ∀ i v, w2.cell? ⟨w.heap.size + 1, i, none⟩ = some v → ((w4.setCell ⟨w2.heap.size, 1, none⟩ (.slice (some ⟨g, 0, none⟩) bs.length cap')).setCell ⟨g, bu, none⟩ (.slice A2 l.length cap2)).cell? ⟨w.heap.size + 1, i, none⟩ = some v := fun i v h => (World.cell?_setCell_other _ ⟨g, bu, none⟩ ⟨w.heap.size + 1, i, none⟩ _ (fun e => by injection e with e; omega)).trans ((World.cell?_setCell_other _ ⟨w2.heap.size, 1, none⟩ ⟨w.heap.size + 1, i, none⟩ _ (fun e => by injection e with e; omega)).trans (hg4.cell (cellAlloc h _) (by simp [Value.ownBlock]))); have r60 := r6 0 _ dy0; have r61 := r6 1 _ dy1; have rf : ∀ i, ((w4.setCell ⟨w2.heap.size, 1, none⟩ (.slice (some ⟨g, 0, none⟩) bs.length cap')).setCell ⟨g, bu, none⟩ (.slice A2 l.length cap2)).frozen? ⟨w.heap.size + 1, i, none⟩ = false := (fun i => by rw [World.frozen?_setCell, World.frozen?_setCell]; exact (World.frozen?_of_block (hg4.block _ (by simp; omega) (by simp [Value.ownBlock]))).trans ((World.frozen?_of_block (w := w2) (Below.heap_alloc _ _ _ (by simp; omega))).trans (gy i))); have HO4 := Lib.hid hown4; have HG4 := Lib.hid hg4; have HY5 := Lib.hid hy5; clear hown4 hg4 hloc4 hgc hy4 hy5 hy6 r6))
  have HBL : Hid (Below w.heap.size w ((((w4.setCell ⟨w2.heap.size, 1, none⟩ (.slice (some ⟨g, 0, none⟩) bs.length cap')).setCell ⟨g, bu, none⟩ (.slice A2 l.length cap2)).setCell ⟨w.heap.size + 1, 0, none⟩ (.int .i64 n)).setCell ⟨w.heap.size + 1, 1, none⟩ (.slice (some ⟨g, 0, none⟩) bs.length cap'))) :=
    (((((HB3'.out.alloc (by omega) _).grown HG4.out (by simp; omega) (fun g e => by simp [Value.ownBlock] at e)).setCell (p := ⟨w2.heap.size, 1, none⟩) (show w.heap.size ≤ w2.heap.size by omega) _).setCell (p := ⟨g, bu, none⟩) (show w.heap.size ≤ g by omega) _).setCell (p := ⟨w.heap.size + 1, 0, none⟩) (by simp) _).setCell (p := ⟨w.heap.size + 1, 1, none⟩) (by simp) _
  refine bodyPost_ret (v := .tuple #[.agg #[.int .i64 n, .slice (some ⟨g, 0, none⟩) bs.length cap'], .int .i64 0]) (by simp [results, Try.results85, go_sem, r60, r61]) rfl ⟨_, _, rfl, ?_, HBL.out⟩
  have o5 := own_far HO4.out (grownBy_setCell w4 ⟨w2.heap.size, 1, none⟩ (.slice (some ⟨g, 0, none⟩) bs.length cap')) (fun x e => by simp at e; simp [Value.ownBlock]; omega)
  have o6 := (o5.stored bu (.slice A2 l.length cap2)).1
  have o7 := own_far o6 (grownBy_setCell _ ⟨w.heap.size + 1, 0, none⟩ (.int .i64 n)) (fun x e => by simp at e; simp [Value.ownBlock]; omega)
  have o8 := own_far o7 (grownBy_setCell _ ⟨w.heap.size + 1, 1, none⟩ (.slice (some ⟨g, 0, none⟩) bs.length cap')) (fun x e => by simp at e; simp [Value.ownBlock]; omega)
  refine ⟨vs.set bu (.slice A2 l.length cap2), by rw [List.length_set]; exact (Sl.of_own o8).mono fun _ _ _ => trivial, fun j l' hj => ?_⟩
  rw [List.getElem?_set] at hj
  split at hj
  · rename_i hkj
    subst hkj
    injection hj with hj
    subst hj
    exact ⟨_, by rw [List.getElem?_set]; simp; omega, (HB2.out.grow HBL.out).any⟩
  · rename_i hkj
    obtain ⟨u', hu', ho'⟩ := HVS.out j l' hj
    exact ⟨u', by rw [List.getElem?_set, if_neg hkj]; exact hu', (ho'.grow HBL.out).any⟩
end Go.Proofs.Ytcigobiolbojhaa.Vb

/- The reference of layer 17: the table. -/
namespace Go.Proofs.Ytcigobiolbojhaa.Vb
open Go.RowKit

/-- the table's rows from lo on are right: what any buyers from k on have of any goods -/
def TabAt (w : World) (gT hi S N lo : Nat) (F : Nat → Value) (bs : List (List Off)) : Prop :=
  w.rowIs gT 34 (N + 1) F ∧ ∀ k, lo ≤ k → k ≤ N → ∃ g, gT < g ∧ g < hi ∧ F k = .slice (some ⟨g, 0, none⟩) S S ∧ w.rowIs g 2 S (fun f => .int .i64 (W (bs.drop k) f))

theorem TabAt.below {w w' : World} {gT hi S N lo : Nat} {F : Nat → Value} {bs : List (List Off)} (h : TabAt w gT hi S N lo F bs) (hb : Below hi w w') (h0 : gT < hi) : TabAt w' gT hi S N lo F bs :=
  ⟨h.1.of_block (hb.block gT h0), fun k h1 h2 => let ⟨g, a, b, c, d⟩ := h.2 k h1 h2; ⟨g, a, b, c, d.of_block (hb.block g b)⟩⟩
theorem TabAt.mono {w : World} {gT hi hi' S N lo lo' : Nat} {F : Nat → Value} {bs : List (List Off)} (h : TabAt w gT hi S N lo F bs) (h1 : hi ≤ hi') (h2 : lo ≤ lo') : TabAt w gT hi' S N lo' F bs :=
  ⟨h.1, fun k h3 h4 => let ⟨g, a, b, c, d⟩ := h.2 k (Nat.le_trans h2 h3) h4; ⟨g, a, by omega, c, d⟩⟩
theorem TabAt.grow {w w' : World} {gT hi S N lo : Nat} {F : Nat → Value} {bs : List (List Off)} (h : TabAt w gT hi S N lo F bs) (hb : Below w.heap.size w w') : TabAt w' gT hi S N lo F bs :=
  ⟨h.1.of_block (hb.block gT h.1.lt), fun k h1 h2 => let ⟨g, a, b, c, d⟩ := h.2 k h1 h2; ⟨g, a, b, c, d.of_block (hb.block g d.lt)⟩⟩
/-- a cell of the table -/
theorem TabAt.at {w : World} {gT hi S N lo : Nat} {F : Nat → Value} {bs : List (List Off)} (h : TabAt w gT hi S N lo F bs) {k : Nat} (h1 : lo ≤ k) (h2 : k ≤ N) :
    ∃ g, g < hi ∧ w.cell? ⟨gT, k, none⟩ = some (.slice (some ⟨g, 0, none⟩) S S) ∧ ∀ f, f < S → w.cell? ⟨g, f, none⟩ = some (.int .i64 (W (bs.drop k) f)) := by
  obtain ⟨g, _, hg, hF, hr⟩ := h.2 k h1 h2
  exact ⟨g, hg, by rw [h.1.cell (by omega), hF], fun f hf => hr.cell hf⟩

/-- a row in the making -/
def rowP (bs : List (List Off)) (k f : Nat) (x : Nat) : Value := .int .i64 (if x < f then W (bs.drop k) x else 0)

theorem pow_i64 (m : Nat) (h : m ≤ 10) : IntKind.i64.wrap (2 ^ m) = ((2 ^ m : Nat) : Int) := by
  have hp2 : 2 ^ m ≤ 1024 := Nat.le_trans (Nat.pow_le_pow_right (by omega) h) (by decide)
  have h3 : ((2 : Int) ^ m) = ((2 ^ m : Nat) : Int) := by simp
  rw [h3]
  generalize 2 ^ m = s at *
  exact IntWalk.i64_in _ (by omega)

set_option maxHeartbeats 1600000 in
set_option maxRecDepth 100000 in
theorem table_any (m S : Nat) (h0 : 1 ≤ m) (h1 : m ≤ 10) (hS : S = 2 ^ m) (bs : List (List Off)) (v : Value) (R : Nat → Prop) (w : World) (hl : Buys w R v bs) (hok : Okb bs) :
    Calls Try.prog 116 #[.agg #[.int .i64 m, v]] w fun e w' => ∃ gT hi F, e = .returned (.slice (some ⟨gT, 0, none⟩) (bs.length + 1) (bs.length + 1)) ∧
      TabAt w' gT hi S bs.length 0 F bs ∧ w.heap.size ≤ gT ∧ Below w.heap.size w w' := by
  obtain ⟨vs, ⟨hlen, A, cap, rfl, hncap, hcap, hcells⟩, hvs⟩ := id hl
  have hS1 : S ≤ 1024 := by rw [hS]; exact Nat.le_trans (Nat.pow_le_pow_right (by omega) h1) (by decide)
  have hS0 : 0 < S := by rw [hS]; exact Nat.two_pow_pos m
  have hsh : IntKind.i64.wrap (2 ^ m) = (S : Int) := by rw [hS]; exact pow_i64 m h1
  have hN := hok.1
  have hmk1 : ∀ W : World, (Instr.makeSlice 161 (.int .i64 ((bs.length : Int) + 1)) (.int .i64 ((bs.length : Int) + 1))).run Try.prog W = .ok (.slice (some ⟨W.heap.size, 0, none⟩) (bs.length + 1) (bs.length + 1)) (W.alloc (.cells (madeCells #[.slice none 0 0] (bs.length + 1)) 34)) := fun W => by
    rw [show ((bs.length : Int) + 1) = ((bs.length + 1 : Nat) : Int) from by omega]
    exact run_make_row' (P := Try.prog) 161 34 (.slice none 0 0) 24 Try.underlying161 (by kernel_rfl) rfl .i64 .i64 (bs.length + 1) (by omega) (by omega) W
  have hmk2 : ∀ W : World, (Instr.makeSlice 34 (.int .i64 (S : Int)) (.int .i64 (S : Int))).run Try.prog W = .ok (.slice (some ⟨W.heap.size, 0, none⟩) S S) (W.alloc (.cells (madeCells #[.int .i64 0] S) 2)) := fun W =>
    run_make_row' (P := Try.prog) 34 2 (.int .i64 0) 8 Try.underlying34 (by kernel_rfl) rfl .i64 .i64 S (by omega) (by omega) W
  have HC := Lib.hid hcells
  have HV := Lib.hid hvs
  have HOK := Lib.hid hok
  have HS := Lib.hid hS
  clear hcells hvs hok hlen hcap hl hS
  go_enter Try.func116, Try.ntmps116
  go_wp2_with fail
  have hw0 : ∃ W0, W0 = (w.alloc (.cells #[.int .i64 m, .slice A bs.length cap] 24)).alloc (.cells (madeCells #[.slice none 0 0] (bs.length + 1)) 34) := ⟨_, rfl⟩
  obtain ⟨W0, hW0⟩ := hw0
  have hX : Blk W0 w.heap.size 24 #[.int .i64 m, .slice A bs.length cap] := by rw [hW0]; exact (Blk.new w _ _).alloc _
  have hT : W0.rowIs (w.heap.size + 1) 34 (bs.length + 1) (fun _ => .slice none 0 0) := by rw [hW0]; simpa using World.rowIs_made (w.alloc (.cells #[.int .i64 m, .slice A bs.length cap] 24)) (.slice none 0 0) (bs.length + 1) 34
  have hbw : Below w.heap.size w W0 := by rw [hW0]; exact ((Below.refl _ _).alloc (Nat.le_refl _) _).alloc (by simp) _
  have hsz : W0.heap.size = w.heap.size + 2 := by rw [hW0]; simp
  rw [← hW0]
  have x1 : W0.cell? ⟨w.heap.size, 1, none⟩ = some (.slice A bs.length cap) := hX.cell 1
  have x1' := cellAlloc x1
  have t1 := fun o : Obj => (hT.alloc o).cell (i := bs.length) (by omega)
  have t2 := fun o : Obj => (hT.alloc o).frozen bs.length
  have HX := Lib.hid hX
  have HT := Lib.hid hT
  have HBW := Lib.hid hbw
  clear hX hT hbw hW0
  go_region
  go_wp2_with fail
  go_loopw [5] (fun i wr => ∃ (k : Nat) (F : Nat → Value), k ≤ bs.length ∧ i = .int .i64 ((k : Int) - 1) ∧ TabAt wr (w.heap.size + 1) wr.heap.size S bs.length k F bs ∧ Blk wr w.heap.size 24 #[.int .i64 m, .slice A bs.length cap] ∧ Below w.heap.size w wr) (fun i _ => (intOf i + 1).toNat)
  case atStart =>
    refine ⟨bs.length, _, Nat.le_refl _, by go_num, ⟨(((HT.out.set bs.length _).alloc _)), fun k h1 h2 => ?_⟩, ?_, ?_⟩
    · obtain rfl : k = bs.length := by omega
      refine ⟨w.heap.size + 2, by omega, by simp; omega, by simp, ?_⟩
      have hr := World.rowIs_made (W0.setCell ⟨w.heap.size + 1, bs.length, none⟩ (.slice (some ⟨w.heap.size + 2, 0, none⟩) S S)) (.int .i64 0) S 2
      have hz : (W0.setCell ⟨w.heap.size + 1, bs.length, none⟩ (.slice (some ⟨w.heap.size + 2, 0, none⟩) S S)).heap.size = w.heap.size + 2 := by simpa using hsz
      rw [hz] at hr
      exact World.rowIs.congr (g := fun f => .int .i64 (W (bs.drop bs.length) f)) hr (fun i _ => by simp only [W_end])
    · exact ((HX.out.far (by simp) _).alloc _)
    · exact ((HBW.out.setCell (by simp) _).alloc (by simp; omega) _).drew
  case round =>
    obtain ⟨k1, F, hk1, rfl, hT, hX, hb⟩ := hrel
    obtain ⟨wo, rfl⟩ : ∃ wo : World, wo = wr := ⟨_, rfl⟩
    cases k1 with
    | zero =>
      go_wp2_with fail
      go_ret
      exact ⟨_, _, F, rfl, hT, by omega, hb⟩
    | succ k =>
      have hki : (((k + 1 : Nat) : Int) - 1) = (k : Int) := by omega
      rw [hki]
      obtain ⟨s, hs⟩ : ∃ s, s = wo.heap.size := ⟨_, rfl⟩
      have hsg : w.heap.size + 2 ≤ s := by have := hT.1.lt; omega
      have t1 := fun o : Obj => (hT.1.alloc o).cell (i := k) (by omega)
      have t2 := fun o : Obj => (hT.1.alloc o).frozen k
      obtain ⟨bq, off, rfl, _, hbb, hcs⟩ := HC.out (by omega)
      obtain ⟨l, ho⟩ : ∃ l, bs[k]? = some l := ⟨_, List.getElem?_eq_getElem (by omega)⟩
      obtain ⟨u, hu, hol⟩ := HV.out k l ho
      obtain ⟨⟨_, A1, cap1, rfl, hnc1, hcap1, hcs1⟩, hwf1⟩ := hol
      have cq := hcs _ _ hu
      have hll := HOK.out.len ho
      have hT2 : TabAt ((wo.alloc (.cells (madeCells #[.int .i64 0] S) 2)).setCell ⟨w.heap.size + 1, k, none⟩ (.slice (some ⟨wo.heap.size, 0, none⟩) S S)) (w.heap.size + 1) wo.heap.size S bs.length (k + 1) (fun j => if j = k then .slice (some ⟨wo.heap.size, 0, none⟩) S S else F j) bs := by
        refine ⟨(hT.1.alloc _).set k _, fun k' h1 h2 => ?_⟩
        obtain ⟨g, a, b, c, d⟩ := hT.2 k' h1 h2
        exact ⟨g, a, b, by simp only [if_neg (show k' ≠ k by omega)]; exact c, (d.alloc _).setOther (by simp; omega) _⟩
      have hR2 : ((wo.alloc (.cells (madeCells #[.int .i64 0] S) 2)).setCell ⟨w.heap.size + 1, k, none⟩ (.slice (some ⟨wo.heap.size, 0, none⟩) S S)).rowIs wo.heap.size 2 S (rowP bs k 0) := by
        have hr := World.rowIs_made wo (.int .i64 0) S 2
        exact World.rowIs.congr (g := rowP bs k 0) (hr.setOther (a := ⟨w.heap.size + 1, k, none⟩) (by simp; omega) _) (fun i _ => by simp [rowP])
      have hX2 : Blk ((wo.alloc (.cells (madeCells #[.int .i64 0] S) 2)).setCell ⟨w.heap.size + 1, k, none⟩ (.slice (some ⟨wo.heap.size, 0, none⟩) S S)) w.heap.size 24 #[.int .i64 m, .slice (some ⟨bq, off, none⟩) bs.length cap] := (hX.alloc _).far (by simp) _
      have hb2 : Below w.heap.size w ((wo.alloc (.cells (madeCells #[.int .i64 0] S) 2)).setCell ⟨w.heap.size + 1, k, none⟩ (.slice (some ⟨wo.heap.size, 0, none⟩) S S)) := (hb.alloc (by omega) _).setCell (by simp) _
      have hz2 : ((wo.alloc (.cells (madeCells #[.int .i64 0] S) 2)).setCell ⟨w.heap.size + 1, k, none⟩ (.slice (some ⟨wo.heap.size, 0, none⟩) S S)).heap.size = s + 1 := by simp [hs]
      obtain ⟨wA, hwA⟩ : ∃ wA, wA = ((wo.alloc (.cells (madeCells #[.int .i64 0] S) 2)).setCell ⟨w.heap.size + 1, k, none⟩ (.slice (some ⟨wo.heap.size, 0, none⟩) S S)) := ⟨_, rfl⟩
      have HT2 := Lib.hid hT2
      have HR2 := Lib.hid hR2
      have HX2 := Lib.hid hX2
      have HB2 := Lib.hid hb2
      have HZ2 := Lib.hid hz2
      have HO := Lib.hid ho
      have HC1 := Lib.hid hcs1
      have HWA := Lib.hid hwA
      have HHS := Lib.hid hs
      clear hT2 hR2 hX2 hb2 hz2 hT hX hb hcs hcs1 hwf1 ho hu hwA hs
      go_wp2_with fail
      rw [← HWA.out] at HT2 HR2 HX2 HB2 HZ2
      rw [← HWA.out, ← HHS.out]
      rw [← HHS.out] at HT2 HR2
      clear t1 t2
      go_loopw [6] (fun i wr => ∃ f : Nat, f ≤ S ∧ i = .int .i64 f ∧ Below s wA wr ∧ wr.rowIs s 2 S (rowP bs k f)) (fun i _ => S - (intOf i).toNat)
      case atStart => exact ⟨0, Nat.zero_le _, rfl, Below.refl _ _, HR2.out⟩
      case round =>
        obtain ⟨f, hf, rfl, hb2, hr2⟩ := hrel
        obtain ⟨wp, rfl⟩ : ∃ wp : World, wp = wr := ⟨_, rfl⟩
        have HBP := Lib.hid hb2
        have HRP := Lib.hid hr2
        by_cases hlf : f < S
        · have hTp := HT2.out.below hb2 (by omega)
          obtain ⟨g', hg', c0, cs⟩ := hTp.at (k := k + 1) (Nat.le_refl _) (by omega)
          have c1 := cs f hlf
          have hk1i : IntKind.i64.wrap ((k : Int) + 1) = (k : Int) + 1 := IntWalk.i64_in _ (by omega)
          have HTP := Lib.hid hTp
          clear hTp cs hb2 hr2
          go_wp2_with fail
          go_loopw [7, 8] (fun b i wr => ∃ j : Nat, j ≤ l.length ∧ i = .int .i64 j ∧ b = .int .i64 ((l.take j).foldl (stepO (W (bs.drop (k + 1))) f) (W (bs.drop (k + 1)) f)) ∧ Below (s + 1) wp wr) (fun _ i _ => l.length - (intOf i).toNat)
          case atStart => exact ⟨0, Nat.zero_le _, rfl, rfl, Below.refl _ _⟩
          case round =>
            obtain ⟨j, hj, rfl, rfl, hb3⟩ := hrel
            have hbA : Below w.heap.size w wp := HB2.out.trans (HBP.out.mono (by omega))
            have hbw3 : Below w.heap.size w wr := hbA.trans (hb3.mono (by omega))
            have hX3 : Blk wr w.heap.size 24 #[.int .i64 m, .slice (some ⟨bq, off, none⟩) bs.length cap] := (HX2.out.below HBP.out (by omega)).below hb3 (by omega)
            have x1 : wr.cell? ⟨w.heap.size, 1, none⟩ = some (.slice (some ⟨bq, off, none⟩) bs.length cap) := hX3.cell 1
            have q1 := (hbw3.cell hbb).trans cq
            have hTr := HTP.out.below (hb3.mono (by omega)) (by omega)
            have hrr := HRP.out.of_block (hb3.block s (by omega))
            have hsz3 : s + 1 ≤ wr.heap.size := by have := hrr.lt; omega
            have HB3 := Lib.hid hb3
            have HBW3 := Lib.hid hbw3
            by_cases hlj : j < l.length
            · obtain ⟨b1, off1, rfl, _, hb1, hcs1⟩ := HC1.out (by omega)
              obtain ⟨o, ho⟩ : ∃ o, l[j]? = some o := ⟨_, List.getElem?_eq_getElem hlj⟩
              have e0 := (hbw3.cell hb1).trans (hcs1 _ _ (Off.all_fst l j o ho))
              have e1 : wr.cell? ⟨b1, off1 + j * 2 + 1, none⟩ = some (.int .i64 o.c) := (hbw3.cell hb1).trans (hcs1 _ _ (Off.all_snd l j o ho))
              obtain ⟨ho1, ho2, ho3, ho4⟩ := HOK.out.offer HO.out ho
              have hB0 := W_nonneg (bs.drop (k + 1)) (andNot f o.g)
              have hB1 := HOK.out.W_le (k + 1) (andNot f o.g)
              have hsucc : (l.take (j + 1)).foldl (stepO (W (bs.drop (k + 1))) f) (W (bs.drop (k + 1)) f) = stepO (W (bs.drop (k + 1))) f ((l.take j).foldl (stepO (W (bs.drop (k + 1))) f) (W (bs.drop (k + 1)) f)) o := by
                rw [List.take_add_one, ho, List.foldl_append]
                rfl
              have hbits : bits .andNot .u32 (o.g : Int) (f : Int) = ((andNot o.g f : Nat) : Int) := u32_andNot_nat o.g f (by omega) (by omega)
              have hbits2 : bits .andNot .u32 (f : Int) (o.g : Int) = ((andNot f o.g : Nat) : Int) := u32_andNot_nat f o.g (by omega) (by omega)
              have hfo : andNot f o.g < S := Nat.lt_of_le_of_lt (andNot_le _ _) hlf
              obtain ⟨g2, hg2, p0, ps⟩ := hTr.at (k := k + 1) (Nat.le_refl _) (by omega)
              have p1 := ps _ hfo
              have p0' := cellAlloc p0
              have p1' := cellAlloc p1
              have hwrap : IntKind.u32.wrap (f : Int) = f := IntWalk.u32_in _ (by omega)
              have HSU := Lib.hid hsucc
              clear hcs1 hsucc hb3 hbw3 hX3 hTr hrr ho ps hbA c0 c1
              generalize hbest : (l.take j).foldl (stepO (W (bs.drop (k + 1))) f) (W (bs.drop (k + 1)) f) = best at *
              have HBE := Lib.hid hbest
              clear hbest
              by_cases hfit : andNot o.g f = 0
              · have hfb : (((andNot o.g f : Nat) : Int) == 0) = true := by simp [hfit]
                have HFI := Lib.hid hfit
                have hsum : IntKind.i64.wrap (o.c + W (bs.drop (k + 1)) (andNot f o.g)) = o.c + W (bs.drop (k + 1)) (andNot f o.g) := IntWalk.i64_in _ (by omega)
                clear hfit
                go_wp2_with fail
                go_region
                go_wp2_with fail
                go_roundw
                case rel =>
                  refine ⟨j + 1, by omega, by go_num, ?_, (HB3.out.alloc (by omega) _).drew⟩
                  rw [HSU.out]
                  unfold stepO
                  rw [if_pos HFI.out]
                  congr 1
                  split <;> omega
                case measure => simp [intOf]; omega
              · have hfb : (((andNot o.g f : Nat) : Int) == 0) = false := by simp [hfit]
                have HFI := Lib.hid hfit
                clear hfit
                go_wp2_with fail
                go_roundw
                case rel =>
                  refine ⟨j + 1, by omega, by go_num, ?_, HB3.out.alloc (by omega) _⟩
                  rw [HSU.out]
                  unfold stepO
                  rw [if_neg HFI.out]
                case measure => simp [intOf]; omega
            · obtain rfl : j = l.length := by omega
              rw [List.take_length, ← W_drop HO.out f]
              have p0 := hTr.1.cell (i := k) (by omega)
              simp only [if_true] at p0
              have r0 := hrr.cell hlf
              have rf := hrr.frozen f
              have hw0 := W_nonneg (bs.drop k) f
              have hw1 := HOK.out.W_le k f
              have HRR := Lib.hid hrr
              clear hb3 hbw3 hX3 hTr hrr hbA c0 c1
              go_wp2_with fail
              go_roundw
              case rel =>
                refine ⟨f + 1, by omega, by go_num, (HBP.out.trans (HB3.out.mono (by omega))).setCell (by simp) _, (HRR.out.set f _).congr fun i hi => ?_⟩
                unfold rowP
                by_cases hif : i = f
                · subst hif
                  simp
                · simp only [if_neg hif]
                  by_cases hlt : i < f
                  · rw [if_pos hlt, if_pos (by omega)]
                  · rw [if_neg hlt, if_neg (by omega)]
              case measure => simp [intOf]; omega
        · obtain rfl : f = S := by omega
          go_wp2_with fail
          go_roundw
          case rel =>
            have hT3 := HT2.out.below hb2 (by omega)
            refine ⟨k, _, by omega, by go_num, ⟨hT3.1, fun k' h1 h2 => ?_⟩, HX2.out.below hb2 (by omega), HB2.out.trans (hb2.mono (by omega))⟩
            by_cases hkk : k' = k
            · subst hkk
              exact ⟨s, by omega, hr2.lt, by simp, hr2.congr fun i hi => by simp [rowP, hi]⟩
            · obtain ⟨g, a, b, c, d⟩ := hT3.2 k' (by omega) h2
              exact ⟨g, a, by have := d.lt; omega, c, d⟩
          case measure => simp [intOf]
end Go.Proofs.Ytcigobiolbojhaa.Vb

/- The reference of layer 17: W, Without, Won. -/
namespace Go.Proofs.Ytcigobiolbojhaa.Vb
open Go.RowKit

theorem Buys.wf {w : World} {R : Nat → Prop} {v : Value} {bs : List (List Off)} (h : Buys w R v bs) : ∀ l ∈ bs, ∀ o ∈ l, o.wf := by
  obtain ⟨vs, _, hvs⟩ := h
  intro l hl o ho
  obtain ⟨k, hk, rfl⟩ := List.getElem_of_mem hl
  obtain ⟨_, _, h⟩ := hvs k _ (List.getElem?_eq_getElem hk)
  exact h.2 o ho

theorem allOf_nat {m : Nat} (h : m ≤ 10) : allOf (m : Int) = 2 ^ m - 1 := by unfold allOf; rw [if_neg (by omega), Int.toNat_natCast]

set_option maxHeartbeats 800000 in
theorem refW_any (n : Int) (bs : List (List Off)) (v : Value) (R : Nat → Prop) (w : World) (hl : Buys w R v bs) (hi : instE n bs = 0) :
    Calls Try.prog 81 #[.agg #[.int .i64 n, v]] w fun e w' => e = .returned (.int .i64 (W bs (allOf n))) ∧ Below w.heap.size w w' := by
  have hok := (okb_of hl.wf hi).1
  obtain ⟨hn1, hn2, _⟩ := instE_zero hi
  obtain ⟨m, rfl⟩ := Int.eq_ofNat_of_zero_le (show 0 ≤ n by omega)
  have hm0 : 1 ≤ m := by omega
  have hm1 : m ≤ 10 := by omega
  obtain ⟨S, hS⟩ : ∃ S, S = 2 ^ m := ⟨_, rfl⟩
  have hS1 : S ≤ 1024 := by rw [hS]; exact Nat.le_trans (Nat.pow_le_pow_right (by omega) hm1) (by decide)
  have hS0 : 0 < S := by rw [hS]; exact Nat.two_pow_pos m
  have hal : allOf (m : Int) = S - 1 := by rw [allOf_nat hm1, hS]
  obtain ⟨vs, ⟨_, A, cap, rfl, _⟩, _⟩ := id hl
  have HB := Lib.hid hl
  have HAL := Lib.hid hal
  have HS := Lib.hid hS
  have HOK := Lib.hid hok
  clear hl hi hal hS hok
  have c0 : (w.alloc (.cells #[.int .i64 m, .slice A bs.length cap] 24)).cell? ⟨w.heap.size, 0, none⟩ = some (.int .i64 m) := by simp
  have c1 : (w.alloc (.cells #[.int .i64 m, .slice A bs.length cap] 24)).cell? ⟨w.heap.size, 1, none⟩ = some (.slice A bs.length cap) := by simp
  go_enter Try.func81, Try.ntmps81
  go_wp2_with (go_at_call 116; refine (table_any m S hm0 hm1 HS.out bs _ R _ (HB.out.alloc _) HOK.out).mono ?_; rintro e w1 ⟨gT, hi, F, rfl, hT, hg, hb1⟩; obtain ⟨g, hg2, p0, ps⟩ := hT.at (k := 0) (Nat.zero_le _) (Nat.zero_le _); have p1 := ps (S - 1) (by omega); have HB1 := Lib.hid hb1; clear hT hb1 ps)
  have hsub : IntKind.i64.wrap ((S : Int) - 1) = (S : Int) - 1 := IntWalk.i64_in _ (by omega)
  have hidx : ((S : Int) - 1).toNat = S - 1 := by omega
  go_wp2_with fail
  go_quiet (fail)
  go_wp2_with fail
  go_ret
  exact ⟨by rw [HAL.out]; rfl, below_drewN (((Below.refl _ _).alloc (Nat.le_refl _) _).trans (HB1.out.mono (by simp))) _⟩

set_option maxHeartbeats 800000 in
theorem refWithout_any (n : Int) (bs : List (List Off)) (buyer : Int) (v : Value) (R : Nat → Prop) (w : World) (hl : Buys w R v bs) :
    Calls Try.prog 25 #[.agg #[.int .i64 n, v], .int .i64 buyer] w fun e w' => e = .returned (.tuple #[.int .i64 (woW n bs buyer), .int .i64 (withE n bs buyer [])]) ∧ Below w.heap.size w w' := by
  obtain ⟨vs, ⟨_, A, cap, rfl, _⟩, _⟩ := id hl
  have HB := Lib.hid hl
  clear hl
  by_cases he : withE n bs buyer [] = 0
  · have hW : woW n bs buyer = W (bs.set buyer.toNat []) (allOf n) := by unfold woW; rw [if_pos he]
    have hI := instE_nil (i := buyer.toNat) (withE_inst he)
    have HW := Lib.hid hW
    have HE := Lib.hid he
    have HI := Lib.hid hI
    clear hW he hI
    go_enter Try.func25, Try.ntmps25
    go_wp2_with (first
      | (go_at_call 85; refine (refWith_ok n bs buyer [] _ _ R (fun _ => True) _ (HB.out.alloc _) (Offs.nil _ _) HE.out).mono ?_; rintro e w1 ⟨A1, cap1, rfl, hob, hb1⟩; have HOB := Lib.hid hob; have HB1 := Lib.hid (hb1.mono (B' := w.heap.size + 1) (by simp)); clear hob hb1)
      | (go_at_call 81; refine (refW_any n (bs.set buyer.toNat []) (.slice A1 bs.length cap1) _ _ (HOB.out.alloc _) HI.out).mono ?_; rintro e w2 ⟨rfl, hb2⟩; have HB2 := Lib.hid hb2; clear hb2))
    go_ret2
    refine ⟨by rw [HW.out, HE.out]; rfl, ?_⟩
    have h1 := (one_new HB1.out).2.2.2.2
    exact (h1.alloc h1.size _).trans (HB2.out.mono (by have := h1.size; simp; omega))
  · have hW : woW n bs buyer = 0 := by unfold woW; rw [if_neg he]
    have hcb : (withE n bs buyer [] != 0) = true := by simpa using he
    have HW := Lib.hid hW
    have HE := Lib.hid he
    clear hW he
    go_enter Try.func25, Try.ntmps25
    go_wp2_with (go_at_call 85; refine (refWith_err n bs buyer [] _ _ R (fun _ => True) _ (HB.out.alloc _) (Offs.nil _ _) HE.out).mono ?_; rintro e w1 ⟨rfl, hb1⟩; have HB1 := Lib.hid (hb1.mono (B' := w.heap.size + 1) (by simp)); clear hb1)
    go_ret2
    refine ⟨by rw [HW.out]; rfl, ?_⟩
    have h1 := (one_new HB1.out).2.2.2.2
    exact h1.alloc h1.size _

theorem coinAt_neg {bs : List (List Off)} {i : Nat} {c : Int} (h : c < 0) : coinAt bs i c = 0 := by unfold coinAt; rw [if_pos h]
theorem coinAt_some {bs : List (List Off)} {i j : Nat} {l : List Off} {o : Off} (h1 : bs[i]? = some l) (h2 : l[j]? = some o) : coinAt bs i (j : Int) = o.c := by
  unfold coinAt
  rw [if_neg (by omega), h1]
  simp [h2]

set_option maxHeartbeats 800000 in
theorem refWon_any (n : Int) (bs : List (List Off)) (cs : List Int) (v vc : Value) (R Rc : Nat → Prop) (k : Nat) (c : Int) (kI : Int) (w : World) (hl : Buys w R v bs) (hcs : Sl w Rc vc cs.length 1 (ints cs))
    (hk : cs[k]? = some c) (hkI : kI = k) (hgood : c = -1 ∨ ∃ (j : Nat) (l : List Off) (o : Off), c = (j : Int) ∧ bs[k]? = some l ∧ l[j]? = some o) :
    Calls Try.prog 82 #[.agg #[.int .i64 n, v], vc, .int .i64 kI] w fun e w' => e = .returned (.int .i64 (coinAt bs k c)) ∧ Below w.heap.size w w' := by
  subst hkI
  obtain ⟨vs, ⟨hlen, A, cap, rfl, hncap, hcap, hcells⟩, hvs⟩ := id hl
  obtain ⟨_, Ac, capc, rfl, hncapc, hcapc, hcellsc⟩ := hcs
  unfold maxLen at hcap hcapc
  have hkl : k < cs.length := (List.getElem?_eq_some_iff.1 hk).1
  have hcc : (ints cs)[k]? = some (.int .i64 c) := by simp [ints, hk]
  obtain ⟨bc, offc, rfl, _, hbc, hcs1⟩ := hcellsc (by omega)
  have c0 := cellAlloc (hcs1 _ _ hcc)
  clear hcs1 hcc hl hlen
  rcases hgood with rfl | ⟨j, l, o, rfl, h1, h2⟩
  · have hz := coinAt_neg (bs := bs) (i := k) (c := -1) (by decide)
    have HZ := Lib.hid hz
    clear hz hcells hvs hk
    go_enter Try.func82, Try.ntmps82
    go_wp2_with fail
    go_ret
    exact ⟨by rw [HZ.out]; rfl, (Below.refl _ _).alloc (Nat.le_refl _) _⟩
  · have hkb : k < bs.length := (List.getElem?_eq_some_iff.1 h1).1
    have hjl : j < l.length := (List.getElem?_eq_some_iff.1 h2).1
    have hz := coinAt_some h1 h2
    obtain ⟨bb, off, rfl, _, hbb, hcs2⟩ := hcells (by omega)
    obtain ⟨u, hu, hol⟩ := hvs k l h1
    have c1 := cellAlloc (hcs2 _ _ hu)
    obtain ⟨⟨_, A1, cap1, rfl, hnc1, hcap1, hcs3⟩, _⟩ := hol
    unfold maxLen at hcap1
    obtain ⟨b1, off1, rfl, _, hb1, hcs3⟩ := hcs3 (by omega)
    have c2 : ∀ O : Obj, (w.alloc O).cell? ⟨b1, off1 + j * 2 + 1, none⟩ = some (.int .i64 o.c) := cellAlloc (hcs3 _ _ (Off.all_snd l j o h2))
    have hj0 : (0 : Int) ≤ (j : Int) := by omega
    have HZ := Lib.hid hz
    clear hz hcs2 hcs3 hcells hvs hk h1 h2 hu
    go_enter Try.func82, Try.ntmps82
    go_wp2_with fail
    go_quiet (fail)
    go_wp2_with fail
    go_ret
    exact ⟨by rw [HZ.out]; rfl, below_drewN ((Below.refl _ _).alloc (Nat.le_refl _) _) _⟩
end Go.Proofs.Ytcigobiolbojhaa.Vb

/- The reference of layer 17: Best. -/
namespace Go.Proofs.Ytcigobiolbojhaa.Vb
open Go.RowKit

set_option maxRecDepth 100000 in
set_option maxHeartbeats 3200000 in
theorem refBest_any (n : Int) (bs : List (List Off)) (v : Value) (R : Nat → Prop) (w : World) (hl : Buys w R v bs) (hi : instE n bs = 0) :
    Calls Try.prog 80 #[.agg #[.int .i64 n, v]] w fun e w' => ∃ A' cap', e = .returned (.slice A' bs.length cap') ∧
      w'.ownsRow w.heap.size 3 1 (.slice A' bs.length cap') bs.length (ints (bestC n bs)) ∧ Below w.heap.size w w' := by
  have hok := (okb_of hl.wf hi).1
  obtain ⟨hn1, hn2, hl32, _⟩ := instE_zero hi
  obtain ⟨m, rfl⟩ := Int.eq_ofNat_of_zero_le (show 0 ≤ n by omega)
  have hm0 : 1 ≤ m := by omega
  have hm1 : m ≤ 10 := by omega
  obtain ⟨S, hS⟩ : ∃ S, S = 2 ^ m := ⟨_, rfl⟩
  have hS1 : S ≤ 1024 := by rw [hS]; exact Nat.le_trans (Nat.pow_le_pow_right (by omega) hm1) (by decide)
  have hS0 : 0 < S := by rw [hS]; exact Nat.two_pow_pos m
  have hal : bestC (m : Int) bs = choose bs (S - 1) := by unfold bestC; rw [allOf_nat hm1, hS]
  have hall : ((2 ^ m - 1 : Nat) : Int) = ((S - 1 : Nat) : Int) := by rw [hS]
  obtain ⟨vs, ⟨_, A, cap, rfl, hnc, hcm, hcs⟩, hvs⟩ := id hl
  have HB := Lib.hid hl
  have HAL := Lib.hid hal
  have HALL := Lib.hid hall
  have HS := Lib.hid hS
  have HOK := Lib.hid hok
  have HCS := Lib.hid hcs
  have HVS := Lib.hid hvs
  clear hl hi hal hS hok hall hcs hvs hcm
  go_enter Try.func80, Try.ntmps80
  go_wp2_with (first
    | (go_at_call 116; refine (table_any m S hm0 hm1 HS.out bs _ R _ (HB.out.alloc _) HOK.out).mono ?_; rintro e w1 ⟨gT, hi, F, rfl, hT, hg, hb1⟩; obtain ⟨hX, hs1, hbw⟩ := one_blk' hb1; have x0 : w1.cell? ⟨w.heap.size, 0, none⟩ = some (.int .i64 m) := hX.cell 0; have x1 : w1.cell? ⟨w.heap.size, 1, none⟩ = some (.slice A bs.length cap) := hX.cell 1; have HT := Lib.hid hT; have HX := Lib.hid hX; have HBW := Lib.hid hbw; clear hb1 hT hX hbw)
    | (go_at_call 117; refine (refAll_any m hm0 hm1 _).mono ?_; rintro e w2 ⟨rfl, rfl⟩; rw [HALL.out]))
  go_loopw [4, 5, 6] (fun fr sl i wr => ∃ (k fi : Nat) (cs : List Int) (A' : Option Addr) (cap' : Nat), k ≤ bs.length ∧ i = .int .i64 k ∧ fr = .int .u32 fi ∧ sl = .slice A' k cap' ∧ fi < S ∧ choose bs (S - 1) = cs ++ choose (bs.drop k) fi ∧
      wr.ownsRow w1.heap.size 3 1 (.slice A' k cap') k (ints cs) ∧ Below w1.heap.size w1 wr)
    (fun _ _ i _ => bs.length - (intOf i).toNat)
  case atStart => exact ⟨0, S - 1, [], none, 0, Nat.zero_le _, rfl, rfl, rfl, by omega, rfl, World.ownsRow_nil _ _ _ _, Below.refl _ _⟩
  case round =>
    obtain ⟨wo, rfl⟩ : ∃ wo : World, wo = wr := ⟨_, rfl⟩
    obtain ⟨k, fi, cs, A', cap', hk, rfl, rfl, rfl, hfi, hch, hown, hb⟩ := hrel
    have HOWN := Lib.hid hown
    have HCH := Lib.hid hch
    have HBB := Lib.hid hb
    have hxo : Blk wo w.heap.size 24 #[.int .i64 m, .slice A bs.length cap] := HX.out.grow hb
    have o1 : wo.cell? ⟨w.heap.size, 1, none⟩ = some (.slice A bs.length cap) := hxo.cell 1
    have hbo : Below w.heap.size w wo := HBW.out.trans (hb.mono (by omega))
    have hto := HT.out.grow hb
    have hlo := hb.size
    clear x0 x1
    by_cases hlt : k < bs.length
    · obtain ⟨bq, off, rfl, _, hbq, hcs⟩ := HCS.out (by omega)
      obtain ⟨l, hl⟩ : ∃ l, bs[k]? = some l := ⟨_, List.getElem?_eq_getElem hlt⟩
      obtain ⟨u, hu, hol⟩ := HVS.out k l hl
      have cl := hcs k u hu
      have HL := Lib.hid hl
      have hl8 : l.length ≤ 8 := HOK.out.len hl
      obtain ⟨⟨_, A1, cap1, rfl, hnc1, hcm1, hcs1⟩, _⟩ := hol
      unfold maxLen at hcm1
      have HC1 := Lib.hid hcs1
      have HCL := Lib.hid cl
      have HXO := Lib.hid hxo
      have HBO := Lib.hid hbo
      have HTO := Lib.hid hto
      have hk0 : (0 : Int) ≤ (k : Int) := by omega
      clear hcs hu hl hcs1 cl hxo hbo hto hb hown hch
      go_wp2_with fail
      clear o1
      go_loopw [7, 8] (fun nn i wr2 => ∃ j : Nat, j ≤ l.length ∧ i = .int .i64 j ∧ ((nn = .int .i64 (-1) ∧ ∀ (i : Nat) (x : Off), i < j → l[i]? = some x → pickB (W (bs.drop (k + 1))) fi (W (bs.drop k) fi) x = false) ∨
            ∃ (jj : Nat) (o : Off), nn = .int .i64 jj ∧ l[jj]? = some o ∧ pickB (W (bs.drop (k + 1))) fi (W (bs.drop k) fi) o = true ∧ ∀ (i : Nat) (x : Off), i < jj → l[i]? = some x → pickB (W (bs.drop (k + 1))) fi (W (bs.drop k) fi) x = false) ∧
          Below wo.heap.size wo wr2)
        (fun _ i _ => l.length - (intOf i).toNat)
      case atStart => exact ⟨0, Nat.zero_le _, rfl, .inl ⟨rfl, fun i x h => by omega⟩, Below.refl _ _⟩
      case round =>
        obtain ⟨j, hj, rfl, hnn, hb2⟩ := hrel
        have hx2 : Blk wr w.heap.size 24 #[.int .i64 m, .slice (some ⟨bq, off, none⟩) bs.length cap] := HXO.out.grow hb2
        have x1 : wr.cell? ⟨w.heap.size, 1, none⟩ = some (.slice (some ⟨bq, off, none⟩) bs.length cap) := hx2.cell 1
        have hbw2 : Below w.heap.size w wr := HBO.out.trans (hb2.mono (by omega))
        have q1 := (hbw2.cell hbq).trans HCL.out
        have ht2 := HTO.out.grow hb2
        have hl2 := hb2.size
        have HB2 := Lib.hid hb2
        rcases hnn with ⟨rfl, hno⟩ | ⟨jj, o, rfl, ho, hpb, hno⟩
        · by_cases hlj : j < l.length
          · obtain ⟨b1, off1, rfl, _, hb1, hcs1⟩ := HC1.out (by omega)
            obtain ⟨o, ho⟩ : ∃ o, l[j]? = some o := ⟨_, List.getElem?_eq_getElem hlj⟩
            have o0 := (hbw2.cell hb1).trans (hcs1 _ _ (Off.all_fst l j o ho))
            have o1 : wr.cell? ⟨b1, off1 + j * 2 + 1, none⟩ = some (.int .i64 o.c) := (hbw2.cell hb1).trans (hcs1 _ _ (Off.all_snd l j o ho))
            obtain ⟨ho1, ho2, ho3, ho4⟩ := HOK.out.offer HL.out ho
            have hB0 := W_nonneg (bs.drop (k + 1)) (andNot fi o.g)
            have hB1 := HOK.out.W_le (k + 1) (andNot fi o.g)
            have hbits : bits .andNot .u32 (o.g : Int) (fi : Int) = ((andNot o.g fi : Nat) : Int) := u32_andNot_nat o.g fi (by omega) (by omega)
            have hbits2 : bits .andNot .u32 (fi : Int) (o.g : Int) = ((andNot fi o.g : Nat) : Int) := u32_andNot_nat fi o.g (by omega) (by omega)
            have hfo : andNot fi o.g < S := Nat.lt_of_le_of_lt (andNot_le _ _) hfi
            obtain ⟨ga, _, p0, ps⟩ := ht2.at (k := k + 1) (Nat.zero_le _) (by omega)
            obtain ⟨gb, _, p2, ps2⟩ := ht2.at (k := k) (Nat.zero_le _) (by omega)
            have p1 := cellAlloc (ps _ hfo)
            have p3 := cellAlloc (ps2 _ hfi)
            have p0 := cellAlloc p0
            have p2 := cellAlloc p2
            have HO := Lib.hid ho
            have HNO := Lib.hid hno
            clear hcs1 ho hno hb2 hx2 hbw2 ht2 ps ps2
            by_cases hfit : andNot o.g fi = 0
            · have hfb : (((andNot o.g fi : Nat) : Int) == 0) = true := by simp [hfit]
              have HFI := Lib.hid hfit
              have hsum : IntKind.i64.wrap (o.c + W (bs.drop (k + 1)) (andNot fi o.g)) = o.c + W (bs.drop (k + 1)) (andNot fi o.g) := IntWalk.i64_in _ (by omega)
              have hk1 : IntKind.i64.wrap ((k : Int) + 1) = (k : Int) + 1 := IntWalk.i64_in _ (by omega)
              clear hfit
              by_cases heq : o.c + W (bs.drop (k + 1)) (andNot fi o.g) = W (bs.drop k) fi
              · have hpb : pickB (W (bs.drop (k + 1))) fi (W (bs.drop k) fi) o = true := by simp [pickB, HFI.out, heq]
                have HPB := Lib.hid hpb
                have heb : (o.c + W (bs.drop (k + 1)) (andNot fi o.g) == W (bs.drop k) fi) = true := by simp [heq]
                clear heq hpb
                go_wp2_with fail
                go_quiet (fail)
                go_wp2_with fail
                go_roundw
                case rel =>
                  exact ⟨j + 1, by omega, by go_num, .inr ⟨j, o, rfl, HO.out, HPB.out, HNO.out⟩, below_drewN (HB2.out.alloc (by omega) _) _⟩
                case measure => simp [intOf]; omega
              · have hpb : pickB (W (bs.drop (k + 1))) fi (W (bs.drop k) fi) o = false := by simp [pickB, heq]
                have HPB := Lib.hid hpb
                have heb : (o.c + W (bs.drop (k + 1)) (andNot fi o.g) == W (bs.drop k) fi) = false := by simp [heq]
                clear heq hpb
                go_wp2_with fail
                go_quiet (fail)
                go_wp2_with fail
                go_roundw
                case rel =>
                  refine ⟨j + 1, by omega, by go_num, .inl ⟨rfl, fun i x hi hx => ?_⟩, below_drewN (HB2.out.alloc (by omega) _) _⟩
                  by_cases hij : i < j
                  · exact HNO.out i x hij hx
                  · obtain rfl : i = j := by omega
                    rw [HO.out] at hx
                    cases hx
                    exact HPB.out
                case measure => simp [intOf]; omega
            · have hfb : (((andNot o.g fi : Nat) : Int) == 0) = false := by simp [hfit]
              have hpb : pickB (W (bs.drop (k + 1))) fi (W (bs.drop k) fi) o = false := by simp [pickB, hfit]
              have HPB := Lib.hid hpb
              clear hfit hpb
              go_wp2_with fail
              go_quiet (fail)
              go_wp2_with fail
              go_roundw
              case rel =>
                refine ⟨j + 1, by omega, by go_num, .inl ⟨rfl, fun i x hi hx => ?_⟩, below_drewN (HB2.out.alloc (by omega) _) _⟩
                by_cases hij : i < j
                · exact HNO.out i x hij hx
                · obtain rfl : i = j := by omega
                  rw [HO.out] at hx
                  cases hx
                  exact HPB.out
              case measure => simp [intOf]; omega
          · obtain rfl : j = l.length := by omega
            have hpn : pickN (W (bs.drop (k + 1))) fi (W (bs.drop k) fi) l = (-1, fi) := pickN_none hno
            have HPN := Lib.hid hpn
            have HOT := Lib.hid (own_grow HOWN.out hb2)
            clear hno hb2 hpn hx2 hbw2 ht2
            go_wp2_with (at_builtin; refine wpList_app _ rfl (.tmp 87) (.tmp 89) et_int rfl w1.heap.size (.slice A' k cap') k (ints cs) rfl (HOT.out.alloc _) _ _ 1 _ rfl (Sl.new wr #[.int .i64 (-1)] _ 1 1 (by unfold maxLen; omega) rfl) (by simp [Value.oneCell']) (by omega) (by unfold maxLen; omega) (by simp; omega) ?_; intro A3 cap3 w3 hown3 hg3 hloc3; have HG3 := Lib.hid hg3; have HO3 := Lib.hid hown3; clear hg3 hown3 hloc3)
            go_roundw
            case rel =>
              refine ⟨k + 1, fi, cs ++ [(-1)], A3, cap3, by omega, by go_num, rfl, rfl, hfi, ?_, ?_, ?_⟩
              · rw [HCH.out, choose_drop HL.out fi, HPN.out]
                simp
              · simpa [ints] using HO3.out
              · exact ((HBB.out.trans (HB2.out.mono hlo)).alloc (by omega) _).grown HG3.out (by simp; omega) (fun g e => (HOT.out.lt g e).1)
            case measure => simp [intOf]; omega
        · have hpn := pickN_some ho hpb hno
          have hjl : jj < l.length := (List.getElem?_eq_some_iff.1 ho).1
          obtain ⟨b1, off1, rfl, _, hb1, hcs1⟩ := HC1.out (by omega)
          have o0 := (hbw2.cell hb1).trans (hcs1 _ _ (Off.all_fst l jj o ho))
          obtain ⟨ho1, ho2, ho3, ho4⟩ := HOK.out.offer HL.out ho
          have hbits2 : bits .andNot .u32 (fi : Int) (o.g : Int) = ((andNot fi o.g : Nat) : Int) := u32_andNot_nat fi o.g (by omega) (by omega)
          have hfo : andNot fi o.g < S := Nat.lt_of_le_of_lt (andNot_le _ _) hfi
          have hjj : (0 : Int) ≤ (jj : Int) := by omega
          have HPN := Lib.hid hpn
          have HOT := Lib.hid (own_grow HOWN.out hb2)
          clear hno hb2 hpn hx2 hbw2 ht2 ho hpb hcs1
          by_cases hlj : j < l.length
          all_goals
            go_wp2_with (at_builtin; refine wpList_app _ rfl (.tmp 87) (.tmp 89) et_int rfl w1.heap.size (.slice A' k cap') k (ints cs) rfl (HOT.out.alloc _) _ _ 1 _ rfl (Sl.new wr #[.int .i64 (jj : Nat)] _ 1 1 (by unfold maxLen; omega) rfl) (by simp [Value.oneCell']) (by omega) (by unfold maxLen; omega) (by simp; omega) ?_; intro A3 cap3 w3 hown3 hg3 hloc3; have HG3 := Lib.hid hg3; have HO3 := Lib.hid hown3; clear hg3 hown3 hloc3)
            go_roundw
            case rel =>
              refine ⟨k + 1, andNot fi o.g, cs ++ [((jj : Nat) : Int)], A3, cap3, by omega, by go_num, rfl, rfl, hfo, ?_, ?_, ?_⟩
              · rw [HCH.out, choose_drop HL.out fi, HPN.out]
                simp
              · simpa [ints] using HO3.out
              · exact ((HBB.out.trans (HB2.out.mono hlo)).alloc (by omega) _).grown HG3.out (by simp; omega) (fun g e => (HOT.out.lt g e).1)
            case measure => simp [intOf]; omega
    · obtain rfl : k = bs.length := by omega
      have hcs : choose bs (S - 1) = cs := by rw [hch]; simp [choose]
      have HCC := Lib.hid hcs
      have HBO := Lib.hid hbo
      clear hcs hch hown hb hxo hbo hto
      go_wp2_with fail
      go_ret
      refine ⟨A', cap', rfl, ?_, HBO.out⟩
      rw [HAL.out, HCC.out]
      exact own_mono HOWN.out (by omega)
end Go.Proofs.Ytcigobiolbojhaa.Vb

/- The reference of layer 17: Costs. -/
namespace Go.Proofs.Ytcigobiolbojhaa.Vb
open Go.RowKit

theorem two_blk' {w w1 : World} {cs ds : Array Value} {t u : TypeId} (hb : Below ((w.alloc (.cells cs t)).alloc (.cells ds u)).heap.size ((w.alloc (.cells cs t)).alloc (.cells ds u)) w1) :
    Blk w1 w.heap.size t cs ∧ Blk w1 (w.heap.size + 1) u ds ∧ w.heap.size + 2 ≤ w1.heap.size ∧ Below w.heap.size w w1 := by
  have hb' := hb.mono (B' := w.heap.size + 2) (by simp)
  have hs := hb'.size
  simp at hs
  exact ⟨(two_blk hb').1, (two_blk hb').2, hs, (((Below.refl _ _).alloc (Nat.le_refl _) _).alloc (by simp) _).trans (hb'.mono (by omega))⟩

theorem own_alloc {w : World} {base : Nat} {e : TypeId} {sz n : Nat} {v : Value} {xs : List Value} (h : w.ownsRow base e sz v n xs) (o : Obj) : (w.alloc o).ownsRow base e sz v n xs :=
  own_grow h ((Below.refl _ _).alloc (Nat.le_refl _) o)
theorem three_own {w : World} {base : Nat} {e t : TypeId} {sz n g : Nat} {v a b c : Value} {xs : List Value} {cs : Array Value} (h : w.ownsRow base e sz v n xs) (hb : Blk w g t cs) (he : e ≠ t) :
    (((w.setCell ⟨g, 0, none⟩ a).setCell ⟨g, 1, none⟩ b).setCell ⟨g, 2, none⟩ c).ownsRow base e sz v n xs := by
  have hne := own_ne_blk h hb he
  have hr : ∀ x, some g = some x → v.ownBlock ≠ some x := fun x e => by injection e with e; subst e; exact hne
  exact own_far (own_far (own_far h (grownBy_setCell w ⟨g, 0, none⟩ a) hr) (grownBy_setCell _ ⟨g, 1, none⟩ b) hr) (grownBy_setCell _ ⟨g, 2, none⟩ c) hr

/-- what stands behind the making of the answer -/
def PaidCut (n : Int) (bs : List (List Off)) (w1 wr : World) (p : Value) : Prop := ∃ (gp : Nat) (A1 : Option Addr) (c1 : Nat), p = .pointer (some ⟨gp, 0, none⟩) ∧ w1.heap.size ≤ gp ∧
    Blk wr gp 36 #[.slice A1 bs.length c1, .int .i64 (W bs (allOf n)), .slice none 0 0] ∧ wr.ownsRow w1.heap.size 3 1 (.slice A1 bs.length c1) bs.length (ints (bestC n bs)) ∧ Below w1.heap.size w1 wr
section
variable {n : Int} {bs : List (List Off)} {w1 w2 w3 : World} {A1 : Option Addr} {c1 : Nat}
theorem paidCut_c (hown : w2.ownsRow w1.drew.heap.size 3 1 (.slice A1 bs.length c1) bs.length (ints (bestC n bs))) (hb2 : Below w1.drew.heap.size w1.drew w2) (hb3 : Below w2.heap.size w2 w3) :
    PaidCut n bs w1 (w3.alloc (.cells #[.slice A1 bs.length c1, .int .i64 (W bs (allOf n)), .slice none 0 0] 36)) (.pointer (some ⟨w3.heap.size, 0, none⟩)) := by
  have h2 : w1.heap.size ≤ w2.heap.size := by have := hb2.size; simpa using this
  have h3 := hb3.size
  exact ⟨w3.heap.size, A1, c1, rfl, by omega, Blk.new w3 _ _, own_alloc (own_grow hown hb3) _, (((Below.refl _ _).drew.trans hb2).trans (hb3.mono h2)).alloc (by simp; omega) _⟩
theorem paidCut_b (hown : w2.ownsRow w1.drew.heap.size 3 1 (.slice A1 bs.length c1) bs.length (ints (bestC n bs))) (hb2 : Below w1.drew.heap.size w1.drew w2)
    (hb3 : Below (w2.alloc (.cells #[.slice none 0 0, .int .i64 0, .slice none 0 0] 36)).heap.size (w2.alloc (.cells #[.slice none 0 0, .int .i64 0, .slice none 0 0] 36)) w3) (hp3 : Blk w3 w2.heap.size 36 #[.slice none 0 0, .int .i64 0, .slice none 0 0]) :
    PaidCut n bs w1 (((w3.setCell ⟨w2.heap.size, 0, none⟩ (.slice A1 bs.length c1)).setCell ⟨w2.heap.size, 1, none⟩ (.int .i64 (W bs (allOf n)))).setCell ⟨w2.heap.size, 2, none⟩ (.slice none 0 0)) (.pointer (some ⟨w2.heap.size, 0, none⟩)) := by
  have h2 : w1.heap.size ≤ w2.heap.size := by have := hb2.size; simpa using this
  refine ⟨w2.heap.size, A1, c1, rfl, h2, ((hp3.set_ 0 _).set_ 1 _).set_ 2 _, three_own (own_grow (own_alloc hown _) hb3) hp3 (by decide), ?_⟩
  exact ((((((Below.refl _ _).drew.trans hb2).alloc h2 _).trans (hb3.mono (by simp; omega))).setCell (p := ⟨w2.heap.size, 0, none⟩) h2 _).setCell (p := ⟨w2.heap.size, 1, none⟩) h2 _).setCell (p := ⟨w2.heap.size, 2, none⟩) h2 _
theorem paidCut_a (hown : w2.ownsRow (w1.alloc (.cells #[.slice none 0 0, .int .i64 0, .slice none 0 0] 36)).drew.heap.size 3 1 (.slice A1 bs.length c1) bs.length (ints (bestC n bs)))
    (hb2 : Below (w1.alloc (.cells #[.slice none 0 0, .int .i64 0, .slice none 0 0] 36)).drew.heap.size (w1.alloc (.cells #[.slice none 0 0, .int .i64 0, .slice none 0 0] 36)).drew w2) (hb3 : Below w2.heap.size w2 w3) (hp3 : Blk w3 w1.heap.size 36 #[.slice none 0 0, .int .i64 0, .slice none 0 0]) :
    PaidCut n bs w1 (((w3.setCell ⟨w1.heap.size, 0, none⟩ (.slice A1 bs.length c1)).setCell ⟨w1.heap.size, 1, none⟩ (.int .i64 (W bs (allOf n)))).setCell ⟨w1.heap.size, 2, none⟩ (.slice none 0 0)) (.pointer (some ⟨w1.heap.size, 0, none⟩)) := by
  have h2 : w1.heap.size + 1 ≤ w2.heap.size := by have := hb2.size; simpa using this
  refine ⟨w1.heap.size, A1, c1, rfl, Nat.le_refl _, ((hp3.set_ 0 _).set_ 1 _).set_ 2 _, own_mono (three_own (own_grow hown hb3) hp3 (by decide)) (by simp), ?_⟩
  exact ((((((Below.refl _ _).alloc (Nat.le_refl _) _).drew.trans (hb2.mono (by simp))).trans (hb3.mono (by omega))).setCell (p := ⟨w1.heap.size, 0, none⟩) (Nat.le_refl _) _).setCell (p := ⟨w1.heap.size, 1, none⟩) (Nat.le_refl _) _).setCell (p := ⟨w1.heap.size, 2, none⟩) (Nat.le_refl _) _
end

set_option maxRecDepth 100000 in
set_option maxHeartbeats 3200000 in
theorem refCosts_ok (n : Int) (bs : List (List Off)) (v : Value) (R : Nat → Prop) (w : World) (hl : Buys w R v bs) (hi : instE n bs = 0) :
    Calls Try.prog 17 #[.agg #[.int .i64 n, v]] w fun e w' => ∃ A1 c1 A2 c2, e = .returned (.tuple #[.agg #[.slice A1 bs.length c1, .int .i64 (W bs (allOf n)), .slice A2 bs.length c2], .int .i64 0]) ∧
      w'.ownsRow w.heap.size 3 1 (.slice A1 bs.length c1) bs.length (ints (bestC n bs)) ∧ w'.ownsRow w.heap.size 2 1 (.slice A2 bs.length c2) bs.length (ints (paysC n bs)) ∧ Below w.heap.size w w' := by
  obtain ⟨vs, ⟨_, A, cap, rfl, hnc, hcm, hcs⟩, hvs⟩ := id hl
  have hwf := hl.wf
  have HB := Lib.hid hl
  have HI := Lib.hid hi
  have HCS := Lib.hid hcs
  have HVS := Lib.hid hvs
  have HWF := Lib.hid hwf
  have hl32 := (instE_zero hi).2.2.1
  clear hl hi hcs hvs hcm hwf
  go_enter Try.func17, Try.ntmps17
  go_wp2_with (go_at_call 30; refine (refInstance_any n bs _ R _ ((HB.out.alloc _).alloc _)).mono ?_; rintro e w1 ⟨rfl, hb1⟩; rw [HI.out]; obtain ⟨hX, hP, hs1, hbw⟩ := two_blk' hb1; have x0 : w1.cell? ⟨w.heap.size, 0, none⟩ = some (.int .i64 n) := hX.cell 0; have x1 : w1.cell? ⟨w.heap.size, 1, none⟩ = some (.slice A bs.length cap) := hX.cell 1; have HX := Lib.hid hX; have HP := Lib.hid hP; have HBW := Lib.hid hbw; clear hX hP hb1 hbw)
  go_cut [5] from 16 to 20 (fun p wr => PaidCut n bs w1 wr p)
  case first =>
    have x0' := cellAlloc x0
    have x1' := cellAlloc x1
    go_region_with (first
      | (go_at_call 80; refine (refBest_any n bs _ R w1.drew (HB.out.grow HBW.out).drew HI.out).mono ?_; rintro e w2 ⟨A1, c1, rfl, hown, hb2⟩; obtain ⟨e0, e1⟩ : w2.cell? ⟨w.heap.size, 0, none⟩ = some (.int .i64 n) ∧ w2.cell? ⟨w.heap.size, 1, none⟩ = some (.slice A bs.length cap) := ⟨(hb2.cell (p := ⟨w.heap.size, 0, none⟩) (by simp; omega)).trans x0, (hb2.cell (p := ⟨w.heap.size, 1, none⟩) (by simp; omega)).trans x1⟩; have e0' := cellAlloc e0; have e1' := cellAlloc e1)
      | (go_at_call 80; refine (refBest_any n bs _ R (w1.alloc (.cells #[.slice none 0 0, .int .i64 0, .slice none 0 0] 36)).drew ((HB.out.grow HBW.out).alloc _).drew HI.out).mono ?_; rintro e w2 ⟨A1, c1, rfl, hown, hb2⟩; obtain ⟨e0, e1, hp2⟩ : w2.cell? ⟨w.heap.size, 0, none⟩ = some (.int .i64 n) ∧ w2.cell? ⟨w.heap.size, 1, none⟩ = some (.slice A bs.length cap) ∧ Blk w2 w1.heap.size 36 #[.slice none 0 0, .int .i64 0, .slice none 0 0] := ⟨(hb2.cell (p := ⟨w.heap.size, 0, none⟩) (by simp; omega)).trans (x0' _), (hb2.cell (p := ⟨w.heap.size, 1, none⟩) (by simp; omega)).trans (x1' _), (Blk.new w1 _ _).drew.grow hb2⟩)
      | (go_at_call 81; refine (refW_any n bs _ R w2 ((show Buys (w1.alloc (.cells #[.slice none 0 0, .int .i64 0, .slice none 0 0] 36)).drew R _ _ from ((HB.out.grow HBW.out).alloc _).drew).grow hb2) HI.out).mono ?_; rintro e w3 ⟨rfl, hb3⟩; have hp3 := hp2.grow hb3; obtain ⟨p0, p1, p2⟩ : w3.cell? ⟨w1.heap.size, 0, none⟩ = some (.slice none 0 0) ∧ w3.cell? ⟨w1.heap.size, 1, none⟩ = some (.int .i64 0) ∧ w3.cell? ⟨w1.heap.size, 2, none⟩ = some (.slice none 0 0) := ⟨hp3.cell 0, hp3.cell 1, hp3.cell 2⟩; have pf := hp3.frozen)
      | (go_at_call 81; refine (refW_any n bs _ R w2 ((show Buys w1.drew R _ _ from (HB.out.grow HBW.out).drew).grow hb2) HI.out).mono ?_; rintro e w3 ⟨rfl, hb3⟩)
      | (go_at_call 81; refine (refW_any n bs _ R (w2.alloc (.cells #[.slice none 0 0, .int .i64 0, .slice none 0 0] 36)) (((show Buys w1.drew R _ _ from (HB.out.grow HBW.out).drew).grow hb2).alloc _) HI.out).mono ?_; rintro e w3 ⟨rfl, hb3⟩; have hp3 := (Blk.new w2 _ _).grow hb3; obtain ⟨p0, p1, p2⟩ : w3.cell? ⟨w2.heap.size, 0, none⟩ = some (.slice none 0 0) ∧ w3.cell? ⟨w2.heap.size, 1, none⟩ = some (.int .i64 0) ∧ w3.cell? ⟨w2.heap.size, 2, none⟩ = some (.slice none 0 0) := ⟨hp3.cell 0, hp3.cell 1, hp3.cell 2⟩; have pf := hp3.frozen))
    all_goals (go_wp2_with fail; go_meet)
    all_goals first
      | exact paidCut_a hown hb2 hb3 (hp2.grow hb3)
      | exact paidCut_b hown hb2 hb3 hp3
      | exact paidCut_c hown hb2 hb3
  case rest =>
    obtain ⟨gp, A1, c1, rfl, hgp, hP0, hC0, hb0⟩ := hcut
    go_wp2_with fail
    go_loopw [6] (fun i wr => ∃ (k : Nat) (A' : Option Addr) (cap' : Nat), k ≤ bs.length ∧ i = .int .i64 k ∧ Blk wr gp 36 #[.slice A1 bs.length c1, .int .i64 (W bs (allOf n)), .slice A' k cap'] ∧
        wr.ownsRow w1.heap.size 2 1 (.slice A' k cap') k (ints ((paysC n bs).take k)) ∧ wr.ownsRow w1.heap.size 3 1 (.slice A1 bs.length c1) bs.length (ints (bestC n bs)) ∧ Below w1.heap.size w1 wr)
      (fun i _ => bs.length - (intOf i).toNat)
    case atStart => exact ⟨0, none, 0, Nat.zero_le _, rfl, hP0, World.ownsRow_nil _ _ _ _, hC0, hb0⟩
    case round =>
      obtain ⟨k, A', cap', hk, rfl, hP1, hown, hch, hbr⟩ := hrel
      have hX1 := HX.out.grow hbr
      have hbw := HBW.out.trans (hbr.mono (by omega))
      have x0 : wr.cell? ⟨w.heap.size, 0, none⟩ = some (.int .i64 n) := hX1.cell 0
      have x1 : wr.cell? ⟨w.heap.size, 1, none⟩ = some (.slice A bs.length cap) := hX1.cell 1
      have hszr := hbr.size
      have HX3 := Lib.hid hX1
      have HP3 := Lib.hid hP1
      have HO3 := Lib.hid hown
      have HC3 := Lib.hid hch
      have HB1 := Lib.hid hbr
      have HBW1 := Lib.hid hbw
      have HBY := Lib.hid (HB.out.grow hbw)
      clear hP0 hC0 hb0
      by_cases hlt : k < bs.length
      · obtain ⟨c, hc⟩ : ∃ c, (bestC n bs)[k]? = some c := ⟨_, List.getElem?_eq_getElem (by rw [bestC, choose_length]; exact hlt)⟩
        have hpg := paysC_get hc
        have hlC : (bestC n bs).length = bs.length := by rw [bestC, choose_length]
        obtain ⟨gC, capC, hAC, hgC, hgC2⟩ := World.ownsRow.form hch (by omega)
        injection hAC with hAC _ hcC
        subst hAC hcC
        have hgood := choose_get bs (allOf n) k c hc
        obtain ⟨hw0, hw1⟩ := woW_bd HWF.out HI.out k
        have hok := (okb_of HWF.out HI.out).1
        have hW0 := W_nonneg bs (allOf n)
        have hW1 : W bs (allOf n) ≤ 35184372088832 := by simpa using hok.W_le 0 (allOf n)
        have hcoin : 0 ≤ coinAt bs k c ∧ coinAt bs k c ≤ 1099511627776 := by
          rcases hgood with rfl | ⟨j, l, o, rfl, h1, h2⟩
          · rw [coinAt_neg (by decide)]; omega
          · rw [coinAt_some h1 h2]
            obtain ⟨_, _, h3, h4⟩ := hok.offer h1 h2
            omega
        have hpay : payAt n bs k c = if c < 0 then 0 else woW n bs k - (W bs (allOf n) - coinAt bs k c) := by
          unfold payAt
          split
          · rfl
          · omega
        rw [hpay] at hpg
        generalize hgc : coinAt bs k c = co at *
        have hsub1 : IntKind.i64.wrap (W bs (allOf n) - co) = W bs (allOf n) - co := IntWalk.i64_in _ (by omega)
        have hsub2 : IntKind.i64.wrap (woW n bs k - (W bs (allOf n) - co)) = woW n bs k - (W bs (allOf n) - co) := IntWalk.i64_in _ (by omega)
        have hcell : ∀ W' : World, Below wr.heap.size wr W' → W'.cell? ⟨w.heap.size, 0, none⟩ = some (.int .i64 n) ∧ W'.cell? ⟨w.heap.size, 1, none⟩ = some (.slice A bs.length cap) ∧ W'.cell? ⟨gp, 1, none⟩ = some (.int .i64 (W bs (allOf n))) ∧
            W'.cell? ⟨gp, 0, none⟩ = some (.slice (some ⟨gC, 0, none⟩) bs.length c1) ∧ W'.cell? ⟨gC, k, none⟩ = some (.int .i64 c) ∧ W'.cell? ⟨gp, 2, none⟩ = some (.slice A' k cap') := fun W' hb => by
          refine ⟨(hX1.grow hb).cell 0, (hX1.grow hb).cell 1, (hP1.grow hb).cell 1, (hP1.grow hb).cell 0, ?_, (hP1.grow hb).cell 2⟩
          rw [(own_grow hch hb).cellAt k (by omega)]
          simp [ints, hc]
        have HSL : Hid (∀ W' : World, Below wr.heap.size wr W' → Sl W' (fun _ => True) (.slice (some ⟨gC, 0, none⟩) bs.length c1) (bestC n bs).length 1 (ints (bestC n bs))) := fun W' hb => by
          rw [hlC]
          exact (Sl.of_own (own_grow hch hb)).mono fun _ _ _ => trivial
        have HCELL := Lib.hid hcell
        have HPG := Lib.hid hpg
        have HC := Lib.hid hc
        have HGOOD := Lib.hid hgood
        have HGC := Lib.hid hgc
        clear hX1 hP1 hown hch hbr hbw hc hpg hgood hgc hcell hpay hlC
        go_wp2_with (go_at_call 25; refine (refWithout_any n bs (k : Nat) _ R _ HBY.out).mono ?_; rintro e w3 ⟨rfl, hb3⟩; obtain ⟨y0, y1, y2, y3, y4, y5⟩ := HCELL.out w3 hb3; have HB3 := Lib.hid hb3; clear hb3)
        go_region_held3 (fun w' => w'.cell? ⟨gp, 1, none⟩ = some (.int .i64 (W bs (allOf n))) ∧ w'.cell? ⟨w.heap.size, 0, none⟩ = some (.int .i64 n) ∧ w'.cell? ⟨w.heap.size, 1, none⟩ = some (.slice A bs.length cap) ∧ w'.cell? ⟨gp, 0, none⟩ = some (.slice (some ⟨gC, 0, none⟩) bs.length c1)) (go_keep)
          ((go_at_call 82; refine (refWon_any n bs (bestC n bs) _ _ R _ k c _ _ (HBY.out.grow HB3.out).drew (HSL.out w3 HB3.out).drew HC.out rfl HGOOD.out).mono ?_; rintro e w4 ⟨rfl, hb4⟩; rw [HGC.out]; have hb34 := HB3.out.trans ((Below.refl _ _).drew.trans (hb4.mono (by have := HB3.out.size; simpa using this))); obtain ⟨z0, z1, z2, z3, z4, z5⟩ := HCELL.out w4 (hb34.mono (Nat.le_refl _)); have HB4 := Lib.hid hb34; clear hb4 hb34))
        have HP4 := Lib.hid (HP3.out.grow HB4.out)
        have HO4 := Lib.hid (own_grow HO3.out HB4.out)
        have HC4 := Lib.hid (own_grow HC3.out HB4.out)
        have HBB4 := Lib.hid (HB1.out.trans (HB4.out.mono hszr))
        have hsz4 : wr.heap.size ≤ w4.heap.size := HB4.out.size
        clear y0 y1 y2 y3 y4 y5 x0 x1
        by_cases hc0 : c < 0
        · have HC0 := Lib.hid hc0
          have g2a := cellAlloc z5 (.cells #[.int .i64 0] 2)
          go_wp2_with (at_builtin; refine wpList_app _ rfl (.tmp 51) (.tmp 53) et_i64 rfl w1.heap.size (.slice A' k cap') k (ints ((paysC n bs).take k)) rfl (HO4.out.alloc _) _ _ 1 _ rfl (Sl.new w4 #[.int .i64 0] _ 1 1 (by unfold maxLen; omega) rfl) (by simp [Value.oneCell']) (by omega) (by unfold maxLen; omega) (by simp; omega) ?_; intro A3 cap3 w5 hown5 hg5 hloc5; have hp5 : Blk w5 gp 36 #[.slice (some ⟨gC, 0, none⟩) bs.length c1, .int .i64 (W bs (allOf n)), .slice A' k cap'] := (HP4.out.alloc _).grown hg5 (fun e => own_ne_blk HO4.out HP4.out (by decide) e.symm); have k0 : w5.cell? ⟨gp, 2, none⟩ = some (.slice A' k cap') := hp5.cell 2; have k1 := hp5.frozen 2; have HP5 := Lib.hid hp5; have HG5 := Lib.hid hg5; have HO5 := Lib.hid hown5; clear hp5 hg5 hown5 hloc5)
          go_roundw
          case rel =>
            have hro : ∀ g, (Value.slice A' k cap').ownBlock = some g → w1.heap.size ≤ g := fun g e => (HO4.out.lt g e).1
            have hs5 := HG5.out.size
            simp at hs5
            refine ⟨k + 1, A3, cap3, by omega, by go_num, HP5.out.set_ 2 _, ?_, ?_, ?_⟩
            · have h1 := own_far HO5.out (grownBy_setCell _ ⟨gp, 2, none⟩ (.slice A3 (k + 1) cap3)) (fun g e => by simp at e; subst e; exact own_ne_blk HO5.out HP5.out (by decide))
              rw [List.take_add_one, HPG.out, if_pos HC0.out]
              simpa [ints] using h1
            · have h1 := own_far (HC4.out.alloc (.cells #[.int .i64 0] 2)) HG5.out (fun g e => own_ne (HO4.out.alloc (.cells #[.int .i64 0] 2)) (HC4.out.alloc (.cells #[.int .i64 0] 2)) (by decide) e)
              exact own_far h1 (grownBy_setCell _ ⟨gp, 2, none⟩ _) (fun g e => by simp at e; subst e; exact own_ne_blk h1 HP5.out (by decide))
            · exact ((HBB4.out.alloc (by omega) _).grown HG5.out (by simp; omega) (fun g e => hro g e)).setCell (p := ⟨gp, 2, none⟩) hgp _
          case measure => simp [intOf]; omega
        · have HC0 := Lib.hid hc0
          have g2a := cellAlloc z5 (.cells #[.int .i64 (woW n bs k - (W bs (allOf n) - co))] 2)
          go_wp2_with (at_builtin; refine wpList_app _ rfl (.tmp 51) (.tmp 53) et_i64 rfl w1.heap.size (.slice A' k cap') k (ints ((paysC n bs).take k)) rfl (HO4.out.alloc _) _ _ 1 _ rfl (Sl.new w4 #[.int .i64 (woW n bs k - (W bs (allOf n) - co))] _ 1 1 (by unfold maxLen; omega) rfl) (by simp [Value.oneCell']) (by omega) (by unfold maxLen; omega) (by simp; omega) ?_; intro A3 cap3 w5 hown5 hg5 hloc5; have hp5 : Blk w5 gp 36 #[.slice (some ⟨gC, 0, none⟩) bs.length c1, .int .i64 (W bs (allOf n)), .slice A' k cap'] := (HP4.out.alloc _).grown hg5 (fun e => own_ne_blk HO4.out HP4.out (by decide) e.symm); have k0 : w5.cell? ⟨gp, 2, none⟩ = some (.slice A' k cap') := hp5.cell 2; have k1 := hp5.frozen 2; have HP5 := Lib.hid hp5; have HG5 := Lib.hid hg5; have HO5 := Lib.hid hown5; clear hp5 hg5 hown5 hloc5)
          go_roundw
          case rel =>
            have hro : ∀ g, (Value.slice A' k cap').ownBlock = some g → w1.heap.size ≤ g := fun g e => (HO4.out.lt g e).1
            have hs5 := HG5.out.size
            simp at hs5
            refine ⟨k + 1, A3, cap3, by omega, by go_num, HP5.out.set_ 2 _, ?_, ?_, ?_⟩
            · have h1 := own_far HO5.out (grownBy_setCell _ ⟨gp, 2, none⟩ (.slice A3 (k + 1) cap3)) (fun g e => by simp at e; subst e; exact own_ne_blk HO5.out HP5.out (by decide))
              rw [List.take_add_one, HPG.out, if_neg HC0.out]
              simpa [ints] using h1
            · have h1 := own_far (HC4.out.alloc (.cells #[.int .i64 (woW n bs k - (W bs (allOf n) - co))] 2)) HG5.out (fun g e => own_ne (HO4.out.alloc (.cells #[.int .i64 (woW n bs k - (W bs (allOf n) - co))] 2)) (HC4.out.alloc (.cells #[.int .i64 (woW n bs k - (W bs (allOf n) - co))] 2)) (by decide) e)
              exact own_far h1 (grownBy_setCell _ ⟨gp, 2, none⟩ _) (fun g e => by simp at e; subst e; exact own_ne_blk h1 HP5.out (by decide))
            · exact ((HBB4.out.alloc (by omega) _).grown HG5.out (by simp; omega) (fun g e => hro g e)).setCell (p := ⟨gp, 2, none⟩) hgp _
          case measure => simp [intOf]; omega
      · obtain rfl : k = bs.length := by omega
        have p0 := hP1.cell 0
        have p1 := hP1.cell 1
        have p2 := hP1.cell 2
        have hR := HP.out.grow hbr
        have r0 := hR.cell 0
        have r1 := hR.cell 1
        have r2 := hR.cell 2
        have rf := hR.frozen
        simp at p0 p1 p2 r0 r1 r2
        have htk : (paysC n bs).take bs.length = paysC n bs := List.take_of_length_le (by rw [paysC_length]; exact Nat.le_refl _)
        rw [htk] at hown
        have HO := Lib.hid hown
        have hq := ((hR.set_ 0 (.slice A1 bs.length c1)).set_ 1 (.int .i64 (W bs (allOf n)))).set_ 2 (.slice A' bs.length cap')
        have q0 := hq.cell 0
        have q1 := hq.cell 1
        have q2 := hq.cell 2
        simp at q0 q1 q2
        clear hX1 hP1 hown hch hbr hbw htk hq hR
        go_wp2_with fail
        refine bodyPost_ret (v := .tuple #[.agg #[.slice A1 bs.length c1, .int .i64 (W bs (allOf n)), .slice A' bs.length cap'], .int .i64 0]) (by simp [results, Try.results17, go_sem, q0, q1, q2]) rfl ⟨A1, c1, A', cap', rfl, ?_, ?_, ?_⟩
        · exact own_mono (ownsRow_setCell_below (ownsRow_setCell_below (ownsRow_setCell_below HC3.out (a := ⟨w.heap.size + 1, 0, none⟩) (by simp; omega) _) (a := ⟨w.heap.size + 1, 1, none⟩) (by simp; omega) _) (a := ⟨w.heap.size + 1, 2, none⟩) (by simp; omega) _) (by omega)
        · exact own_mono (ownsRow_setCell_below (ownsRow_setCell_below (ownsRow_setCell_below HO.out (a := ⟨w.heap.size + 1, 0, none⟩) (by simp; omega) _) (a := ⟨w.heap.size + 1, 1, none⟩) (by simp; omega) _) (a := ⟨w.heap.size + 1, 2, none⟩) (by simp; omega) _) (by omega)
        · exact ((HBW1.out.setCell (p := ⟨w.heap.size + 1, 0, none⟩) (by simp) _).setCell (p := ⟨w.heap.size + 1, 1, none⟩) (by simp) _).setCell (p := ⟨w.heap.size + 1, 2, none⟩) (by simp) _
end Go.Proofs.Ytcigobiolbojhaa.Vb

/- Plain: who wins nothing is not missed. -/
namespace Go.Proofs.Ytcigobiolbojhaa.Vb
open Go.RowKit

theorem stepO_mono {g g' : Nat → Int} (f : Nat) {b b' : Int} (o : Off) (hg : ∀ x, g x ≤ g' x) (hb : b ≤ b') : stepO g f b o ≤ stepO g' f b' o := by
  unfold stepO
  split
  · have := hg (andNot f o.g); omega
  · exact hb
theorem fold_mono {g g' : Nat → Int} (f : Nat) (hg : ∀ x, g x ≤ g' x) : ∀ (l : List Off) {b b' : Int}, b ≤ b' → l.foldl (stepO g f) b ≤ l.foldl (stepO g' f) b'
  | [], _, _, h => h
  | o :: l, _, _, h => fold_mono f hg l (stepO_mono f o hg h)
theorem fold_mem {g : Nat → Int} {f : Nat} : ∀ (l : List Off) (b : Int) (o : Off), o ∈ l → andNot o.g f = 0 → o.c + g (andNot f o.g) ≤ l.foldl (stepO g f) b
  | x :: l, b, o, ho, hf => by
    rcases List.mem_cons.1 ho with rfl | ho
    · refine Int.le_trans ?_ (fold_ge g f l _)
      unfold stepO
      rw [if_pos hf]
      omega
    · exact fold_mem l _ o ho hf
theorem fold_att {g : Nat → Int} {f : Nat} : ∀ (l : List Off) (b : Int), l.foldl (stepO g f) b = b ∨ ∃ o ∈ l, andNot o.g f = 0 ∧ o.c + g (andNot f o.g) = l.foldl (stepO g f) b
  | [], b => .inl rfl
  | x :: l, b => by
    rcases fold_att l (stepO g f b x) with h | ⟨o, ho, hf, he⟩
    · by_cases hf : andNot x.g f = 0
      · by_cases hle : x.c + g (andNot f x.g) ≤ b
        · left
          rw [List.foldl_cons, h]
          unfold stepO
          rw [if_pos hf]
          omega
        · right
          refine ⟨x, by simp, hf, ?_⟩
          rw [List.foldl_cons, h]
          unfold stepO
          rw [if_pos hf]
          omega
      · left
        rw [List.foldl_cons, h]
        unfold stepO
        rw [if_neg hf]
    · exact .inr ⟨o, by simp [ho], hf, by rw [List.foldl_cons]; exact he⟩

theorem W_set_le : ∀ (bs : List (List Off)) (k f : Nat), W (bs.set k []) f ≤ W bs f
  | [], k, f => by simp
  | l :: bs, 0, f => by
    simp only [List.set_cons_zero, W, List.foldl_nil]
    exact fold_ge _ _ _ _
  | l :: bs, k + 1, f => by
    simp only [List.set_cons_succ, W]
    exact fold_mono f (fun x => W_set_le bs k x) l (W_set_le bs k f)

/-- nobody's offer reaches what is had: then it is had without the buyer -/
theorem pick_none_W {bs : List (List Off)} {l : List Off} {f : Nat} (h : pickAt (W bs) f (W (l :: bs) f) l = none) : W (l :: bs) f = W bs f := by
  have hno : ∀ o ∈ l, pickB (W bs) f (W (l :: bs) f) o = false := by
    generalize W (l :: bs) f = left at h
    induction l with
    | nil => simp
    | cons x l ih =>
      simp only [pickAt] at h
      split at h
      · cases h
      · rename_i hx
        intro o ho
        rcases List.mem_cons.1 ho with rfl | ho
        · simpa using hx
        · exact ih (by simpa using h) o ho
  rcases fold_att (g := W bs) (f := f) l (W bs f) with h1 | ⟨o, ho, hf, he⟩
  · exact h1
  · exfalso
    have := hno o ho
    simp only [pickB, Bool.and_eq_false_iff, decide_eq_false_iff_not] at this
    rcases this with h2 | h2
    · exact h2 hf
    · exact h2 he
theorem pickAt_att {g : Nat → Int} {f : Nat} {left : Int} : ∀ {l : List Off} {j x : Nat}, pickAt g f left l = some (j, x) → ∃ o ∈ l, o.g = x ∧ andNot o.g f = 0 ∧ o.c + g (andNot f o.g) = left
  | o :: l, j, x, h => by
    simp only [pickAt] at h
    split at h
    · rename_i hb
      simp only [Option.some.injEq, Prod.mk.injEq] at h
      simp only [pickB, Bool.and_eq_true, decide_eq_true_eq] at hb
      exact ⟨o, by simp, h.2, hb.1, hb.2⟩
    · cases hp : pickAt g f left l with
      | none => rw [hp] at h; cases h
      | some p =>
        rw [hp] at h
        simp only [Option.map_some, Option.some.injEq, Prod.mk.injEq] at h
        obtain ⟨o', h1, h2⟩ := pickAt_att (j := p.1) (x := p.2) hp
        exact ⟨o', by simp [h1], by rw [← h.2]; exact h2⟩
theorem W_loser : ∀ (bs : List (List Off)) (k f : Nat), (choose bs f)[k]? = some (-1) → W bs f ≤ W (bs.set k []) f
  | [], k, f, h => by simp [choose] at h
  | l :: bs, 0, f, h => by
    simp only [choose, List.getElem?_cons_zero, Option.some.injEq] at h
    unfold pickN at h
    cases hp : pickAt (W bs) f (W (l :: bs) f) l with
    | none => simp only [List.set_cons_zero]; rw [pick_none_W hp]; exact Int.le_refl _
    | some p => rw [hp] at h; simp only at h; omega
  | l :: bs, k + 1, f, h => by
    simp only [choose, List.getElem?_cons_succ] at h
    have ih := W_loser bs k _ h
    simp only [List.set_cons_succ]
    unfold pickN at ih
    cases hp : pickAt (W bs) f (W (l :: bs) f) l with
    | none =>
      rw [hp] at ih
      rw [pick_none_W hp]
      exact Int.le_trans ih (fold_ge _ _ _ _)
    | some p =>
      obtain ⟨j, x⟩ := p
      rw [hp] at ih
      obtain ⟨o, ho, rfl, hf, he⟩ := pickAt_att hp
      rw [← he]
      refine Int.le_trans (Int.add_le_add_left ih _) ?_
      exact fold_mem l _ o ho hf

theorem instE_withE {n : Int} {bs : List (List Off)} {k : Nat} (h : instE n bs = 0) (hk : k < bs.length) : withE n bs (k : Int) [] = 0 := by
  unfold withE
  rw [if_neg (by simpa using h), if_neg (by omega)]
  obtain ⟨h1, h2, _⟩ := instE_zero h
  unfold checkE
  rw [if_neg (by omega)]
  simp [badAt]
/-- what a buyer gains, both ways -/
theorem won_gain {n : Int} {bs : List (List Off)} {k : Nat} {c : Int} (hi : instE n bs = 0) (hk : k < bs.length) (hc : (bestC n bs)[k]? = some c) :
    coinAt bs k c - payAt n bs k c = gainAt n bs k := by
  unfold gainAt payAt
  by_cases h0 : c < 0
  · rw [if_pos h0, coinAt_neg h0]
    obtain rfl : c = -1 := by rcases choose_get _ _ _ _ hc with h | ⟨j, l, o, rfl, _⟩ <;> omega
    have h1 := W_loser bs k _ hc
    have h2 := W_set_le bs k (allOf n)
    unfold woW
    rw [if_pos (instE_withE hi hk), Int.toNat_natCast]
    omega
  · rw [if_neg h0]
    omega
end Go.Proofs.Ytcigobiolbojhaa.Vb

/- The reference of layer 17: Costs refused; SamePaid; Pivotal. -/
namespace Go.Proofs.Ytcigobiolbojhaa.Vb
open Go.RowKit

set_option maxHeartbeats 800000 in
theorem refCosts_err (n : Int) (bs : List (List Off)) (v : Value) (R : Nat → Prop) (w : World) (hl : Buys w R v bs) (hi : instE n bs ≠ 0) :
    Calls Try.prog 17 #[.agg #[.int .i64 n, v]] w fun e w' => e = .returned (.tuple #[.agg #[.slice none 0 0, .int .i64 0, .slice none 0 0], .int .i64 (instE n bs)]) ∧ Below w.heap.size w w' := by
  obtain ⟨vs, ⟨_, A, cap, rfl, _⟩, _⟩ := id hl
  have HB := Lib.hid hl
  have hcb : (instE n bs != 0) = true := by simpa using hi
  have HI := Lib.hid hi
  clear hl hi
  go_enter Try.func17, Try.ntmps17
  go_wp2_with (go_at_call 30; refine (refInstance_any n bs _ R _ ((HB.out.alloc _).alloc _)).mono ?_; rintro e w1 ⟨rfl, hb1⟩; obtain ⟨hX, hP, hs1, hbw⟩ := two_blk' hb1; obtain ⟨r0, r1, r2⟩ : w1.cell? ⟨w.heap.size + 1, 0, none⟩ = some (.slice none 0 0) ∧ w1.cell? ⟨w.heap.size + 1, 1, none⟩ = some (.int .i64 0) ∧ w1.cell? ⟨w.heap.size + 1, 2, none⟩ = some (.slice none 0 0) := ⟨hP.cell 0, hP.cell 1, hP.cell 2⟩; have rf := hP.frozen; have HP := Lib.hid hP; have HBW := Lib.hid hbw; clear hX hP hb1 hbw)
  have hq := ((HP.out.set_ 0 (.slice none 0 0)).set_ 1 (.int .i64 0)).set_ 2 (.slice none 0 0)
  have q0 := hq.cell 0
  have q1 := hq.cell 1
  have q2 := hq.cell 2
  simp at q0 q1 q2
  refine bodyPost_ret (v := .tuple #[.agg #[.slice none 0 0, .int .i64 0, .slice none 0 0], .int .i64 (instE n bs)]) (by simp [results, Try.results17, go_sem, q0, q1, q2]) rfl ⟨rfl, ?_⟩
  exact ((HBW.out.setCell (p := ⟨w.heap.size + 1, 0, none⟩) (by simp) _).setCell (p := ⟨w.heap.size + 1, 1, none⟩) (by simp) _).setCell (p := ⟨w.heap.size + 1, 2, none⟩) (by simp) _

theorem ints_get {cs : List Int} {k : Nat} {c : Int} (h : cs[k]? = some c) : (ints cs)[k]? = some (.int .i64 c) := by simp [ints, h]

set_option maxRecDepth 100000 in
set_option maxHeartbeats 1600000 in
theorem samePaid_true (W0 : Int) (cs ps : List Int) (ca cb pa pb : Value) (R1 R2 R3 R4 : Nat → Prop) (w : World) (h1 : Sl w R1 ca cs.length 1 (ints cs)) (h2 : Sl w R2 cb cs.length 1 (ints cs)) (h3 : Sl w R3 pa ps.length 1 (ints ps)) (h4 : Sl w R4 pb ps.length 1 (ints ps)) :
    Calls Try.prog 22 #[.agg #[ca, .int .i64 W0, pa], .agg #[cb, .int .i64 W0, pb]] w fun e w' => e = .returned (.bool true) ∧ Below w.heap.size w w' := by
  obtain ⟨_, A1, c1, rfl, hn1, hc1, hs1⟩ := h1
  obtain ⟨_, A2, c2, rfl, hn2, hc2, hs2⟩ := h2
  obtain ⟨_, A3, c3, rfl, hn3, hc3, hs3⟩ := h3
  obtain ⟨_, A4, c4, rfl, hn4, hc4, hs4⟩ := h4
  unfold maxLen at hc1 hc2 hc3 hc4
  have H1 := Lib.hid hs1
  have H2 := Lib.hid hs2
  have H3 := Lib.hid hs3
  have H4 := Lib.hid hs4
  clear hs1 hs2 hs3 hs4
  go_enter Try.func22, Try.ntmps22
  go_wp2
  have hw0 : ∃ W1, W1 = (w.alloc (.cells #[.slice A1 cs.length c1, .int .i64 W0, .slice A3 ps.length c3] 36)).alloc (.cells #[.slice A2 cs.length c2, .int .i64 W0, .slice A4 ps.length c4] 36) := ⟨_, rfl⟩
  obtain ⟨W1, hW1⟩ := hw0
  obtain ⟨hX, hY, hs, hbw⟩ := two_blk' (w1 := W1) (by rw [hW1]; exact Below.refl _ _)
  rw [← hW1]
  have HX := Lib.hid hX
  have HY := Lib.hid hY
  have HBW := Lib.hid hbw
  clear hX hY hbw hW1
  go_loopw [5] (fun i wr => ∃ k : Nat, k ≤ cs.length ∧ i = .int .i64 k ∧ Below W1.heap.size W1 wr) (fun i _ => cs.length - (intOf i).toNat)
  case atStart => exact ⟨0, Nat.zero_le _, rfl, Below.refl _ _⟩
  case round =>
    obtain ⟨k, hk, rfl, hb⟩ := hrel
    have hX := HX.out.grow hb
    have hY := HY.out.grow hb
    have hbw := HBW.out.trans (hb.mono (by omega))
    have x0 : wr.cell? ⟨w.heap.size, 0, none⟩ = some (.slice A1 cs.length c1) := hX.cell 0
    have y0 : wr.cell? ⟨w.heap.size + 1, 0, none⟩ = some (.slice A2 cs.length c2) := hY.cell 0
    by_cases hlt : k < cs.length
    · obtain ⟨c, hc⟩ : ∃ c, cs[k]? = some c := ⟨_, List.getElem?_eq_getElem hlt⟩
      obtain ⟨b1, o1, rfl, _, hb1, hx1⟩ := H1.out (by omega)
      obtain ⟨b2, o2, rfl, _, hb2, hx2⟩ := H2.out (by omega)
      have e1 := (hbw.cell hb1).trans (hx1 _ _ (ints_get hc))
      have e2 := (hbw.cell hb2).trans (hx2 _ _ (ints_get hc))
      have HB := Lib.hid hb
      clear hX hY hbw hx1 hx2 hb hc
      go_wp2_with fail
      go_quiet (fail)
      go_wp2_with fail
      go_roundw
      case rel => exact ⟨k + 1, by omega, by go_num, below_drewN HB.out _⟩
      case measure => simp [intOf]; omega
    · have HB := Lib.hid hb
      clear hX hY hbw hb
      go_wp2_with fail
      clear x0 y0
      obtain ⟨wo, rfl⟩ : ∃ wo : World, wo = wr := ⟨_, rfl⟩
      go_loopw [6] (fun i wr => ∃ k : Nat, k ≤ ps.length ∧ i = .int .i64 k ∧ Below W1.heap.size W1 wr) (fun i _ => ps.length - (intOf i).toNat)
      case atStart => exact ⟨0, Nat.zero_le _, rfl, HB.out⟩
      case round =>
        obtain ⟨j, hj, rfl, hb⟩ := hrel
        have hX := HX.out.grow hb
        have hY := HY.out.grow hb
        have hbw := HBW.out.trans (hb.mono (by omega))
        have x0 : wr.cell? ⟨w.heap.size, 2, none⟩ = some (.slice A3 ps.length c3) := hX.cell 2
        have y0 : wr.cell? ⟨w.heap.size + 1, 2, none⟩ = some (.slice A4 ps.length c4) := hY.cell 2
        by_cases hlj : j < ps.length
        · obtain ⟨c, hc⟩ : ∃ c, ps[j]? = some c := ⟨_, List.getElem?_eq_getElem hlj⟩
          obtain ⟨b1, o1, rfl, _, hb1, hx1⟩ := H3.out (by omega)
          obtain ⟨b2, o2, rfl, _, hb2, hx2⟩ := H4.out (by omega)
          have e1 := (hbw.cell hb1).trans (hx1 _ _ (ints_get hc))
          have e2 := (hbw.cell hb2).trans (hx2 _ _ (ints_get hc))
          have HB := Lib.hid hb
          clear hX hY hbw hx1 hx2 hb hc
          go_wp2_with fail
          go_quiet (fail)
          go_wp2_with fail
          go_roundw
          case rel => exact ⟨j + 1, by omega, by go_num, below_drewN HB.out _⟩
          case measure => simp [intOf]; omega
        · have HBW2 := Lib.hid hbw
          clear hX hY hbw hb
          go_wp2_with fail
          go_ret
          exact ⟨rfl, HBW2.out⟩
end Go.Proofs.Ytcigobiolbojhaa.Vb

/- The reference of layer 17: Pivotal, Gains. -/
namespace Go.Proofs.Ytcigobiolbojhaa.Vb
open Go.RowKit

set_option maxHeartbeats 800000 in
theorem refPivotal_err (n : Int) (bs : List (List Off)) (v : Value) (R : Nat → Prop) (w : World) (hl : Buys w R v bs) (hi : instE n bs ≠ 0) :
    Calls Try.prog 29 #[.agg #[.int .i64 n, v]] w fun e w' => e = .returned (.tuple #[.slice none 0 0, .int .i64 (instE n bs)]) ∧ Below w.heap.size w w' := by
  obtain ⟨vs, ⟨_, A, cap, rfl, _⟩, _⟩ := id hl
  have HB := Lib.hid hl
  have hcb : (instE n bs != 0) = true := by simpa using hi
  have HI := Lib.hid hi
  clear hl hi
  go_enter Try.func29, Try.ntmps29
  go_wp2_with (go_at_call 30; refine (refInstance_any n bs _ R _ (HB.out.alloc _)).mono ?_; rintro e w1 ⟨rfl, hb1⟩; have HB1 := Lib.hid (one_blk' hb1).2.2; clear hb1)
  go_ret2
  exact ⟨rfl, HB1.out⟩

set_option maxHeartbeats 800000 in
theorem refGains_err (n : Int) (bs : List (List Off)) (v : Value) (R : Nat → Prop) (w : World) (hl : Buys w R v bs) (hi : instE n bs ≠ 0) :
    Calls Try.prog 27 #[.agg #[.int .i64 n, v]] w fun e w' => e = .returned (.tuple #[.slice none 0 0, .int .i64 (instE n bs)]) ∧ Below w.heap.size w w' := by
  obtain ⟨vs, ⟨_, A, cap, rfl, _⟩, _⟩ := id hl
  have HB := Lib.hid hl
  have hcb : (instE n bs != 0) = true := by simpa using hi
  have HI := Lib.hid hi
  clear hl hi
  go_enter Try.func27, Try.ntmps27
  go_wp2_with (go_at_call 17; refine (refCosts_err n bs _ R _ (HB.out.alloc _) HI.out).mono ?_; rintro e w1 ⟨rfl, hb1⟩; have HB1 := Lib.hid (one_blk' hb1).2.2; clear hb1)
  go_ret2
  exact ⟨rfl, HB1.out.alloc HB1.out.size _⟩

set_option maxRecDepth 100000 in
set_option maxHeartbeats 3200000 in
theorem refPivotal_ok (n : Int) (bs : List (List Off)) (v : Value) (R : Nat → Prop) (w : World) (hl : Buys w R v bs) (hi : instE n bs = 0) :
    Calls Try.prog 29 #[.agg #[.int .i64 n, v]] w fun e w' => ∃ A' cap', e = .returned (.tuple #[.slice A' (pivotC n bs).length cap', .int .i64 0]) ∧
      w'.ownsRow w.heap.size 3 1 (.slice A' (pivotC n bs).length cap') (pivotC n bs).length (ints (pivotC n bs)) ∧ Below w.heap.size w w' := by
  obtain ⟨vs, ⟨_, A, cap, rfl, _⟩, _⟩ := id hl
  have HB := Lib.hid hl
  have HI := Lib.hid hi
  have hl32 := (instE_zero hi).2.2.1
  clear hl hi
  go_enter Try.func29, Try.ntmps29
  go_wp2_with (go_at_call 30; refine (refInstance_any n bs _ R _ (HB.out.alloc _)).mono ?_; rintro e w1 ⟨rfl, hb1⟩; rw [HI.out]; have HX := Lib.hid (one_blk' hb1).1; have HB1 := Lib.hid (one_blk' hb1).2.2; have hs1 := (one_blk' hb1).2.1; clear hb1)
  go_loopw [5, 6] (fun s i wr => ∃ (k m : Nat) (A' : Option Addr) (cap' : Nat), k ≤ bs.length ∧ i = .int .i64 k ∧ m = (pivotTo n bs k).length ∧ s = .slice A' m cap' ∧
      wr.ownsRow w1.heap.size 3 1 (.slice A' m cap') m (ints (pivotTo n bs k)) ∧ Below w1.heap.size w1 wr)
    (fun _ i _ => bs.length - (intOf i).toNat)
  case atStart => exact ⟨0, 0, none, 0, Nat.zero_le _, rfl, rfl, rfl, World.ownsRow_nil _ _ _ _, Below.refl _ _⟩
  case round =>
    obtain ⟨k, m, A', cap', hk, rfl, hm, rfl, hown, hbr⟩ := hrel
    have hml : m ≤ k := by rw [hm]; exact pivotTo_len n bs k
    have hX := HX.out.grow hbr
    have x0 : wr.cell? ⟨w.heap.size, 0, none⟩ = some (.int .i64 n) := hX.cell 0
    have x1 : wr.cell? ⟨w.heap.size, 1, none⟩ = some (.slice A bs.length cap) := hX.cell 1
    have hbw := HB1.out.trans (hbr.mono (by omega))
    have hszr := hbr.size
    have HM := Lib.hid hm
    have HX1 := Lib.hid hX
    have HO := Lib.hid hown
    have HBR := Lib.hid hbr
    have HBW := Lib.hid hbw
    have HBY := Lib.hid (HB.out.grow hbw)
    by_cases hlt : k < bs.length
    · clear hX hown hbr hbw hm
      by_cases hg : woW n bs k < W bs (allOf n)
      all_goals
        have hgb : decide (woW n bs k < W bs (allOf n)) = decide (woW n bs k < W bs (allOf n)) := rfl
        have HG := Lib.hid hg
      · go_wp2_with (first
          | (go_at_call 25; refine (refWithout_any n bs (k : Nat) _ R _ HBY.out).mono ?_; rintro e w3 ⟨rfl, hb3⟩; obtain ⟨y0, y1⟩ : w3.cell? ⟨w.heap.size, 0, none⟩ = some (.int .i64 n) ∧ w3.cell? ⟨w.heap.size, 1, none⟩ = some (.slice A bs.length cap) := ⟨(HX1.out.grow hb3).cell 0, (HX1.out.grow hb3).cell 1⟩; have hs3 := hb3.size; have HB3 := Lib.hid hb3; clear hb3)
          | (go_at_call 81; refine (refW_any n bs _ R _ (HBY.out.grow HB3.out) HI.out).mono ?_; rintro e w4 ⟨rfl, hb4⟩; have hs4 := hb4.size; have HB4 := Lib.hid (HB3.out.trans (hb4.mono hs3)); have HO4 := Lib.hid (own_grow HO.out HB4.out); clear hb4)
          | (at_builtin; refine wpList_app _ rfl (.tmp 31) (.tmp 33) et_int rfl w1.heap.size (.slice A' m cap') m (ints (pivotTo n bs k)) rfl (HO4.out.alloc _) _ _ 1 _ rfl (Sl.new w4 #[.int .i64 (k : Nat)] _ 1 1 (by unfold maxLen; omega) rfl) (by simp [Value.oneCell']) (by omega) (by unfold maxLen; omega) (by simp; omega) ?_; intro A3 cap3 w5 hown5 hg5 hloc5; have HG5 := Lib.hid hg5; have HO5 := Lib.hid hown5; clear hg5 hown5 hloc5))
        go_roundw
        case rel =>
          have hyes : 0 < gainAt n bs k := by have := HG.out; unfold gainAt; omega
          refine ⟨k + 1, m + 1, A3, cap3, by omega, by go_num, by rw [pivotTo_yes hyes, HM.out]; simp, rfl, ?_, ((HBR.out.trans (HB4.out.mono hszr)).alloc (by omega) _).grown HG5.out (by simp; omega) (fun g e => (HO4.out.lt g e).1)⟩
          have := HO5.out
          rw [pivotTo_yes hyes]
          simpa [ints] using this
        case measure => simp [intOf]; omega
      · go_wp2_with (first
          | (go_at_call 25; refine (refWithout_any n bs (k : Nat) _ R _ HBY.out).mono ?_; rintro e w3 ⟨rfl, hb3⟩; obtain ⟨y0, y1⟩ : w3.cell? ⟨w.heap.size, 0, none⟩ = some (.int .i64 n) ∧ w3.cell? ⟨w.heap.size, 1, none⟩ = some (.slice A bs.length cap) := ⟨(HX1.out.grow hb3).cell 0, (HX1.out.grow hb3).cell 1⟩; have hs3 := hb3.size; have HB3 := Lib.hid hb3; clear hb3)
          | (go_at_call 81; refine (refW_any n bs _ R _ (HBY.out.grow HB3.out) HI.out).mono ?_; rintro e w4 ⟨rfl, hb4⟩; have hs4 := hb4.size; have HB4 := Lib.hid (HB3.out.trans (hb4.mono hs3)); have HO4 := Lib.hid (own_grow HO.out HB4.out); clear hb4))
        go_roundw
        case rel =>
          have hno : ¬ 0 < gainAt n bs k := by have := HG.out; unfold gainAt; omega
          refine ⟨k + 1, m, A', cap', by omega, by go_num, by rw [pivotTo_no hno]; exact HM.out, rfl, ?_, HBR.out.trans (HB4.out.mono hszr)⟩
          rw [pivotTo_no hno]
          exact HO4.out
        case measure => simp [intOf]; omega
    · obtain rfl : k = bs.length := by omega
      have hmm : m = (pivotC n bs).length := hm
      subst hmm
      clear hX hown hbr hbw hm
      go_wp2_with fail
      go_ret2
      exact ⟨A', cap', rfl, own_mono HO.out (by omega), HBW.out⟩
end Go.Proofs.Ytcigobiolbojhaa.Vb

/- The reference of layer 17: Gains. -/
namespace Go.Proofs.Ytcigobiolbojhaa.Vb
open Go.RowKit

/-- append at a step of a region that draws its order -/
theorem step_app {P : Program} (w : World) {ops : Array Oper} {o : Oper} {a : Act} {K : Act → World → Prop} {Q : Exit → Act → World → Prop} {E0 : Prop} (hgd : o.guard = none) (s x : Operand) {t e : TypeId} {sz bytes : Nat} (E : ElemT P t e sz bytes)
    (ho : o.op = .call { callee := .builtin .append, args := #[s, x], argTypes := #[t, t] })
    (base : Nat) (v : Value) (n : Nat) (xs : List Value) (hs : a.eval s = v) (hown : w.ownsRow base e sz v n xs)
    (R : Nat → Prop) (v2 : Value) (m : Nat) (news : List Value) (hx : a.eval x = v2) (hr : Sl w R v2 m sz news) (h1 : ∀ u ∈ news, u.oneCell' = true)
    (hbytes : (n + m) * bytes ≤ 140737488355328) (h63 : n + m ≤ maxLen) (hbase : base ≤ w.heap.size)
    (h : ∀ A' cap' w', w'.ownsRow base e sz (.slice A' (n + m) cap') (n + m) (xs ++ news) → w.grownBy w' v.ownBlock → ((Value.slice A' (n + m) cap').ownBlock = v.ownBlock ∨ (Value.slice A' (n + m) cap').ownBlock = some w.heap.size) → K (a.put o.dst (.slice A' (n + m) cap')) w') :
    if Region.wanted o (yielded ops a.tmps) = true then Oper.wp P o a w K Q else E0 := by
  have hw : Region.wanted o (yielded ops a.tmps) = true := by simp [Region.wanted, hgd]
  rw [if_pos hw]
  exact wp_app w s x E ho base v n xs hs hown R v2 m news hx hr h1 hbytes h63 hbase h

theorem gainsC_length (n : Int) (bs : List (List Off)) : (gainsC n bs).length = bs.length := by simp [gainsC]

set_option maxRecDepth 100000 in
set_option maxHeartbeats 3200000 in
theorem refGains_ok (n : Int) (bs : List (List Off)) (v : Value) (R : Nat → Prop) (w : World) (hl : Buys w R v bs) (hi : instE n bs = 0) :
    Calls Try.prog 27 #[.agg #[.int .i64 n, v]] w fun e w' => ∃ A' cap', e = .returned (.tuple #[.slice A' bs.length cap', .int .i64 0]) ∧
      w'.ownsRow w.heap.size 2 1 (.slice A' bs.length cap') bs.length (ints (gainsC n bs)) ∧ Below w.heap.size w w' := by
  obtain ⟨vs, ⟨_, A, cap, rfl, _⟩, _⟩ := id hl
  have HB := Lib.hid hl
  have HI := Lib.hid hi
  have hl32 := (instE_zero hi).2.2.1
  have HWF := Lib.hid (buys_wf hl)
  clear hl hi
  go_enter Try.func27, Try.ntmps27
  go_wp2_with (go_at_call 17; refine (refCosts_ok n bs _ R _ (HB.out.alloc _) HI.out).mono ?_; rintro e w1 ⟨AC, cC, AP, cP, rfl, hownC, hownP, hb1⟩; have hX := (one_blk' hb1).1; have HX := Lib.hid hX; have HB1 := Lib.hid (one_blk' hb1).2.2; have hs1 := (one_blk' hb1).2.1; have HC := Lib.hid hownC; have HP := Lib.hid hownP; clear hb1 hX hownC hownP)
  have hw2 : ∃ w2, w2 = w1.alloc (.cells #[.slice AC bs.length cC, .int .i64 (W bs (allOf n)), .slice AP bs.length cP] 36) := ⟨_, rfl⟩
  obtain ⟨w2, hW2⟩ := hw2
  have HX2 := Lib.hid (show Blk w2 w.heap.size _ _ from by rw [hW2]; exact HX.out.alloc _)
  have HQ2 := Lib.hid (show Blk w2 w1.heap.size 36 #[.slice AC bs.length cC, .int .i64 (W bs (allOf n)), .slice AP bs.length cP] from by rw [hW2]; exact Blk.new w1 _ _)
  have HC2 := Lib.hid (show w2.ownsRow _ _ _ _ _ _ from by rw [hW2]; exact own_alloc HC.out _)
  have HP2 := Lib.hid (show w2.ownsRow _ _ _ _ _ _ from by rw [hW2]; exact own_alloc HP.out _)
  have HBW2 := Lib.hid (show Below w.heap.size w w2 from by rw [hW2]; exact HB1.out.alloc (by omega) _)
  have hs2 : w2.heap.size = w1.heap.size + 1 := by rw [hW2]; simp
  rw [← hW2]
  clear hW2
  go_loopw [6, 7] (fun s i wr => ∃ (k : Nat) (A' : Option Addr) (cap' : Nat), k ≤ bs.length ∧ i = .int .i64 k ∧ s = .slice A' k cap' ∧
      wr.ownsRow w2.heap.size 2 1 (.slice A' k cap') k (ints ((gainsC n bs).take k)) ∧ Below w2.heap.size w2 wr)
    (fun _ i _ => bs.length - (intOf i).toNat)
  case atStart => exact ⟨0, none, 0, Nat.zero_le _, rfl, rfl, World.ownsRow_nil _ _ _ _, Below.refl _ _⟩
  case round =>
    obtain ⟨k, A', cap', hk, rfl, rfl, hown, hbr⟩ := hrel
    have hX := HX2.out.grow hbr
    have hQ := HQ2.out.grow hbr
    have x0 : wr.cell? ⟨w.heap.size, 0, none⟩ = some (.int .i64 n) := hX.cell 0
    have x1 : wr.cell? ⟨w.heap.size, 1, none⟩ = some (.slice A bs.length cap) := hX.cell 1
    have q0 : wr.cell? ⟨w1.heap.size, 0, none⟩ = some (.slice AC bs.length cC) := hQ.cell 0
    have q2 : wr.cell? ⟨w1.heap.size, 2, none⟩ = some (.slice AP bs.length cP) := hQ.cell 2
    have hbw := HBW2.out.trans (hbr.mono (by omega))
    have hszr := hbr.size
    have HO := Lib.hid hown
    have HBR := Lib.hid hbr
    have HBW := Lib.hid hbw
    have HBY := Lib.hid (HB.out.grow hbw)
    by_cases hlt : k < bs.length
    · obtain ⟨c, hc⟩ : ∃ c, (bestC n bs)[k]? = some c := ⟨_, List.getElem?_eq_getElem (by rw [bestC, choose_length]; exact hlt)⟩
      have hlC : (bestC n bs).length = bs.length := by rw [bestC, choose_length]
      have hgood := choose_get bs (allOf n) k c hc
      have hpg := paysC_get hc
      have hgain := won_gain HI.out hlt hc
      obtain ⟨gP, capP, hAP, hgP, hgP2⟩ := World.ownsRow.form HP2.out (by omega)
      injection hAP with hAP _ hcP
      subst hAP hcP
      obtain ⟨hw0, hw1⟩ := woW_bd HWF.out HI.out k
      have hok := (okb_of HWF.out HI.out).1
      have hW0 := W_nonneg bs (allOf n)
      have hW1 : W bs (allOf n) ≤ 35184372088832 := by simpa using hok.W_le 0 (allOf n)
      have hsub : IntKind.i64.wrap (coinAt bs k c - payAt n bs k c) = gainAt n bs k := by
        rw [hgain]
        exact IntWalk.i64_in _ (by unfold gainAt; omega)
      have hpc : wr.cell? ⟨gP, k, none⟩ = some (.int .i64 (payAt n bs k c)) := by
        rw [(own_grow HP2.out hbr).cellAt k (by omega)]
        simp [ints, hpg]
      have hsl : Sl wr (fun _ => True) (.slice AC bs.length cC) (bestC n bs).length 1 (ints (bestC n bs)) := by
        rw [hlC]
        exact (Sl.of_own (own_grow HC2.out hbr)).mono fun _ _ _ => trivial
      have HSL := Lib.hid (show Sl wr.drew (fun _ => True) (.slice AC bs.length cC) (bestC n bs).length 1 (ints (bestC n bs)) from hsl)
      have HBD := Lib.hid (show Buys wr.drew R (.slice A bs.length cap) bs from HBY.out)
      have HCC := Lib.hid hc
      have HGOOD := Lib.hid hgood
      have hgPr : gP < wr.heap.size := by omega
      clear hX hQ hown hbr hbw hc hgood hpg hgain hsl hlC
      go_wp2_with fail
      go_region_held3 (fun w' => w'.cell? ⟨w.heap.size, 0, none⟩ = some (.int .i64 n) ∧ w'.cell? ⟨w.heap.size, 1, none⟩ = some (.slice A bs.length cap) ∧ w'.cell? ⟨w1.heap.size, 0, none⟩ = some (.slice AC bs.length cC) ∧ w'.cell? ⟨w1.heap.size, 2, none⟩ = some (.slice (some ⟨gP, 0, none⟩) bs.length cP) ∧ w'.cell? ⟨gP, k, none⟩ = some (.int .i64 (payAt n bs k c))) (go_keep)
        (first
          | (go_at_call 82; refine (refWon_any n bs (bestC n bs) _ _ R _ k c _ _ HBD.out HSL.out HCC.out rfl HGOOD.out).mono ?_; rintro e w4 ⟨rfl, hb4⟩; obtain ⟨z0, z1, z2, z3, z4⟩ : w4.cell? ⟨w.heap.size, 0, none⟩ = some (.int .i64 n) ∧ w4.cell? ⟨w.heap.size, 1, none⟩ = some (.slice A bs.length cap) ∧ w4.cell? ⟨w1.heap.size, 0, none⟩ = some (.slice AC bs.length cC) ∧ w4.cell? ⟨w1.heap.size, 2, none⟩ = some (.slice (some ⟨gP, 0, none⟩) bs.length cP) ∧ w4.cell? ⟨gP, k, none⟩ = some (.int .i64 (payAt n bs k c)) := ⟨(hb4.cell (p := ⟨w.heap.size, 0, none⟩) (by simp; omega)).trans x0, (hb4.cell (p := ⟨w.heap.size, 1, none⟩) (by simp; omega)).trans x1, (hb4.cell (p := ⟨w1.heap.size, 0, none⟩) (by simp; omega)).trans q0, (hb4.cell (p := ⟨w1.heap.size, 2, none⟩) (by simp; omega)).trans q2, (hb4.cell (p := ⟨gP, k, none⟩) (by simp; omega)).trans hpc⟩; have hsz4 : wr.heap.size ≤ w4.heap.size := hb4.size; have HB4 := Lib.hid hb4; have HO4 := Lib.hid (show w4.ownsRow _ _ _ _ _ _ from own_grow (show wr.drew.ownsRow _ _ _ _ _ _ from HO.out) hb4); clear hb4)
          | (refine step_app _ rfl (.tmp 23) (.tmp 35) et_i64 rfl w2.heap.size (.slice A' k cap') k (ints ((gainsC n bs).take k)) rfl (HO4.out.alloc _) _ _ 1 _ rfl (Sl.new w4 #[.int .i64 (gainAt n bs k)] _ 1 1 (by unfold maxLen; omega) rfl) (by simp [Value.oneCell']) (by omega) (by unfold maxLen; omega) (by simp; omega) ?_; intro A3 cap3 w5 hown5 hg5 hloc5; have hfar : ∀ b, b < w2.heap.size → some b ≠ (Value.slice A' k cap').ownBlock := (fun b hb e => by have := (HO4.out.lt b e.symm).1; omega); obtain ⟨u0, u1, u2, u3, u4⟩ : w5.cell? ⟨w.heap.size, 0, none⟩ = some (.int .i64 n) ∧ w5.cell? ⟨w.heap.size, 1, none⟩ = some (.slice A bs.length cap) ∧ w5.cell? ⟨w1.heap.size, 0, none⟩ = some (.slice AC bs.length cC) ∧ w5.cell? ⟨w1.heap.size, 2, none⟩ = some (.slice (some ⟨gP, 0, none⟩) bs.length cP) ∧ w5.cell? ⟨gP, k, none⟩ = some (.int .i64 (payAt n bs k c)) := ⟨hg5.cell (cellAlloc z0 _) (hfar w.heap.size (by omega)), hg5.cell (cellAlloc z1 _) (hfar w.heap.size (by omega)), hg5.cell (cellAlloc z2 _) (hfar w1.heap.size (by omega)), hg5.cell (cellAlloc z3 _) (hfar w1.heap.size (by omega)), hg5.cell (cellAlloc z4 _) (hfar gP (by omega))⟩; have HG5 := Lib.hid hg5; have HO5 := Lib.hid hown5; clear hg5 hown5 hloc5))
      go_wp2_with fail
      go_roundw
      case rel =>
        have h4 : Below wr.heap.size wr w4 := (Below.refl _ _).drew.trans (show Below wr.heap.size wr.drew w4 from HB4.out)
        refine ⟨k + 1, A3, cap3, by omega, by go_num, rfl, ?_, ((HBR.out.trans (h4.mono hszr)).alloc (by omega) _).grown HG5.out (by simp; omega) (fun g e => (HO4.out.lt g e).1)⟩
        have := HO5.out
        rw [take_gains hlt]
        simpa [ints] using this
      case measure => simp [intOf]; omega
    · obtain rfl : k = bs.length := by omega
      have htk : (gainsC n bs).take bs.length = gainsC n bs := List.take_of_length_le (by simp [gainsC])
      rw [htk] at hown
      have HO' := Lib.hid hown
      clear hX hQ hown hbr hbw htk
      go_wp2_with fail
      go_ret2
      exact ⟨A', cap', rfl, own_mono HO'.out (by omega), HBW.out⟩
end Go.Proofs.Ytcigobiolbojhaa.Vb

/- Law 17's own: num, great, Income. -/
namespace Go.Proofs.Ytcigobiolbojhaa.Vb
open Go.RowKit

set_option maxHeartbeats 400000 in
theorem num_any (x : Int) (_ : -9223372036854775808 ≤ x) (_ : x ≤ 9223372036854775807) (w : World) :
    Calls Try.prog 18 #[.int .i64 x] w fun e w' => e = .returned (.int .i64 x) ∧ w = w' := by
  go_enter Try.func18, Try.ntmps18
  go_wp2
  go_ret
  exact ⟨rfl, rfl⟩

def greatB (bs : List (List Off)) : Bool := bs.any (fun l => decide (40 < l.length)) || decide (40 < bs.length)
theorem greatB_of {bs : List (List Off)} {k : Nat} {l : List Off} (h : bs[k]? = some l) (hl : 40 < l.length) : greatB bs = true := by
  unfold greatB
  rw [List.any_eq_true.2 ⟨l, List.mem_of_getElem? h, by simpa using hl⟩]
  rfl
theorem greatB_none {bs : List (List Off)} (h : ∀ j l, j < bs.length → bs[j]? = some l → ¬ 40 < l.length) : greatB bs = decide (40 < bs.length) := by
  unfold greatB
  have : bs.any (fun l => decide (40 < l.length)) = false := by
    rw [List.any_eq_false]
    intro l hl
    obtain ⟨j, hj, rfl⟩ := List.getElem_of_mem hl
    simpa using h j _ hj (List.getElem?_eq_getElem hj)
  rw [this]
  rfl

set_option maxHeartbeats 800000 in
theorem great_any (n : Int) (bs : List (List Off)) (v : Value) (R : Nat → Prop) (w : World) (hl : Buys w R v bs) :
    Calls Try.prog 13 #[.agg #[.int .i64 n, v]] w fun e w' => e = .returned (.bool (greatB bs)) ∧ Below w.heap.size w w' := by
  obtain ⟨vs, ⟨hlen, A, cap, rfl, hncap, hcap, hcells⟩, hvs⟩ := id hl
  unfold maxLen at hcap
  have hnl : bs.length ≤ 9223372036854775807 := by omega
  have HC := Lib.hid hcells
  have HV := Lib.hid hvs
  clear hl hcells hvs hlen
  go_enter Try.func13, Try.ntmps13
  go_wp2
  go_loop [3] (fun i => ∃ k : Nat, k ≤ bs.length ∧ i = .int .i64 k ∧ ∀ j l, j < k → bs[j]? = some l → ¬ 40 < l.length) (fun i => bs.length - (intOf i).toNat)
  case atStart => exact ⟨0, Nat.zero_le _, rfl, fun j x hj => by omega⟩
  case round =>
    obtain ⟨k, hk, rfl, hno⟩ := hrel
    have HN := Lib.hid hno
    clear hno
    by_cases hlt : k < bs.length
    · obtain ⟨bb, off, rfl, _, hbb, hcs⟩ := HC.out (by omega)
      obtain ⟨l, ho⟩ : ∃ l, bs[k]? = some l := ⟨_, List.getElem?_eq_getElem hlt⟩
      obtain ⟨u, hu, hol⟩ := HV.out k l ho
      have c0 := cellAlloc (hcs _ _ hu)
      obtain ⟨⟨_, A', cap', rfl, _⟩, _⟩ := hol
      clear hcs hu
      have HO := Lib.hid ho
      clear ho
      by_cases h8 : 40 < l.length
      · have h8' := Lib.hid h8
        go_wp2
        go_ret
        rw [greatB_of HO.out h8'.out]
        exact ⟨rfl, (Below.refl _ _).alloc (Nat.le_refl _) _⟩
      · have h8' := Lib.hid h8
        go_wp2
        go_round
        case rel =>
          refine ⟨k + 1, by omega, by go_num, fun j x hj hx => ?_⟩
          by_cases hjk : j < k
          · exact HN.out j x hjk hx
          · obtain rfl : j = k := by omega
            rw [HO.out] at hx
            cases hx
            exact h8'.out
        case measure => simp [intOf]; omega
    · obtain rfl : k = bs.length := by omega
      have hg := greatB_none HN.out
      have HG := Lib.hid hg
      clear hg
      go_wp2
      go_ret
      refine ⟨ret_bool ?_, (Below.refl _ _).alloc (Nat.le_refl _) _⟩
      rw [HG.out, Bool.eq_iff_iff]
      simp
      omega

def sumI : List Int → Int
  | [] => 0
  | x :: l => x + sumI l
theorem sumI_app : ∀ (a b : List Int), sumI (a ++ b) = sumI a + sumI b
  | [], b => by simp [sumI]
  | x :: a, b => by simp only [List.cons_append, sumI, sumI_app a b]; omega
theorem sumI_take {ps : List Int} {k : Nat} {c : Int} (h : ps[k]? = some c) : sumI (ps.take (k + 1)) = sumI (ps.take k) + c := by
  rw [List.take_add_one, h, sumI_app]
  simp [sumI]
theorem sumI_bd {M : Int} : ∀ (l : List Int), (∀ x ∈ l, -M ≤ x ∧ x ≤ M) → -(l.length * M) ≤ sumI l ∧ sumI l ≤ l.length * M
  | [], _ => by simp [sumI]
  | x :: l, h => by
    have h1 := h x (by simp)
    have h2 := sumI_bd l (fun y hy => h y (by simp [hy]))
    simp only [sumI, List.length_cons]
    have : ((l.length + 1 : Nat) : Int) * M = l.length * M + M := by rw [Int.natCast_add, Int.add_mul]; simp
    rw [this]
    omega

set_option maxHeartbeats 800000 in
theorem income_any (W0 : Int) (ps : List Int) (cv pv : Value) (R : Nat → Prop) (w : World) (h : Sl w R pv ps.length 1 (ints ps)) (hb : ∀ x ∈ ps, -9007199254740992 ≤ x ∧ x ≤ 9007199254740992) (hn : ps.length ≤ 40) :
    Calls Try.prog 23 #[.agg #[cv, .int .i64 W0, pv]] w fun e w' => e = .returned (.int .i64 (sumI ps)) ∧ Below w.heap.size w w' := by
  obtain ⟨_, A, cap, rfl, hnc, hcm, hcs⟩ := h
  unfold maxLen at hcm
  have HC := Lib.hid hcs
  have HB := Lib.hid hb
  clear hcs hb
  go_enter Try.func23, Try.ntmps23
  go_wp2
  go_loop [3, 9] (fun s i => ∃ k : Nat, k ≤ ps.length ∧ i = .int .i64 k ∧ s = .int .i64 (sumI (ps.take k))) (fun _ i => ps.length - (intOf i).toNat)
  case atStart => exact ⟨0, Nat.zero_le _, rfl, rfl⟩
  case round =>
    obtain ⟨k, hk, rfl, rfl⟩ := hrel
    by_cases hlt : k < ps.length
    · obtain ⟨bb, off, rfl, _, hbb, hcs⟩ := HC.out (by omega)
      obtain ⟨c, hc⟩ : ∃ c, ps[k]? = some c := ⟨_, List.getElem?_eq_getElem hlt⟩
      have c0 := cellAlloc (hcs _ _ (ints_get hc))
      have hst := sumI_take hc
      have h1 := sumI_bd (ps.take k) (fun x hx => HB.out x (List.mem_of_mem_take hx))
      have h2 := HB.out c (List.mem_of_getElem? hc)
      have hkl : ((ps.take k).length : Int) = k := by simp; omega
      rw [hkl] at h1
      have hsum : IntKind.i64.wrap (sumI (ps.take k) + c) = sumI (ps.take k) + c := IntWalk.i64_in _ (by omega)
      have HST := Lib.hid hst
      clear hst h1 h2 hc hcs
      go_wp2
      go_round
      case rel => exact ⟨k + 1, by omega, by go_num, by rw [HST.out]⟩
      case measure => simp [intOf]; omega
    · obtain rfl : k = ps.length := by omega
      rw [List.take_length]
      go_wp2
      go_ret
      exact ⟨rfl, (Below.refl _ _).alloc (Nat.le_refl _) _⟩
end Go.Proofs.Ytcigobiolbojhaa.Vb

/- vcg.Each: what it tells (the going over itself apart). -/
namespace Go.Proofs.Ytcigobiolbojhaa.Vb
open Go.RowKit

theorem ints_one (cs : List Int) : ∀ u ∈ ints cs, u.oneCell' = true := by
  intro u hu
  simp [ints] at hu
  obtain ⟨x, _, rfl⟩ := hu
  rfl

set_option maxHeartbeats 400000 in
theorem clone_i64 (xs : List Value) (n : Nat) (v : Value) (R : Nat → Prop) (w : World) (hl : Sl w R v n 1 xs) (h1 : ∀ u ∈ xs, u.oneCell' = true) (hb : n * 8 ≤ 140737488355328) :
    Calls Try.prog 78 #[v] w fun e w' => ∃ A' cap', e = .returned (.slice A' n cap') ∧ w'.ownsRow w.heap.size 2 1 (.slice A' n cap') n xs ∧ Below w.heap.size w w' := by
  obtain ⟨hlen, A, cap, rfl, hncap, hcap, hcells⟩ := id hl
  have HS := Lib.hid hl
  clear hl hcells
  have hq := fun (W : World) (a : Option Addr) => Lib.run_eql_slice_nil (P := Try.prog) W 34 2 a n cap 0 0 Try.underlying34
  cases A with
  | none =>
    have hn : n = 0 := by
      obtain ⟨_, A, c, h, _, _, hc⟩ := HS.out
      injection h with hA _ _
      subst hA
      rcases Nat.eq_zero_or_pos n with h0 | h0
      · exact h0
      · obtain ⟨b, off, h, _⟩ := hc h0
        cases h
    subst hn
    have hx : xs = [] := List.eq_nil_of_length_eq_zero (by simpa using hlen)
    subst hx
    go_enter Try.func78, Try.ntmps78
    go_wp2
    go_ret
    exact ⟨none, 0, rfl, World.ownsRow_nil _ _ _ _, Below.refl _ _⟩
  | some ad =>
    clear hlen
    go_enter Try.func78, Try.ntmps78
    go_wp2_with (at_builtin; refine wpList_app _ rfl (.tmp 5) (.tmp 6) et_i64 rfl w.heap.size (.slice (some ⟨w.heap.size, 0, none⟩) 0 0) 0 [] rfl (World.ownsRow_lit w #[] 0 (Nat.le_refl _) (Nat.zero_le _) rfl) R _ n xs rfl (HS.out.alloc _) h1 (by omega) (by unfold maxLen; omega) (by simp) ?_; intro A' cap' w1 hown hg hloc)
    go_ret
    refine ⟨A', cap', by simp, by simpa using hown, ((Below.refl _ _).alloc (Nat.le_refl _) _).grown hg (by simp) (by simp [Value.ownBlock])⟩

set_option maxHeartbeats 800000 in
theorem each_err (n : Int) (bs : List (List Off)) (v : Value) (R : Nat → Prop) (w : World) (hl : Buys w R v bs) (hs : Small bs) (hi : instE n bs ≠ 0) :
    Calls Try.prog 16 #[.agg #[.int .i64 n, v]] w fun e w' => e = .returned (.tuple #[.nilFunc, .int .i64 (instE n bs)]) ∧ Below w.heap.size w w' := by
  obtain ⟨vs, ⟨_, A, cap, rfl, _⟩, _⟩ := id hl
  have HB := Lib.hid hl
  have HS := Lib.hid hs
  have hcb : (instE n bs != 0) = true := by simpa using hi
  have HI := Lib.hid hi
  clear hl hi hs
  go_enter Try.func16, Try.ntmps16
  go_wp2_with (first
    | (go_at_call 77; refine (copy_any n bs _ R _ (HB.out.alloc _) HS.out).mono ?_; rintro e w1 ⟨A1, c1, rfl, hob, hb1⟩; have hs1 := hb1.size; have HB1 := Lib.hid (((Below.refl _ _).alloc (Nat.le_refl _) _).trans (hb1.mono (B' := w.heap.size) (by simp))); have HOB := Lib.hid hob; clear hb1 hob)
    | (go_at_call 21; refine (costs_err n bs _ _ _ HOB.out.buys HI.out).mono ?_; rintro e w2 ⟨rfl, hb2⟩; have HB2 := Lib.hid (HB1.out.trans (hb2.mono HB1.out.size)); clear hb2))
  go_ret2
  exact ⟨rfl, HB2.out.alloc HB2.out.size _⟩

/-- where the iterator's two variables lie, and what they hold -/
structure EachAt (w : World) (lo pb pp : Nat) (n : Int) (bs : List (List Off)) : Prop where
  at_ : ∃ A1 c1 A2 c2 A3 c3, Blk w pb 36 #[.slice A1 bs.length c1, .int .i64 (W bs (allOf n)), .slice A2 bs.length c2] ∧ Blk w pp 34 #[.slice A3 bs.length c3] ∧
    w.ownsRow lo 3 1 (.slice A1 bs.length c1) bs.length (ints (bestC n bs)) ∧ w.ownsRow lo 2 1 (.slice A3 bs.length c3) bs.length (ints (paysC n bs))

theorem EachAt.grow {w w' : World} {lo pb pp : Nat} {n : Int} {bs : List (List Off)} (h : EachAt w lo pb pp n bs) (hb : Below w.heap.size w w') : EachAt w' lo pb pp n bs := by
  obtain ⟨A1, c1, A2, c2, A3, c3, h1, h2, h3, h4⟩ := h.at_
  exact ⟨A1, c1, A2, c2, A3, c3, h1.grow hb, h2.grow hb, own_grow h3 hb, own_grow h4 hb⟩

set_option maxHeartbeats 800000 in
theorem each_ok (n : Int) (bs : List (List Off)) (v : Value) (R : Nat → Prop) (w : World) (hl : Buys w R v bs) (hi : instE n bs = 0) :
    Calls Try.prog 16 #[.agg #[.int .i64 n, v]] w fun e w' => ∃ pb pp, e = .returned (.tuple #[.func (.func 79) #[] #[.pointer (some ⟨pb, 0, none⟩), .pointer (some ⟨pp, 0, none⟩)], .int .i64 0]) ∧
      EachAt w' w.heap.size pb pp n bs ∧ w.heap.size ≤ pb ∧ w.heap.size ≤ pp ∧ Below w.heap.size w w' := by
  obtain ⟨vs, ⟨_, A, cap, rfl, _⟩, _⟩ := id hl
  have HB := Lib.hid hl
  have HS := Lib.hid (instE_small hi)
  have hl32 := (instE_zero hi).2.2.1
  have HI := Lib.hid hi
  clear hl hi
  go_enter Try.func16, Try.ntmps16
  go_wp2_with (first
    | (go_at_call 77; refine (copy_any n bs _ R _ (HB.out.alloc _) HS.out).mono ?_; rintro e w1 ⟨A1, c1, rfl, hob, hb1⟩; have hs1 := hb1.size; simp at hs1; have HB1 := Lib.hid (((Below.refl _ _).alloc (Nat.le_refl _) _).trans (hb1.mono (B' := w.heap.size) (by simp))); have HOB := Lib.hid hob; clear hb1 hob)
    | (go_at_call 21; refine (costs_ok n bs _ _ _ HOB.out.buys HI.out).mono ?_; rintro e w2 ⟨AC, cC, AP, cP, rfl, hownC, hownP, hb2⟩; have hs2 := hb2.size; have HB2 := Lib.hid (HB1.out.trans (hb2.mono HB1.out.size)); have HC2 := Lib.hid hownC; have HP2 := Lib.hid hownP; clear hb2 hownC hownP)
    | (go_at_call 78; refine (clone_i64 (ints (paysC n bs)) bs.length _ _ _ ((Sl.of_own HP2.out).alloc _) (ints_one _) (by omega)).mono ?_; rintro e w3 ⟨A3, c3, rfl, hown3, hb3⟩; have HB3 := Lib.hid hb3; have HO3 := Lib.hid hown3; clear hb3 hown3))
  go_ret2
  have h3 := HB3.out.size
  simp at h3
  refine ⟨_, _, rfl, ⟨AC, cC, AP, cP, A3, c3, ((Blk.new w2 _ _).grow HB3.out).alloc _, Blk.new w3 _ _, ?_, ?_⟩, by omega, by omega, ?_⟩
  · exact own_mono (own_alloc (own_grow (own_alloc HC2.out _) HB3.out) _) (by omega)
  · exact own_mono (own_alloc HO3.out _) (by simp; omega)
  · exact ((HB2.out.alloc HB2.out.size _).trans (HB3.out.mono (by simp; omega))).alloc (by omega) _
end Go.Proofs.Ytcigobiolbojhaa.Vb

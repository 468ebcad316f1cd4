/- Joined by program: TruC TruD TruE. -/
import Derived.Test.YtcigobiolbojhaaZj
/- truth.Shades, the reference's; law 29's own: offers, stays. -/
namespace Go.Proofs.Ytcigobiolbojhaa.Vb
open Go.RowKit

def shL (tr : List Off) (by_ : List Int) : List (List Off) := by_.map fun c => lowL (max c 0) tr
theorem shL_take {tr : List Off} {l : List Int} {k : Nat} {c : Int} (h : l[k]? = some c) : shL tr (l.take (k + 1)) = shL tr (l.take k) ++ [lowL (max c 0) tr] := by
  unfold shL
  rw [List.take_add_one, h]
  simp
theorem lowX_wf (c : Int) (l : List Off) (h : ∀ o ∈ l, o.wf) : ∀ o ∈ lowL (max c 0) l, o.wf := lowL_wf (max c 0) (by omega) l h

set_option maxRecDepth 100000 in
set_option maxHeartbeats 1600000 in
theorem shades_any (tr : List Off) (bys : List Int) (v vb : Value) (R Rb : Nat → Prop) (w : World) (hl : Offs w R v tr) (hb : Sl w Rb vb bys.length 1 (ints bys)) (hsm : tr.length ≤ 64) (hbl : bys.length ≤ 1000) (hbd : ∀ c ∈ bys, -9223372036854775808 ≤ c ∧ c ≤ 9223372036854775807) :
    Calls Try.prog 61 #[v, vb] w fun e w' => ∃ A' cap', e = .returned (.slice A' bys.length cap') ∧ OwnBuys w' w.heap.size (.slice A' bys.length cap') (shL tr bys) ∧ Below w.heap.size w w' := by
  have HL := Lib.hid hl
  have HBY := Lib.hid hb
  have HBD := Lib.hid hbd
  obtain ⟨⟨_, A, cap, rfl, _⟩, hwf⟩ := id hl
  obtain ⟨_, Ab, capb, rfl, _⟩ := id hb
  have HWF := Lib.hid hwf
  clear hl hb hbd hwf
  go_enter Try.func61, Try.ntmps61
  go_wp2
  go_loopw [5, 10] (fun s i wr => ∃ k : Nat, k ≤ bys.length ∧ i = .int .i64 k ∧ (∃ A' cap', s = .slice A' k cap' ∧ OwnBuys wr w.heap.size (.slice A' k cap') (shL tr (bys.take k))) ∧ Below w.heap.size w wr) (fun _ i _ => bys.length - (intOf i).toNat)
  case atStart => exact ⟨0, Nat.zero_le _, rfl, ⟨none, 0, rfl, OwnBuys.nil _ _⟩, Below.refl _ _⟩
  case round =>
    obtain ⟨k, hk, rfl, ⟨A', cap', rfl, hob⟩, hb⟩ := hrel
    by_cases hlt : k < bys.length
    · obtain ⟨bq, of, c, rfl, _, hck, q0⟩ := (HBY.out.grow hb).int_at hlt
      have hcb := HBD.out c (List.mem_of_getElem? hck)
      obtain ⟨vs', hs', ho'⟩ := hob
      have hlk : (shL tr (bys.take k)).length = k := by simp [shL]; omega
      rw [hlk] at hs'
      have HS := Lib.hid hs'
      have HO := Lib.hid ho'
      have HTK := Lib.hid (shL_take (tr := tr) hck)
      have HBB := Lib.hid hb
      have HLK := Lib.hid hlk
      have hsz := hb.size
      have e0 : (0 : Int) ≤ (k : Int) := by omega
      have e1 : (k : Int) < (bys.length : Int) := by omega
      obtain ⟨ll, hll⟩ : ∃ z, z = lowL (max c 0) tr := ⟨_, rfl⟩
      have hln := lowL_len (max c 0) tr
      rw [← hll] at hln
      have HLL := Lib.hid hll
      clear hb hs' ho' hck hlk hll
      go_wp2_with (first
        | (go_at_call 107; refine (lowerX_any c hcb tr _ R wr (HL.out.grow HBB.out) hsm).mono ?_; rintro e w1 ⟨A2, cap2, rfl, hown2, hb2⟩; rw [← HLL.out] at hown2 ⊢; have HW2 := Lib.hid hown2; have HB2 := Lib.hid hb2; have hsz1 := hb2.size; clear hown2 hb2)
        | (at_builtin; refine wpList_app _ rfl (.tmp 14) (.tmp 18) et_offs rfl w.heap.size (.slice A' k cap') k vs' rfl ((own_grow HS.out HB2.out).alloc _) _ _ 1 _ rfl (Sl.new w1 #[.slice A2 ll.length cap2] _ 1 1 (by unfold maxLen; omega) rfl) (by simp [Value.oneCell']) (by omega) (by unfold maxLen; omega) (by simp; omega) ?_; intro A3 cap3 w3 hown3 hg3 hloc3; have HW3 := Lib.hid hown3; have HG3 := Lib.hid hg3; have HL3 := Lib.hid hloc3; clear hown3 hg3 hloc3))
      go_roundw
      case rel =>
        have hclone : Offs (w1.alloc (.cells #[.slice A2 ll.length cap2] 41)) (fun b => w.heap.size ≤ b ∧ (Value.slice A' k cap').ownBlock ≠ some b) (.slice A2 ll.length cap2) ll := by
          refine ⟨((Sl.of_own HW2.out).alloc _).mono fun b _ hb => ⟨?_, fun e => ?_⟩, ?_⟩
          · have := (HW2.out.lt b hb).1; omega
          · have h1 := (HW2.out.lt b hb).1
            have h2 := (HS.out.lt b e).2
            omega
          · rw [HLL.out]
            exact lowX_wf c tr HWF.out
        have hold : ∀ (j : Nat) (l2 : List Off), (shL tr (bys.take k))[j]? = some l2 → ∃ u, vs'[j]? = some u ∧ Offs (w1.alloc (.cells #[.slice A2 ll.length cap2] 41)) (fun b => w.heap.size ≤ b ∧ (Value.slice A' k cap').ownBlock ≠ some b) u l2 :=
          fun j l2 hj => let ⟨u, hu, hl⟩ := HO.out j l2 hj; ⟨u, hu, (hl.grow HB2.out).alloc _⟩
        refine ⟨k + 1, by omega, by go_num, ⟨A3, cap3, rfl, ?_⟩, ?_⟩
        · rw [HTK.out, ← HLL.out]
          exact OwnBuys.snoc HLK.out ((own_grow HS.out HB2.out).alloc _) hold hclone HW3.out HG3.out HL3.out
        · exact ((HBB.out.trans (HB2.out.mono (by omega))).alloc (by omega) _).grown HG3.out (by simp; omega) (fun g e => (HS.out.lt g e).1)
      case measure => simp [intOf]; omega
    · obtain rfl : k = bys.length := by omega
      rw [List.take_length] at hob
      have HOB := Lib.hid hob
      have HBB := Lib.hid hb
      clear hob hb
      go_wp2
      go_ret
      exact ⟨A', cap', rfl, HOB.out, HBB.out⟩

set_option maxRecDepth 100000 in
set_option maxHeartbeats 1600000 in
theorem refShades_any (tr : List Off) (bys : List Int) (v vb : Value) (R Rb : Nat → Prop) (w : World) (hl : Offs w R v tr) (hb : Sl w Rb vb bys.length 1 (ints bys)) (hsm : tr.length ≤ 64) (hbl : bys.length ≤ 1000) (hbd : ∀ c ∈ bys, -9223372036854775808 ≤ c ∧ c ≤ 9223372036854775807) :
    Calls Try.prog 62 #[v, vb] w fun e w' => ∃ A' cap', e = .returned (.slice A' bys.length cap') ∧ OwnBuys w' w.heap.size (.slice A' bys.length cap') (shL tr bys) ∧ Below w.heap.size w w' := by
  have HL := Lib.hid hl
  have HBY := Lib.hid hb
  have HBD := Lib.hid hbd
  obtain ⟨⟨_, A, cap, rfl, _⟩, hwf⟩ := id hl
  obtain ⟨_, Ab, capb, rfl, _⟩ := id hb
  have HWF := Lib.hid hwf
  clear hl hb hbd hwf
  go_enter Try.func62, Try.ntmps62
  go_wp2
  go_loopw [5, 6] (fun s i wr => ∃ k : Nat, k ≤ bys.length ∧ i = .int .i64 k ∧ (∃ A' cap', s = .slice A' k cap' ∧ OwnBuys wr w.heap.size (.slice A' k cap') (shL tr (bys.take k))) ∧ Below w.heap.size w wr) (fun _ i _ => bys.length - (intOf i).toNat)
  case atStart => exact ⟨0, Nat.zero_le _, rfl, ⟨none, 0, rfl, OwnBuys.nil _ _⟩, Below.refl _ _⟩
  case round =>
    obtain ⟨k, hk, rfl, ⟨A', cap', rfl, hob⟩, hb⟩ := hrel
    by_cases hlt : k < bys.length
    · obtain ⟨bq, of, c, rfl, _, hck, q0⟩ := (HBY.out.grow hb).int_at hlt
      have hcb := HBD.out c (List.mem_of_getElem? hck)
      obtain ⟨vs', hs', ho'⟩ := hob
      have hlk : (shL tr (bys.take k)).length = k := by simp [shL]; omega
      rw [hlk] at hs'
      have HS := Lib.hid hs'
      have HO := Lib.hid ho'
      have HTK := Lib.hid (shL_take (tr := tr) hck)
      have HBB := Lib.hid hb
      have HLK := Lib.hid hlk
      have hsz := hb.size
      have e0 : (0 : Int) ≤ (k : Int) := by omega
      have e1 : (k : Int) < (bys.length : Int) := by omega
      obtain ⟨ll, hll⟩ : ∃ z, z = lowL (max c 0) tr := ⟨_, rfl⟩
      have hln := lowL_len (max c 0) tr
      rw [← hll] at hln
      have HLL := Lib.hid hll
      clear hb hs' ho' hck hlk hll
      go_wp2_with (first
        | (go_at_call 105; refine (refLowerX_any c hcb tr _ R wr (HL.out.grow HBB.out) hsm).mono ?_; rintro e w1 ⟨A2, cap2, rfl, hown2, hb2⟩; rw [← HLL.out] at hown2 ⊢; have HW2 := Lib.hid hown2; have HB2 := Lib.hid hb2; have hsz1 := hb2.size; clear hown2 hb2)
        | (at_builtin; refine wpList_app _ rfl (.tmp 13) (.tmp 20) et_offs rfl w.heap.size (.slice A' k cap') k vs' rfl ((own_grow HS.out HB2.out).alloc _) _ _ 1 _ rfl (Sl.new w1 #[.slice A2 ll.length cap2] _ 1 1 (by unfold maxLen; omega) rfl) (by simp [Value.oneCell']) (by omega) (by unfold maxLen; omega) (by simp; omega) ?_; intro A3 cap3 w3 hown3 hg3 hloc3; have HW3 := Lib.hid hown3; have HG3 := Lib.hid hg3; have HL3 := Lib.hid hloc3; clear hown3 hg3 hloc3))
      go_roundw
      case rel =>
        have hclone : Offs (w1.alloc (.cells #[.slice A2 ll.length cap2] 41)) (fun b => w.heap.size ≤ b ∧ (Value.slice A' k cap').ownBlock ≠ some b) (.slice A2 ll.length cap2) ll := by
          refine ⟨((Sl.of_own HW2.out).alloc _).mono fun b _ hb => ⟨?_, fun e => ?_⟩, ?_⟩
          · have := (HW2.out.lt b hb).1; omega
          · have h1 := (HW2.out.lt b hb).1
            have h2 := (HS.out.lt b e).2
            omega
          · rw [HLL.out]
            exact lowX_wf c tr HWF.out
        have hold : ∀ (j : Nat) (l2 : List Off), (shL tr (bys.take k))[j]? = some l2 → ∃ u, vs'[j]? = some u ∧ Offs (w1.alloc (.cells #[.slice A2 ll.length cap2] 41)) (fun b => w.heap.size ≤ b ∧ (Value.slice A' k cap').ownBlock ≠ some b) u l2 :=
          fun j l2 hj => let ⟨u, hu, hl⟩ := HO.out j l2 hj; ⟨u, hu, (hl.grow HB2.out).alloc _⟩
        refine ⟨k + 1, by omega, by go_num, ⟨A3, cap3, rfl, ?_⟩, ?_⟩
        · rw [HTK.out, ← HLL.out]
          exact OwnBuys.snoc HLK.out ((own_grow HS.out HB2.out).alloc _) hold hclone HW3.out HG3.out HL3.out
        · exact ((HBB.out.trans (HB2.out.mono (by omega))).alloc (by omega) _).grown HG3.out (by simp; omega) (fun g e => (HS.out.lt g e).1)
      case measure => simp [intOf]; omega
    · obtain rfl : k = bys.length := by omega
      rw [List.take_length] at hob
      have HOB := Lib.hid hob
      have HBB := Lib.hid hb
      clear hob hb
      go_wp2
      go_ret
      exact ⟨A', cap', rfl, HOB.out, HBB.out⟩

theorem OffOwn.offs {w : World} {lo n cap : Nat} {A : Option Addr} {l : List Off} (h : w.ownsRow lo 45 2 (.slice A n cap) n (Off.all l)) (hn : l.length = n) (hwf : ∀ o ∈ l, o.wf) : Offs w (lo ≤ ·) (.slice A n cap) l := by
  subst hn
  exact ⟨Sl.own_from h, hwf⟩

/-- offers in memory of their own, with a mark behind -/
def LentO (w : World) (lo g c : Nat) (l : List Off) : Prop := w.ownsRow lo 45 2 (.slice (some ⟨g, 0, none⟩) (l.length + 1) c) (l.length + 1) (Off.all (l ++ [⟨77, -77⟩])) ∧ ∀ o ∈ l, o.wf
theorem LentO.grow {w w' : World} {lo g c : Nat} {l : List Off} (h : LentO w lo g c l) (hb : Below w.heap.size w w') : LentO w' lo g c l := ⟨own_grow h.1 hb, h.2⟩
theorem LentO.offs {w : World} {lo g c : Nat} {l : List Off} (h : LentO w lo g c l) : Offs w (lo ≤ ·) (.slice (some ⟨g, 0, none⟩) l.length c) l := by
  obtain ⟨h, hwf⟩ := h
  obtain ⟨hlen, A', c', hv, hnc, hcm, hcs⟩ := Sl.own_from h
  injection hv with hA _ hc
  subst hA hc
  obtain ⟨b, off, hA, hR, hlt, hc⟩ := hcs (by omega)
  injection hA with hA
  injection hA with hb ho
  subst hb ho
  exact ⟨⟨by rw [Off.all_length], _, _, rfl, by omega, hcm, fun _ => ⟨g, 0, rfl, hR, hlt, fun j u hu => hc j u (by
    rw [show Off.all (l ++ [⟨77, -77⟩]) = Off.all l ++ [.int .u32 77, .int .i64 (-77)] by simp [Off.all, Off.cells]]
    rw [List.getElem?_append_left (List.getElem?_eq_some_iff.1 hu).1]
    exact hu)⟩⟩, hwf⟩
theorem LentO.mark {w : World} {lo g c : Nat} {l : List Off} (h : LentO w lo g c l) : l.length + 1 ≤ c ∧ c ≤ maxLen ∧ w.cell? ⟨g, l.length * 2 + 1, none⟩ = some (.int .i64 (-77)) ∧ w.cell? ⟨g, l.length * 2, none⟩ = some (.int .u32 77) ∧ lo ≤ g ∧ g < w.heap.size := by
  obtain ⟨h, hwf⟩ := h
  have h1 := h.cellAt (l.length * 2 + 1) (by omega)
  have h2 := h.cellAt (l.length * 2) (by omega)
  have hl := h.lt g rfl
  obtain ⟨_, A', c', hv, hnc, hcm, _⟩ := Sl.of_own h
  injection hv with _ _ hc
  subst hc
  rw [show Off.all (l ++ [⟨77, -77⟩]) = Off.all l ++ [.int .u32 77, .int .i64 (-77)] by simp [Off.all, Off.cells], List.getElem?_append_right (by rw [Off.all_length]; omega), Off.all_length] at h1 h2
  refine ⟨hnc, hcm, ?_, ?_, hl.1, hl.2⟩
  · rw [h1]; simp
  · rw [h2]; simp

set_option maxRecDepth 100000 in
set_option maxHeartbeats 1600000 in
theorem offers29_any (l : List Off) (v : Value) (R : Nat → Prop) (w : World) (hl : Offs w R v l) (hsm : l.length ≤ 1000000) :
    Calls Try.prog 60 #[v] w fun e w' => ∃ g c, e = .returned (.slice (some ⟨g, 0, none⟩) l.length c) ∧ LentO w' w.heap.size g c l ∧ Below w.heap.size w w' := by
  have HL := Lib.hid hl
  obtain ⟨⟨_, A, cap, rfl, _⟩, _⟩ := id hl
  clear hl
  go_enter Try.func60, Try.ntmps60
  go_wp2_with (at_builtin; first
    | (refine wpList_app _ rfl (.tmp 3) (.tmp 4) et_off rfl w.heap.size (.slice (some ⟨w.heap.size, 0, none⟩) 0 0) 0 [] rfl (World.ownsRow_lit w #[] 0 (Nat.le_refl _) (Nat.zero_le _) rfl) R _ l.length (Off.all l) rfl (HL.out.1.alloc _) (Off.all_one l) (by omega) (by unfold maxLen; omega) (by simp) ?_; intro A1 c1 w1 hown1 hg1 _; rw [Nat.zero_add] at hown1 ⊢; rw [List.nil_append] at hown1; have HO1 := Lib.hid hown1; have HG1 := Lib.hid (((Below.refl w.heap.size w).alloc (Nat.le_refl _) (.cells #[] 45)).grown hg1 (by simp) (fun r e => by simp [Value.ownBlock] at e; omega)); clear hown1 hg1)
    | (have := HO1; go_must (refine wpList_app _ rfl (.tmp 5) (.tmp 7) et_off rfl w.heap.size (.slice A1 l.length c1) l.length (Off.all l) rfl (own_alloc HO1.out _) _ _ 1 _ rfl (Sl.new w1 #[.int .u32 77, .int .i64 (-77)] _ 1 2 (by unfold maxLen; omega) rfl) (by simp [Value.oneCell']) (by omega) (by unfold maxLen; omega) (by have := HG1.out.size; simp <;> omega) ?_); go_must (intro A2 c2 w2 hown2 hg2 _; obtain ⟨g, cm, hform, hgm1, hgm2⟩ := World.ownsRow.form hown2 (by omega); injection hform with hA2 _ hc2; subst hA2 hc2; have hnc : l.length + 1 ≤ c2 := (by obtain ⟨_, _, _, hv9, hnc9, _, _⟩ := Sl.of_own hown2; injection hv9 with _ _ hc9; all_goals omega); have hc41 : ((l.length : Nat) : Int) ≤ (c2 : Int) := (by omega); have hc40 : (0 : Int) ≤ ((l.length : Nat) : Int) := (by omega); have HO2 := Lib.hid hown2; have HG2 := Lib.hid ((HG1.out.alloc HG1.out.size (.cells #[.int .u32 77, .int .i64 (-77)] 45)).grown hg2 (by have := HG1.out.size; simp <;> omega) (fun r e => (HO1.out.lt r e).1)); clear hown2 hg2 hnc)))
  refine bodyPost_ret (v := .slice (some ⟨g, 0, none⟩) l.length c2) (by simp [results, Try.results60, go_sem]) rfl ⟨g, c2, rfl, ⟨?_, HL.out.2⟩, HG2.out⟩
  have := HO2.out
  rw [show Off.all (l ++ [⟨77, -77⟩]) = Off.all l ++ [.int .u32 77, .int .i64 (-77)] by simp [Off.all, Off.cells]]
  simpa using this

set_option maxHeartbeats 800000 in
theorem stays29_any (l : List Off) (g c lo : Nat) (v : Value) (R : Nat → Prop) (w : World) (hm : LentO w lo g c l) (hl : Offs w R v l) (hsm : l.length ≤ 1000000) :
    Calls Try.prog 65 #[.slice (some ⟨g, 0, none⟩) l.length c, v] w fun e w' => e = .returned (.bool true) ∧ Below w.heap.size w w' := by
  have HM := Lib.hid hm
  have HL := Lib.hid hl
  obtain ⟨⟨_, A, cap, rfl, _⟩, _⟩ := id hl
  obtain ⟨h1, h2, _⟩ := hm.mark
  clear hm hl
  have hwr : IntKind.i64.wrap ((l.length : Int) + 1) = l.length + 1 := IntWalk.i64_in _ (by omega)
  have hn0 : (0 : Int) ≤ (l.length : Int) := by omega
  have hn1 : (l.length : Int) + 1 ≤ (c : Int) := by omega
  have hn2 : (0 : Int) ≤ (l.length : Int) + 1 := by omega
  have hn3 : ((l.length : Int) + 1).toNat = l.length + 1 := by omega
  have hn4 : (l.length : Int) < ((l.length + 1 : Nat) : Int) := by omega
  go_enter Try.func65, Try.ntmps65
  go_wp2_with fail
  refine (refSameOff_true l _ _ _ R w HM.out.offs HL.out).mono ?_
  rintro e w1 ⟨rfl, hb1⟩
  have hc := (HM.out.grow hb1).mark.2.2.1
  have HB1 := Lib.hid hb1
  clear hb1
  go_wp2_with fail
  go_ret
  exact ⟨rfl, HB1.out⟩
end Go.Proofs.Ytcigobiolbojhaa.Vb

/- truth.Shades: each list in memory of its own. -/
namespace Go.Proofs.Ytcigobiolbojhaa.Vb
open Go.RowKit

def SepRows (w : World) (lo : Nat) (vs : List Value) (bs : List (List Off)) : Prop :=
  (∀ (k : Nat) (l : List Off), bs[k]? = some l → ∃ A c, vs[k]? = some (.slice A l.length c) ∧ w.ownsRow lo 45 2 (.slice A l.length c) l.length (Off.all l) ∧ ∀ o ∈ l, o.wf) ∧
  ∀ (i j : Nat) (u u' : Value) (g : Nat), i ≠ j → vs[i]? = some u → vs[j]? = some u' → u.ownBlock = some g → u'.ownBlock ≠ some g
/-- lists in memory of their own, each apart -/
def SepBuys (w : World) (lo : Nat) (v : Value) (bs : List (List Off)) : Prop := ∃ vs, w.ownsRow lo 41 1 v bs.length vs ∧ SepRows w lo vs bs
theorem SepBuys.nil (w : World) (lo : Nat) : SepBuys w lo (.slice none 0 0) [] := ⟨[], World.ownsRow_nil _ _ _ _, fun k l hk => by simp at hk, fun i j u u' g _ h => by simp at h⟩
theorem SepRows.grow {w w' : World} {lo : Nat} {vs : List Value} {bs : List (List Off)} (h : SepRows w lo vs bs) (hb : Below w.heap.size w w') : SepRows w' lo vs bs :=
  ⟨fun k l hk => let ⟨A, c, h1, h2, h3⟩ := h.1 k l hk; ⟨A, c, h1, own_grow h2 hb, h3⟩, h.2⟩
theorem SepBuys.grow {w w' : World} {lo : Nat} {v : Value} {bs : List (List Off)} (h : SepBuys w lo v bs) (hb : Below w.heap.size w w') : SepBuys w' lo v bs := by
  obtain ⟨vs, h1, h2⟩ := h
  exact ⟨vs, own_grow h1 hb, h2.grow hb⟩
theorem SepBuys.buys {w : World} {lo : Nat} {v : Value} {bs : List (List Off)} (h : SepBuys w lo v bs) : Buys w (lo ≤ ·) v bs := by
  obtain ⟨vs, hs, ho, _⟩ := h
  exact ⟨vs, Sl.own_from hs, fun k l hk => let ⟨A, c, h1, h2, h3⟩ := ho k l hk; ⟨_, h1, Sl.own_from h2, h3⟩⟩
/-- One list more. -/
theorem SepBuys.snoc {w w' : World} {lo B : Nat} {v : Value} {bs : List (List Off)} {vs : List Value} {l : List Off} {A A' : Option Addr} {c cap' n : Nat} (hn : bs.length = n)
    (hs : w.ownsRow lo 41 1 v n vs) (hr : SepRows w lo vs bs) (hB : ∀ (k : Nat) (u : Value) (g : Nat), vs[k]? = some u → u.ownBlock = some g → g < B) (hlo : lo ≤ B)
    (hl : w.ownsRow B 45 2 (.slice A l.length c) l.length (Off.all l)) (hw : ∀ o ∈ l, o.wf)
    (hown : w'.ownsRow lo 41 1 (.slice A' (n + 1) cap') (n + 1) (vs ++ [.slice A l.length c])) (hg : w.grownBy w' v.ownBlock) : SepBuys w' lo (.slice A' (n + 1) cap') (bs ++ [l]) := by
  subst hn
  have hlen : vs.length = bs.length := by simpa using hs.1
  have step : ∀ {lo2 : Nat} {u : Value} {m : Nat} {xs : List Value}, w.ownsRow lo2 45 2 u m xs → w'.ownsRow lo2 45 2 u m xs := fun h => own_far h hg fun g e => own_ne hs h (by decide) e
  refine ⟨vs ++ [.slice A l.length c], by simpa using hown, fun k l' hk => ?_, fun i j u u' g hij hi hj hu => ?_⟩
  · by_cases hkl : k < bs.length
    · rw [List.getElem?_append_left hkl] at hk
      obtain ⟨b', c', h1, h2, h3⟩ := hr.1 k l' hk
      exact ⟨b', c', by rw [List.getElem?_append_left (by omega)]; exact h1, step h2, h3⟩
    · have : k = bs.length := by
        rcases Nat.lt_or_ge k (bs ++ [l]).length with h | h
        · simp at h; omega
        · rw [List.getElem?_eq_none h] at hk; cases hk
      subst this
      simp at hk
      subst hk
      exact ⟨A, c, by rw [← hlen]; simp, own_mono (step hl) hlo, hw⟩
  · have key : ∀ (k : Nat) (x : Value), (vs ++ [Value.slice A l.length c])[k]? = some x → (k < vs.length ∧ vs[k]? = some x) ∨ (k = vs.length ∧ x = .slice A l.length c) := by
      intro k x hx
      rcases Nat.lt_or_ge k vs.length with h | h
      · rw [List.getElem?_append_left h] at hx
        exact .inl ⟨h, hx⟩
      · rw [List.getElem?_append_right h] at hx
        have hk : k - vs.length = 0 := by
          rcases Nat.eq_zero_or_pos (k - vs.length) with h0 | h0
          · exact h0
          · rw [List.getElem?_eq_none (by simp; omega)] at hx; cases hx
        rw [hk] at hx
        simp at hx
        exact .inr ⟨by omega, hx.symm⟩
    intro hu'
    rcases key i u hi with ⟨h1, h2⟩ | ⟨h1, rfl⟩
    · rcases key j u' hj with ⟨h3, h4⟩ | ⟨h3, rfl⟩
      · exact hr.2 i j u u' g hij h2 h4 hu hu'
      · have a := hB i u g h2 hu
        have b := (hl.lt g hu').1
        omega
    · rcases key j u' hj with ⟨h3, h4⟩ | ⟨h3, rfl⟩
      · have a := hB j u' g h4 hu'
        have b := (hl.lt g hu).1
        omega
      · omega
theorem SepRows.lt {w : World} {lo : Nat} {vs : List Value} {bs : List (List Off)} (h : SepRows w lo vs bs) (hl : vs.length = bs.length) : ∀ (k : Nat) (u : Value) (g : Nat), vs[k]? = some u → u.ownBlock = some g → lo ≤ g ∧ g < w.heap.size := by
  intro k u g hu hg
  have hk : k < bs.length := by rw [← hl]; exact (List.getElem?_eq_some_iff.1 hu).1
  obtain ⟨A, c, h1, h2, _⟩ := h.1 k _ (List.getElem?_eq_getElem hk)
  rw [hu] at h1
  injection h1 with h1
  subst h1
  exact h2.lt g hg

set_option maxRecDepth 100000 in
set_option maxHeartbeats 1600000 in
theorem shadesS_any (tr : List Off) (bys : List Int) (v vb : Value) (R Rb : Nat → Prop) (w : World) (hl : Offs w R v tr) (hb : Sl w Rb vb bys.length 1 (ints bys)) (hsm : tr.length ≤ 64) (hbl : bys.length ≤ 1000) (hbd : ∀ c ∈ bys, -9223372036854775808 ≤ c ∧ c ≤ 9223372036854775807) :
    Calls Try.prog 61 #[v, vb] w fun e w' => ∃ A' cap', e = .returned (.slice A' bys.length cap') ∧ SepBuys w' w.heap.size (.slice A' bys.length cap') (shL tr bys) ∧ Below w.heap.size w w' := by
  have HL := Lib.hid hl
  have HBY := Lib.hid hb
  have HBD := Lib.hid hbd
  obtain ⟨⟨_, A, cap, rfl, _⟩, hwf⟩ := id hl
  obtain ⟨_, Ab, capb, rfl, _⟩ := id hb
  have HWF := Lib.hid hwf
  clear hl hb hbd hwf
  go_enter Try.func61, Try.ntmps61
  go_wp2
  go_loopw [5, 10] (fun s i wr => ∃ k : Nat, k ≤ bys.length ∧ i = .int .i64 k ∧ (∃ A' cap', s = .slice A' k cap' ∧ SepBuys wr w.heap.size (.slice A' k cap') (shL tr (bys.take k))) ∧ Below w.heap.size w wr) (fun _ i _ => bys.length - (intOf i).toNat)
  case atStart => exact ⟨0, Nat.zero_le _, rfl, ⟨none, 0, rfl, SepBuys.nil _ _⟩, Below.refl _ _⟩
  case round =>
    obtain ⟨k, hk, rfl, ⟨A', cap', rfl, hob⟩, hb⟩ := hrel
    by_cases hlt : k < bys.length
    · obtain ⟨bq, of, c, rfl, _, hck, q0⟩ := (HBY.out.grow hb).int_at hlt
      have hcb := HBD.out c (List.mem_of_getElem? hck)
      obtain ⟨vs', hs', ho'⟩ := hob
      have hlk : (shL tr (bys.take k)).length = k := by simp [shL]; omega
      rw [hlk] at hs'
      have HS := Lib.hid hs'
      have HO := Lib.hid ho'
      have HTK := Lib.hid (shL_take (tr := tr) hck)
      have HBB := Lib.hid hb
      have HLK := Lib.hid hlk
      have hsz := hb.size
      have e0 : (0 : Int) ≤ (k : Int) := by omega
      have e1 : (k : Int) < (bys.length : Int) := by omega
      obtain ⟨ll, hll⟩ : ∃ z, z = lowL (max c 0) tr := ⟨_, rfl⟩
      have hln := lowL_len (max c 0) tr
      rw [← hll] at hln
      have HLL := Lib.hid hll
      clear hb hs' ho' hck hlk hll
      go_wp2_with (first
        | (go_at_call 107; refine (lowerX_any c hcb tr _ R wr (HL.out.grow HBB.out) hsm).mono ?_; rintro e w1 ⟨A2, cap2, rfl, hown2, hb2⟩; rw [← HLL.out] at hown2 ⊢; have HW2 := Lib.hid hown2; have HB2 := Lib.hid hb2; have hsz1 := hb2.size; clear hown2 hb2)
        | (at_builtin; refine wpList_app _ rfl (.tmp 14) (.tmp 18) et_offs rfl w.heap.size (.slice A' k cap') k vs' rfl ((own_grow HS.out HB2.out).alloc _) _ _ 1 _ rfl (Sl.new w1 #[.slice A2 ll.length cap2] _ 1 1 (by unfold maxLen; omega) rfl) (by simp [Value.oneCell']) (by omega) (by unfold maxLen; omega) (by simp; omega) ?_; intro A3 cap3 w3 hown3 hg3 hloc3; have HW3 := Lib.hid hown3; have HG3 := Lib.hid hg3; have HL3 := Lib.hid hloc3; clear hown3 hg3 hloc3))
      go_roundw
      case rel =>
        have hlv : vs'.length = (shL tr (bys.take k)).length := by rw [HLK.out]; simpa using HS.out.1
        have hB := fun k u g h1 h2 => (HO.out.lt hlv k u g h1 h2).2
        have hwl : ∀ o ∈ ll, o.wf := by rw [HLL.out]; exact lowX_wf c tr HWF.out
        refine ⟨k + 1, by omega, by go_num, ⟨A3, cap3, rfl, ?_⟩, ?_⟩
        · rw [HTK.out, ← HLL.out]
          exact SepBuys.snoc HLK.out ((own_grow HS.out HB2.out).alloc _) ((HO.out.grow HB2.out).grow ((Below.refl _ _).alloc (Nat.le_refl _) _)) hB hsz (own_alloc HW2.out _) hwl HW3.out HG3.out
        · exact ((HBB.out.trans (HB2.out.mono (by omega))).alloc (by omega) _).grown HG3.out (by simp; omega) (fun g e => (HS.out.lt g e).1)
      case measure => simp [intOf]; omega
    · obtain rfl : k = bys.length := by omega
      rw [List.take_length] at hob
      have HOB := Lib.hid hob
      have HBB := Lib.hid hb
      clear hob hb
      go_wp2
      go_ret
      exact ⟨A', cap', rfl, HOB.out, HBB.out⟩

end Go.Proofs.Ytcigobiolbojhaa.Vb

/- Law 29: TruthShades, walked. -/
namespace Go.Proofs.Ytcigobiolbojhaa.Vb
open Go.RowKit

theorem own_keep {W W' : World} {base : Nat} {e : TypeId} {sz n : Nat} {v : Value} {xs : List Value} (h : W.ownsRow base e sz v n xs) (hk : ∀ g, v.ownBlock = some g → W'.heap[g]? = W.heap[g]?) : W'.ownsRow base e sz v n xs := by
  rcases h.2 with ⟨h1, h2⟩ | ⟨g, cap, cur, rfl, hb, hg, hr⟩
  · exact ⟨h.1, .inl ⟨h1, h2⟩⟩
  · exact ⟨h.1, .inr ⟨g, cap, cur, rfl, hb, (hk g rfl).trans hg, hr⟩⟩
theorem own_at {W : World} {lo n c : Nat} {e : TypeId} {A : Option Addr} {vs : List Value} (h : W.ownsRow lo e 1 (.slice A n c) n vs) (h0 : 0 < n) : ∃ g o, A = some ⟨g, o, none⟩ ∧ g < W.heap.size ∧ ∀ j u, vs[j]? = some u → W.cell? ⟨g, o + j, none⟩ = some u := by
  obtain ⟨_, A7, c7, hv7, _, _, hcs7⟩ := Sl.own_from h
  injection hv7 with hA7 _ _
  subst hA7
  obtain ⟨g, o, h1, _, h2, h3⟩ := hcs7 h0
  exact ⟨g, o, h1, h2, h3⟩
/-- what lies outside of the blocks la .. ha is as it was -/
structure KOut (la ha : Nat) (W W' : World) : Prop where
  size : W.heap.size ≤ W'.heap.size
  same : ∀ b, b < W.heap.size → (b < la ∨ ha ≤ b) → W'.heap[b]? = W.heap[b]?
theorem KOut.refl (la ha : Nat) (W : World) : KOut la ha W W := ⟨Nat.le_refl _, fun _ _ _ => rfl⟩
theorem KOut.below {la ha : Nat} {W W' W2 : World} (h : KOut la ha W W') (hb : Below W'.heap.size W' W2) : KOut la ha W W2 := ⟨Nat.le_trans h.size hb.size, fun b hlt ho => (hb.block b (Nat.lt_of_lt_of_le hlt h.size)).trans (h.same b hlt ho)⟩
theorem KOut.set {la ha : Nat} {W W' : World} (h : KOut la ha W W') {p : Addr} (h1 : la ≤ p.block) (h2 : p.block < ha) (u : Value) : KOut la ha W (W'.setCell p u) :=
  ⟨by simpa [World.setCell] using h.size, fun b hlt ho => (Below.heap_setCell W' p u b (by omega)).trans (h.same b hlt ho)⟩
theorem KOut.buys {la ha lo : Nat} {W W' : World} {v : Value} {bs : List (List Off)} (h : KOut la ha W W') (hb : Buys W (lo ≤ ·) v bs) (hl : ha ≤ lo) : Buys W' (lo ≤ ·) v bs :=
  hb.keep h.size fun b hlt hr => h.same b hlt (.inr (Nat.le_trans hl hr))
theorem KOut.lent {la ha lo g c : Nat} {W W' : World} {l : List Off} (h : KOut la ha W W') (hm : LentO W lo g c l) (hg : g < la) : LentO W' lo g c l :=
  ⟨own_keep hm.1 fun g' e => by cases e; exact h.same g hm.mark.2.2.2.2.2 (.inl hg), hm.2⟩

/-- in between: the lists from i on are as they were -/
structure ZK (la ha n : Nat) (Aa : Option Addr) (ca : Nat) (vs : List Value) (bs : List (List Off)) (w W0 : World) (i : Nat) (W : World) : Prop where
  out : W.ownsRow la 41 1 (.slice Aa n ca) n vs
  rows : ∀ (j : Nat) (l : List Off), i ≤ j → bs[j]? = some l → ∃ A c, vs[j]? = some (.slice A l.length c) ∧ W.ownsRow la 45 2 (.slice A l.length c) l.length (Off.all l) ∧ ∀ o ∈ l, o.wf
  old : KOut la ha W0 W
  bel : Below w.heap.size w W
theorem ZK.grow {la ha n ca i : Nat} {Aa : Option Addr} {vs : List Value} {bs : List (List Off)} {w W0 W W' : World} (h : ZK la ha n Aa ca vs bs w W0 i W) (hb : Below W.heap.size W W') : ZK la ha n Aa ca vs bs w W0 i W' :=
  ⟨own_grow h.out hb, fun j l hj hl => let ⟨A, c, h1, h2, h3⟩ := h.rows j l hj hl; ⟨A, c, h1, own_grow h2 hb, h3⟩, h.old.below hb, h.bel.trans (hb.mono h.bel.size)⟩
theorem ZK.set {la ha n ca i i0 g m : Nat} {Aa : Option Addr} {vs : List Value} {bs : List (List Off)} {w W0 W : World} {u : Value} {ys : List Value} (h : ZK la ha n Aa ca vs bs w W0 i W)
    (hsep : ∀ (i j : Nat) (u u' : Value) (g : Nat), i ≠ j → vs[i]? = some u → vs[j]? = some u' → u.ownBlock = some g → u'.ownBlock ≠ some g) (hu : vs[i0]? = some u) (hg : u.ownBlock = some g) (hi : i0 < i) (h1 : la ≤ g) (h2 : g < ha) (hw : w.heap.size ≤ la)
    (hrow : W.ownsRow la 45 2 u m ys) (j : Nat) (x : Value) : ZK la ha n Aa ca vs bs w W0 i (W.setCell ⟨g, j, none⟩ x) := by
  have hgb := grownBy_setCell W ⟨g, j, none⟩ x
  refine ⟨own_far h.out hgb fun k e he => ?_, fun q l hq hl => ?_, h.old.set h1 h2 _, h.bel.setCell (p := ⟨g, j, none⟩) (by simp; omega) _⟩
  · simp at e
    subst e
    exact own_ne h.out hrow (by decide) he hg
  · obtain ⟨A, c, a1, a2, a3⟩ := h.rows q l hq hl
    exact ⟨A, c, a1, own_far a2 hgb fun k e he => by simp at e; subst e; exact hsep i0 q u _ _ (by omega) hu a1 hg he, a3⟩


set_option maxRecDepth 100000 in
set_option maxHeartbeats 6400000 in
theorem truthShades_walk (l : List Off) (bys : List Int) (got : Nat) (pays : Int) (vl vb : Value) (R Rb : Nat → Prop) (w : World) (hl : Offs w R vl l) (hb : Sl w Rb vb bys.length 1 (ints bys)) (hbd : ∀ c ∈ bys, -9223372036854775808 ≤ c ∧ c ≤ 9223372036854775807) (hg : got < 4294967296) :
    Calls Try.prog 11 #[.agg #[vl, vb, .int .u32 got, .int .i64 pays]] w fun e w' => e = .returned (.bool true) ∧ Below w.heap.size w w' := by
  obtain ⟨⟨_, A, cap, rfl, _⟩, _⟩ := id hl
  obtain ⟨_, Ab, capb, rfl, _, hcm, _⟩ := id hb
  unfold maxLen at hcm
  have HL := Lib.hid hl
  have HBY := Lib.hid hb
  have HBD := Lib.hid hbd
  have x0 : (w.alloc (.cells #[.slice A l.length cap, .slice Ab bys.length capb, .int .u32 got, .int .i64 pays] 106)).cell? ⟨w.heap.size, 0, none⟩ = some (.slice A l.length cap) := (Blk.new w _ _).cell 0
  have hz := (Below.refl w.heap.size w).alloc (Nat.le_refl _) (.cells #[.slice A l.length cap, .slice Ab bys.length capb, .int .u32 got, .int .i64 pays] 106)
  have HZ := Lib.hid hz
  clear hl hb hbd hz x0
  by_cases hgr : 60 < l.length ∨ 60 < bys.length
  · have hgi : (decide ((60 : Int) < (l.length : Int)) || decide ((60 : Int) < (bys.length : Int))) = true := by
      rcases hgr with h | h
      · simp; omega
      · simp; omega
    go_enter Try.func11, Try.ntmps11
    go_wp2_with fail
    go_quiet (fail)
    rcases (show 60 < l.length ∨ (¬ 60 < l.length ∧ 60 < bys.length) by omega) with h6 | ⟨h5, h6⟩
    · have h6i : (60 : Int) < (l.length : Int) := by omega
      clear hgr hgi
      go_wp2_with fail
      refine (works29_any _).mono ?_
      rintro e w2 ⟨rfl, hb2⟩
      have HB2 := Lib.hid ((below_drewN HZ.out _).trans (hb2.mono (by simp)))
      clear hb2
      go_wp2_with fail
      go_ret
      exact ⟨rfl, HB2.out⟩
    · have h5i : ¬ (60 : Int) < (l.length : Int) := by omega
      have h6i : (60 : Int) < (bys.length : Int) := by omega
      clear hgr hgi
      go_wp2_with fail
      refine (works29_any _).mono ?_
      rintro e w2 ⟨rfl, hb2⟩
      have HB2 := Lib.hid ((below_drewN HZ.out _).trans (hb2.mono (by simp)))
      clear hb2
      go_wp2_with fail
      go_ret
      exact ⟨rfl, HB2.out⟩
  · have h1 : ¬ 60 < l.length := fun h => hgr (.inl h)
    have h2 : ¬ 60 < bys.length := fun h => hgr (.inr h)
    have h1i : ¬ (60 : Int) < (l.length : Int) := by omega
    have h2i : ¬ (60 : Int) < (bys.length : Int) := by omega
    clear hgr
    go_enter Try.func11, Try.ntmps11
    go_wp2_with fail
    go_quiet (fail)
    go_wp2_with fail
    obtain ⟨W1, hW1⟩ : ∃ V, V = (w.alloc (.cells #[.slice A l.length cap, .slice Ab bys.length capb, .int .u32 got, .int .i64 pays] 106)).drewN nq := ⟨_, rfl⟩
    have HB1 := Lib.hid (show Below w.heap.size w W1 from by rw [hW1]; exact below_drewN HZ.out _)
    rw [← hW1]
    clear hW1
    refine (offers29_any l _ R W1 (HL.out.grow HB1.out) (by omega)).mono ?_
    rintro e w2 ⟨g, c, rfl, hm2, hb2⟩
    have HM2 := Lib.hid hm2
    have HB2 := Lib.hid (HB1.out.trans (hb2.mono HB1.out.size))
    have hs2 := hb2.size
    clear hm2 hb2
    go_wp2_with fail
    refine (shadesS_any l bys _ _ _ Rb w2 HM2.out.offs (HBY.out.grow HB2.out) (by omega) (by omega) HBD.out).mono ?_
    rintro e w3 ⟨Aa, ca, rfl, ha3, hb3⟩
    obtain ⟨vs, hout3, hsr3⟩ := ha3
    have hbl : (shL l bys).length = bys.length := by simp [shL]
    rw [hbl] at hout3
    have HLT := Lib.hid (hsr3.lt (by rw [hbl]; simpa using hout3.1))
    have HSEP := Lib.hid hsr3.2
    have HBL := Lib.hid hbl
    have HA3 := Lib.hid (show ZK w2.heap.size w3.heap.size bys.length Aa ca vs (shL l bys) w w3 0 w3 from ⟨hout3, fun j l' _ hl => hsr3.1 j l' hl, KOut.refl _ _ _, HB2.out.trans (hb3.mono HB2.out.size)⟩)
    have HM3 := Lib.hid (HM2.out.grow hb3)
    have HB3 := Lib.hid (HB2.out.trans (hb3.mono HB2.out.size))
    have hs3 := hb3.size
    clear hout3 hsr3 hb3 hbl
    go_wp2_with fail
    refine (shadesS_any l bys _ _ _ Rb w3 HM3.out.offs (HBY.out.grow HB3.out) (by omega) (by omega) HBD.out).mono ?_
    rintro e w4 ⟨A4, c4, rfl, ha4, hb4⟩
    have HB4B := Lib.hid ha4.buys
    have HA4 := Lib.hid (HA3.out.grow hb4)
    have HM4 := Lib.hid (HM3.out.grow hb4)
    have HB4 := Lib.hid (HB3.out.trans (hb4.mono HB3.out.size))
    have hs4 := hb4.size
    clear ha4 hb4
    go_wp2_with fail
    refine (refShades_any l bys _ _ R Rb w4 (HL.out.grow HB4.out) (HBY.out.grow HB4.out) (by omega) (by omega) HBD.out).mono ?_
    rintro e w5 ⟨A5, c5, rfl, ha5, hb5⟩
    have HW5 := Lib.hid ha5.buys
    have HB5B := Lib.hid (HB4B.out.grow hb5)
    have HA5 := Lib.hid (HA4.out.grow hb5)
    have HM5 := Lib.hid (HM4.out.grow hb5)
    have HB5 := Lib.hid (HB4.out.trans (hb5.mono HB4.out.size))
    have hs5 := hb5.size
    clear ha5 hb5
    go_wp2_with fail
    refine (gain_any l got hg pays _ _ w5 HM5.out.offs).mono ?_
    rintro e w6 ⟨rfl, hb6⟩
    have HB6 := Lib.hid (HB5.out.trans (hb6.mono HB5.out.size))
    have HK6 := Lib.hid hb6
    clear hb6
    go_wp2_with fail
    refine (refGain_any l got hg pays _ R w6 (HL.out.grow HB6.out)).mono ?_
    rintro e w7 ⟨rfl, hb7⟩
    have HB7 := Lib.hid (HB6.out.trans (hb7.mono HB6.out.size))
    have HK7 := Lib.hid (HK6.out.trans (hb7.mono HK6.out.size))
    clear hb7
    go_wp2_with fail
    refine (stays29_any l g c _ _ R w7 (HM5.out.grow HK7.out) (HL.out.grow HB7.out) (by omega)).mono ?_
    rintro e w8 ⟨rfl, hb8⟩
    have HB8 := Lib.hid (HB7.out.trans (hb8.mono HB7.out.size))
    have hk8 := HK7.out.trans (hb8.mono HK7.out.size)
    have HW8 := Lib.hid (HW5.out.grow hk8)
    have HB8B := Lib.hid (HB5B.out.grow hk8)
    have HA8 := Lib.hid (HA5.out.grow hk8)
    have HM8 := Lib.hid (HM5.out.grow hk8)
    have hs8 := hk8.size
    clear hb8 hk8
    have hgl : g < w2.heap.size := HM2.out.mark.2.2.2.2.2
    have hw8 : w.heap.size ≤ w2.heap.size := HB2.out.size
    have h34 : w3.heap.size ≤ w4.heap.size := hs4
    have HZ8 := Lib.hid (show ZK w2.heap.size w3.heap.size bys.length Aa ca vs (shL l bys) w w8 0 w8 from ⟨HA8.out.out, HA8.out.rows, KOut.refl _ _ _, HB8.out⟩)
    clear HA3 HA4 HA5 HA8 HM3 HM4 HM5 HB4B HB5B HW5 HK6 HK7 HB1 HB3 HB4 HB5 HB6 HB7 HM2
    go_wp2_with fail
    go_loopw [11] (fun i wr => ∃ k : Nat, k ≤ bys.length ∧ i = .int .i64 k ∧ ZK w2.heap.size w3.heap.size bys.length Aa ca vs (shL l bys) w w8 k wr) (fun i _ => bys.length - (intOf i).toNat)
    case atStart => exact ⟨0, Nat.zero_le _, rfl, HZ8.out⟩
    case round =>
      obtain ⟨k, hk, rfl, hz⟩ := hrel
      have HZK := Lib.hid hz
      by_cases hlt : k < bys.length
      · obtain ⟨lk, hlk⟩ : ∃ lk, (shL l bys)[k]? = some lk := ⟨_, List.getElem?_eq_getElem (by rw [HBL.out]; exact hlt)⟩
        obtain ⟨A6, c6, hv6, hrow, hwf6⟩ := hz.rows k lk (Nat.le_refl _) hlk
        obtain ⟨ga, oa, hAa, hga, hca⟩ := own_at hz.out (by omega)
        have cak : wr.cell? ⟨ga, oa + k, none⟩ = some (.slice A6 lk.length c6) := hca k _ hv6
        obtain ⟨gw, ow, uw, hA5, hgw, cwk, how⟩ := (hz.old.buys HW8.out (by omega)).at_ hlk
        obtain ⟨⟨_, Aw, cw, rfl, _⟩, _⟩ := id how
        have HROW := Lib.hid hrow
        have HOW := Lib.hid how
        have HOA := Lib.hid (OffOwn.offs hrow rfl hwf6)
        have HV6 := Lib.hid hv6
        have hlk61 : lk.length ≤ 60 := by
          unfold shL at hlk
          rw [List.getElem?_map] at hlk
          cases hc : bys[k]? with
          | none => rw [hc] at hlk; cases hlk
          | some cc =>
            rw [hc] at hlk
            simp at hlk
            have := lowL_len (max cc 0) l
            rw [hlk] at this
            omega
        subst hAa hA5
        have e0 : (0 : Int) ≤ (k : Int) := by omega
        have e1 : (k : Int) < (bys.length : Int) := by omega
        clear hz hlk hrow how hwf6 hca hv6
        go_wp2_with fail
        refine wp_region_F (Below wr.heap.size wr) [] (by kernel_rfl) ((Below.refl _ _).drew) (fun hS => ?_)
        refine wpAnyF_take (i := 0) (oi := { dst := some 77, op := Go.Op.move (Go.Operand.tmp 8), type := 22, pos := "law.go:201", after := #[], guard := none }) (v := ?_) rfl (by kernel_rfl) (by kernel_rfl) (by kernel_rfl) (by kernel_rfl) (fun _ _ _ h => h) (Or.inl ⟨by rfl, ?_⟩) hS ?_
        rotate_left
        · intro w' hSw; have q1 := (hSw.cell (p := ⟨ga, oa + k, none⟩) hga).trans cak; have q2 := (hSw.cell (p := ⟨gw, ow + k, none⟩) hgw).trans cwk; go_simp; try with_reducible rfl
        try simp only [Act.put, List.setIfInBounds_toArray, List.set_cons_zero, List.set_cons_succ]
        refine wpAnyF_take (i := 1) (oi := { dst := some 78, op := Go.Op.move (Go.Operand.tmp 11), type := 3, pos := "law.go:201", after := #[], guard := none }) (v := ?_) rfl (by kernel_rfl) (by kernel_rfl) (by kernel_rfl) (by kernel_rfl) (fun _ _ _ h => h) (Or.inl ⟨by rfl, ?_⟩) hS ?_
        rotate_left
        · intro w' hSw; have q1 := (hSw.cell (p := ⟨ga, oa + k, none⟩) hga).trans cak; have q2 := (hSw.cell (p := ⟨gw, ow + k, none⟩) hgw).trans cwk; go_simp; try with_reducible rfl
        try simp only [Act.put, List.setIfInBounds_toArray, List.set_cons_zero, List.set_cons_succ]
        refine wpAnyF_take (i := 2) (oi := { dst := some 79, op := Go.Op.indexAddr 22 (Go.Operand.tmp 77) (Go.Operand.tmp 78), type := 0, pos := "law.go:201", after := #[{ on := 0, ground := Go.Ground.data }, { on := 1, ground := Go.Ground.data }], guard := none }) (v := ?_) rfl (by kernel_rfl) (by kernel_rfl) (by kernel_rfl) (by kernel_rfl) (fun _ _ _ h => h) (Or.inl ⟨by rfl, ?_⟩) hS ?_
        rotate_left
        · intro w' hSw; have q1 := (hSw.cell (p := ⟨ga, oa + k, none⟩) hga).trans cak; have q2 := (hSw.cell (p := ⟨gw, ow + k, none⟩) hgw).trans cwk; go_simp; try with_reducible rfl
        try simp only [Act.put, List.setIfInBounds_toArray, List.set_cons_zero, List.set_cons_succ]
        refine wpAnyF_take (i := 3) (oi := { dst := some 80, op := Go.Op.load 41 (Go.Operand.tmp 79), type := 41, pos := "law.go:201", after := #[{ on := 2, ground := Go.Ground.data }], guard := none }) (v := ?_) rfl (by kernel_rfl) (by kernel_rfl) (by kernel_rfl) (by kernel_rfl) (fun _ _ _ h => h) (Or.inl ⟨by rfl, ?_⟩) hS ?_
        rotate_left
        · intro w' hSw; have q1 := (hSw.cell (p := ⟨ga, oa + k, none⟩) hga).trans cak; have q2 := (hSw.cell (p := ⟨gw, ow + k, none⟩) hgw).trans cwk; go_simp; try with_reducible rfl
        try simp only [Act.put, List.setIfInBounds_toArray, List.set_cons_zero, List.set_cons_succ]
        refine wpAnyF_take (i := 4) (oi := { dst := some 81, op := Go.Op.move (Go.Operand.tmp 10), type := 22, pos := "law.go:201", after := #[], guard := none }) (v := ?_) rfl (by kernel_rfl) (by kernel_rfl) (by kernel_rfl) (by kernel_rfl) (fun _ _ _ h => h) (Or.inl ⟨by rfl, ?_⟩) hS ?_
        rotate_left
        · intro w' hSw; have q1 := (hSw.cell (p := ⟨ga, oa + k, none⟩) hga).trans cak; have q2 := (hSw.cell (p := ⟨gw, ow + k, none⟩) hgw).trans cwk; go_simp; try with_reducible rfl
        try simp only [Act.put, List.setIfInBounds_toArray, List.set_cons_zero, List.set_cons_succ]
        refine wpAnyF_take (i := 5) (oi := { dst := some 82, op := Go.Op.move (Go.Operand.tmp 11), type := 3, pos := "law.go:201", after := #[], guard := none }) (v := ?_) rfl (by kernel_rfl) (by kernel_rfl) (by kernel_rfl) (by kernel_rfl) (fun _ _ _ h => h) (Or.inl ⟨by rfl, ?_⟩) hS ?_
        rotate_left
        · intro w' hSw; have q1 := (hSw.cell (p := ⟨ga, oa + k, none⟩) hga).trans cak; have q2 := (hSw.cell (p := ⟨gw, ow + k, none⟩) hgw).trans cwk; go_simp; try with_reducible rfl
        try simp only [Act.put, List.setIfInBounds_toArray, List.set_cons_zero, List.set_cons_succ]
        refine wpAnyF_take (i := 6) (oi := { dst := some 83, op := Go.Op.indexAddr 22 (Go.Operand.tmp 81) (Go.Operand.tmp 82), type := 0, pos := "law.go:201", after := #[{ on := 4, ground := Go.Ground.data }, { on := 5, ground := Go.Ground.data }], guard := none }) (v := ?_) rfl (by kernel_rfl) (by kernel_rfl) (by kernel_rfl) (by kernel_rfl) (fun _ _ _ h => h) (Or.inl ⟨by rfl, ?_⟩) hS ?_
        rotate_left
        · intro w' hSw; have q1 := (hSw.cell (p := ⟨ga, oa + k, none⟩) hga).trans cak; have q2 := (hSw.cell (p := ⟨gw, ow + k, none⟩) hgw).trans cwk; go_simp; try with_reducible rfl
        try simp only [Act.put, List.setIfInBounds_toArray, List.set_cons_zero, List.set_cons_succ]
        refine wpAnyF_take (i := 7) (oi := { dst := some 84, op := Go.Op.load 41 (Go.Operand.tmp 83), type := 41, pos := "law.go:201", after := #[{ on := 6, ground := Go.Ground.data }], guard := none }) (v := ?_) rfl (by kernel_rfl) (by kernel_rfl) (by kernel_rfl) (by kernel_rfl) (fun _ _ _ h => h) (Or.inl ⟨by rfl, ?_⟩) hS ?_
        rotate_left
        · intro w' hSw; have q1 := (hSw.cell (p := ⟨ga, oa + k, none⟩) hga).trans cak; have q2 := (hSw.cell (p := ⟨gw, ow + k, none⟩) hgw).trans cwk; go_simp; try with_reducible rfl
        try simp only [Act.put, List.setIfInBounds_toArray, List.set_cons_zero, List.set_cons_succ]
        refine wpAnyF_ready (rs := [8]) (by kernel_rfl) (by simp) ?_
        refine AllReadyF.cons (o := { dst := some 85, op := Go.Op.call { callee := Go.Callee.value (Go.Operand.func 66), args := #[Go.Operand.tmp 80, Go.Operand.tmp 84], argTypes := #[41, 41] }, type := 4, pos := "law.go:201", after := #[{ on := 3, ground := Go.Ground.data }, { on := 7, ground := Go.Ground.data }], guard := none }) rfl (by rfl) (fun K hK => ?_) ?_
        · go_simp
          refine (refSameOff_true lk _ _ _ _ _ (HOA.out.grow (Below.refl _ _).drew) (HOW.out.grow (Below.refl _ _).drew)).mono ?_
          rintro e w9 ⟨rfl, hb9⟩
          refine hK.out _ _ ?_ (fun hS => ?_)
          · exact (Below.refl wr.heap.size wr).drew.trans (hb9.mono (by simp))
          clear hK K
          try simp only [Act.put, List.setIfInBounds_toArray, List.set_cons_zero, List.set_cons_succ]
          have HB9 := Lib.hid ((Below.refl wr.heap.size wr).drew.trans (hb9.mono (by simp)))
          have hs9 := HB9.out.size
          clear hb9
          refine wpAnyF_take (i := 9) (oi := { dst := some 86, op := Go.Op.unOp Go.UnOp.not 4 (Go.Operand.tmp 85), type := 4, pos := "law.go:201", after := #[{ on := 8, ground := Go.Ground.data }], guard := none }) (v := ?_) rfl (by kernel_rfl) (by kernel_rfl) (by kernel_rfl) (by kernel_rfl) (fun _ _ _ h => h) (Or.inl ⟨by rfl, ?_⟩) hS ?_
          rotate_left
          · intro w' hSw; have q1 := (hSw.cell (p := ⟨ga, oa + k, none⟩) hga).trans cak; have q2 := (hSw.cell (p := ⟨gw, ow + k, none⟩) hgw).trans cwk; go_simp; try with_reducible rfl
          try simp only [Act.put, List.setIfInBounds_toArray, List.set_cons_zero, List.set_cons_succ]
          refine wpAnyF_done (by kernel_rfl) ?_ _
          clear hS
          have hz9 := HZK.out.grow HB9.out
          have HZ9 := Lib.hid (show ZK w2.heap.size w3.heap.size bys.length (some ⟨ga, oa, none⟩) ca vs (shL l bys) w w8 (k + 1) w9 from ⟨hz9.out, fun j l' hj hl => hz9.rows j l' (by omega) hl, hz9.old, hz9.bel⟩)
          have HR9 := Lib.hid (own_grow HROW.out HB9.out)
          clear hz9 cak cwk HROW HOW HOA HZK hga hgw
          go_wp2_with fail
          go_loopw [12] (fun i wk => ∃ (q : Nat) (ys : List Value), q ≤ lk.length ∧ i = .int .i64 q ∧ ZK w2.heap.size w3.heap.size bys.length (some ⟨ga, oa, none⟩) ca vs (shL l bys) w w8 (k + 1) wk ∧ wk.ownsRow w2.heap.size 45 2 (.slice A6 lk.length c6) lk.length ys) (fun i _ => lk.length - (intOf i).toNat)
          case atStart => exact ⟨0, _, Nat.zero_le _, rfl, HZ9.out, HR9.out⟩
          case round =>
            obtain ⟨q, ys, hq, rfl, hzk, hry⟩ := hrel
            obtain ⟨ga', oa', hAa', hga', hca'⟩ := own_at hzk.out (by omega)
            injection hAa' with hAa'
            injection hAa' with eA eB
            subst eA eB
            have cak' : wr.cell? ⟨ga, oa + k, none⟩ = some (.slice A6 lk.length c6) := hca' k _ HV6.out
            have HZQ := Lib.hid hzk
            by_cases hqlt : q < lk.length
            · obtain ⟨g6, cm6, hform, _, _⟩ := World.ownsRow.form hry (by omega)
              injection hform with hA6 _ hc6
              subst hA6 hc6
              have hyl : ys.length = lk.length * 2 := hry.1
              obtain ⟨u0, hu0⟩ : ∃ u, ys[q * 2]? = some u := ⟨_, List.getElem?_eq_getElem (by omega)⟩
              obtain ⟨u1, hu1⟩ : ∃ u, ys[q * 2 + 1]? = some u := ⟨_, List.getElem?_eq_getElem (by omega)⟩
              have d0 : wr.cell? ⟨g6, q * 2, none⟩ = some u0 := (hry.cellAt (q * 2) (by omega)).trans hu0
              have d1 : wr.cell? ⟨g6, q * 2 + 1, none⟩ = some u1 := (hry.cellAt (q * 2 + 1) (by omega)).trans hu1
              have f0 := hry.frozenAt (q * 2)
              have f1 := hry.frozenAt (q * 2 + 1)
              obtain ⟨hb1, hb2⟩ := HLT.out k _ g6 HV6.out rfl
              have HRY := Lib.hid hry
              have e2 : (0 : Int) ≤ (q : Int) := by omega
              have e3 : (q : Int) < (lk.length : Int) := by omega
              clear hzk hry hca' hu0 hu1 hyl
              go_wp2_with fail
              go_roundw
              case rel =>
                have s1 := (HRY.out.stored (q * 2) (.int .u32 0)).1
                exact ⟨q + 1, _, by omega, by go_num, (HZQ.out.set HSEP.out HV6.out rfl (by omega) hb1 hb2 hw8 HRY.out (q * 2) (.int .u32 0)).set HSEP.out HV6.out rfl (by omega) hb1 hb2 hw8 s1 (q * 2 + 1) (.int .i64 0), (s1.stored (q * 2 + 1) (.int .i64 0)).1⟩
              case measure => simp [intOf]; omega
            · obtain rfl : q = lk.length := by omega
              clear hzk hry hca'
              go_wp2_with fail
              go_roundw
              case rel => exact ⟨k + 1, by omega, by go_num, HZQ.out⟩
              case measure => simp [intOf]; omega
        exact AllReadyF.nil
      · obtain rfl : k = bys.length := by omega
        have HB8C := Lib.hid (hz.old.buys HB8B.out (Nat.le_refl _))
        have HW8C := Lib.hid (hz.old.buys HW8.out h34)
        have HM8C := Lib.hid (hz.old.lent HM8.out hgl)
        have HBE := Lib.hid hz.bel
        clear hz HZK HZ8
        go_wp2_with fail
        go_loopw [13] (fun i wz => ∃ k : Nat, k ≤ bys.length ∧ i = .int .i64 k ∧ Below wr.heap.size wr wz) (fun i _ => bys.length - (intOf i).toNat)
        case atStart => exact ⟨0, Nat.zero_le _, rfl, Below.refl _ _⟩
        case round =>
          obtain ⟨k, hk, rfl, hbz⟩ := hrel
          have HBZ := Lib.hid hbz
          by_cases hlt : k < bys.length
          · obtain ⟨lk, hlk⟩ : ∃ lk, (shL l bys)[k]? = some lk := ⟨_, List.getElem?_eq_getElem (by rw [HBL.out]; exact hlt)⟩
            obtain ⟨gb, ob, ub, hA4, hgb, cbk, hob⟩ := (HB8C.out.grow hbz).at_ hlk
            obtain ⟨gw, ow, uw, hA5, hgw, cwk, how⟩ := (HW8C.out.grow hbz).at_ hlk
            obtain ⟨⟨_, Aw, cw, rfl, _⟩, _⟩ := id how
            obtain ⟨⟨_, Ab', cb', rfl, _⟩, _⟩ := id hob
            have HOW := Lib.hid how
            have HOB := Lib.hid hob
            subst hA4 hA5
            have e0 : (0 : Int) ≤ (k : Int) := by omega
            have e1 : (k : Int) < (bys.length : Int) := by omega
            clear hlk how hob hbz
            go_wp2_with fail
            refine wp_region_F (Below wr.heap.size wr) [] (by kernel_rfl) ((Below.refl _ _).drew) (fun hS => ?_)
            refine wpAnyF_take (i := 0) (oi := { dst := some 109, op := Go.Op.move (Go.Operand.tmp 9), type := 22, pos := "law.go:209", after := #[], guard := none }) (v := ?_) rfl (by kernel_rfl) (by kernel_rfl) (by kernel_rfl) (by kernel_rfl) (fun _ _ _ h => h) (Or.inl ⟨by rfl, ?_⟩) hS ?_
            rotate_left
            · intro w' hSw; have q1 := (hSw.cell (p := ⟨gb, ob + k, none⟩) hgb).trans cbk; have q2 := (hSw.cell (p := ⟨gw, ow + k, none⟩) hgw).trans cwk; go_simp; try with_reducible rfl
            try simp only [Act.put, List.setIfInBounds_toArray, List.set_cons_zero, List.set_cons_succ]
            refine wpAnyF_take (i := 1) (oi := { dst := some 110, op := Go.Op.move (Go.Operand.tmp 13), type := 3, pos := "law.go:209", after := #[], guard := none }) (v := ?_) rfl (by kernel_rfl) (by kernel_rfl) (by kernel_rfl) (by kernel_rfl) (fun _ _ _ h => h) (Or.inl ⟨by rfl, ?_⟩) hS ?_
            rotate_left
            · intro w' hSw; have q1 := (hSw.cell (p := ⟨gb, ob + k, none⟩) hgb).trans cbk; have q2 := (hSw.cell (p := ⟨gw, ow + k, none⟩) hgw).trans cwk; go_simp; try with_reducible rfl
            try simp only [Act.put, List.setIfInBounds_toArray, List.set_cons_zero, List.set_cons_succ]
            refine wpAnyF_take (i := 2) (oi := { dst := some 111, op := Go.Op.indexAddr 22 (Go.Operand.tmp 109) (Go.Operand.tmp 110), type := 0, pos := "law.go:209", after := #[{ on := 0, ground := Go.Ground.data }, { on := 1, ground := Go.Ground.data }], guard := none }) (v := ?_) rfl (by kernel_rfl) (by kernel_rfl) (by kernel_rfl) (by kernel_rfl) (fun _ _ _ h => h) (Or.inl ⟨by rfl, ?_⟩) hS ?_
            rotate_left
            · intro w' hSw; have q1 := (hSw.cell (p := ⟨gb, ob + k, none⟩) hgb).trans cbk; have q2 := (hSw.cell (p := ⟨gw, ow + k, none⟩) hgw).trans cwk; go_simp; try with_reducible rfl
            try simp only [Act.put, List.setIfInBounds_toArray, List.set_cons_zero, List.set_cons_succ]
            refine wpAnyF_take (i := 3) (oi := { dst := some 112, op := Go.Op.load 41 (Go.Operand.tmp 111), type := 41, pos := "law.go:209", after := #[{ on := 2, ground := Go.Ground.data }], guard := none }) (v := ?_) rfl (by kernel_rfl) (by kernel_rfl) (by kernel_rfl) (by kernel_rfl) (fun _ _ _ h => h) (Or.inl ⟨by rfl, ?_⟩) hS ?_
            rotate_left
            · intro w' hSw; have q1 := (hSw.cell (p := ⟨gb, ob + k, none⟩) hgb).trans cbk; have q2 := (hSw.cell (p := ⟨gw, ow + k, none⟩) hgw).trans cwk; go_simp; try with_reducible rfl
            try simp only [Act.put, List.setIfInBounds_toArray, List.set_cons_zero, List.set_cons_succ]
            refine wpAnyF_take (i := 4) (oi := { dst := some 113, op := Go.Op.move (Go.Operand.tmp 10), type := 22, pos := "law.go:209", after := #[], guard := none }) (v := ?_) rfl (by kernel_rfl) (by kernel_rfl) (by kernel_rfl) (by kernel_rfl) (fun _ _ _ h => h) (Or.inl ⟨by rfl, ?_⟩) hS ?_
            rotate_left
            · intro w' hSw; have q1 := (hSw.cell (p := ⟨gb, ob + k, none⟩) hgb).trans cbk; have q2 := (hSw.cell (p := ⟨gw, ow + k, none⟩) hgw).trans cwk; go_simp; try with_reducible rfl
            try simp only [Act.put, List.setIfInBounds_toArray, List.set_cons_zero, List.set_cons_succ]
            refine wpAnyF_take (i := 5) (oi := { dst := some 114, op := Go.Op.move (Go.Operand.tmp 13), type := 3, pos := "law.go:209", after := #[], guard := none }) (v := ?_) rfl (by kernel_rfl) (by kernel_rfl) (by kernel_rfl) (by kernel_rfl) (fun _ _ _ h => h) (Or.inl ⟨by rfl, ?_⟩) hS ?_
            rotate_left
            · intro w' hSw; have q1 := (hSw.cell (p := ⟨gb, ob + k, none⟩) hgb).trans cbk; have q2 := (hSw.cell (p := ⟨gw, ow + k, none⟩) hgw).trans cwk; go_simp; try with_reducible rfl
            try simp only [Act.put, List.setIfInBounds_toArray, List.set_cons_zero, List.set_cons_succ]
            refine wpAnyF_take (i := 6) (oi := { dst := some 115, op := Go.Op.indexAddr 22 (Go.Operand.tmp 113) (Go.Operand.tmp 114), type := 0, pos := "law.go:209", after := #[{ on := 4, ground := Go.Ground.data }, { on := 5, ground := Go.Ground.data }], guard := none }) (v := ?_) rfl (by kernel_rfl) (by kernel_rfl) (by kernel_rfl) (by kernel_rfl) (fun _ _ _ h => h) (Or.inl ⟨by rfl, ?_⟩) hS ?_
            rotate_left
            · intro w' hSw; have q1 := (hSw.cell (p := ⟨gb, ob + k, none⟩) hgb).trans cbk; have q2 := (hSw.cell (p := ⟨gw, ow + k, none⟩) hgw).trans cwk; go_simp; try with_reducible rfl
            try simp only [Act.put, List.setIfInBounds_toArray, List.set_cons_zero, List.set_cons_succ]
            refine wpAnyF_take (i := 7) (oi := { dst := some 116, op := Go.Op.load 41 (Go.Operand.tmp 115), type := 41, pos := "law.go:209", after := #[{ on := 6, ground := Go.Ground.data }], guard := none }) (v := ?_) rfl (by kernel_rfl) (by kernel_rfl) (by kernel_rfl) (by kernel_rfl) (fun _ _ _ h => h) (Or.inl ⟨by rfl, ?_⟩) hS ?_
            rotate_left
            · intro w' hSw; have q1 := (hSw.cell (p := ⟨gb, ob + k, none⟩) hgb).trans cbk; have q2 := (hSw.cell (p := ⟨gw, ow + k, none⟩) hgw).trans cwk; go_simp; try with_reducible rfl
            try simp only [Act.put, List.setIfInBounds_toArray, List.set_cons_zero, List.set_cons_succ]
            refine wpAnyF_ready (rs := [8]) (by kernel_rfl) (by simp) ?_
            refine AllReadyF.cons (o := { dst := some 117, op := Go.Op.call { callee := Go.Callee.value (Go.Operand.func 66), args := #[Go.Operand.tmp 112, Go.Operand.tmp 116], argTypes := #[41, 41] }, type := 4, pos := "law.go:209", after := #[{ on := 3, ground := Go.Ground.data }, { on := 7, ground := Go.Ground.data }], guard := none }) rfl (by rfl) (fun K hK => ?_) ?_
            · go_simp
              refine (refSameOff_true lk _ _ _ _ _ (HOB.out.grow (Below.refl _ _).drew) (HOW.out.grow (Below.refl _ _).drew)).mono ?_
              rintro e w9 ⟨rfl, hb9⟩
              refine hK.out _ _ ?_ (fun hS => ?_)
              · exact (Below.refl wr.heap.size wr).drew.trans (hb9.mono (by simp))
              clear hK K
              try simp only [Act.put, List.setIfInBounds_toArray, List.set_cons_zero, List.set_cons_succ]
              have HB9 := Lib.hid ((Below.refl wr.heap.size wr).drew.trans (hb9.mono (by simp)))
              have hs9 := HB9.out.size
              clear hb9
              refine wpAnyF_take (i := 9) (oi := { dst := some 118, op := Go.Op.unOp Go.UnOp.not 4 (Go.Operand.tmp 117), type := 4, pos := "law.go:209", after := #[{ on := 8, ground := Go.Ground.data }], guard := none }) (v := ?_) rfl (by kernel_rfl) (by kernel_rfl) (by kernel_rfl) (by kernel_rfl) (fun _ _ _ h => h) (Or.inl ⟨by rfl, ?_⟩) hS ?_
              rotate_left
              · intro w' hSw; have q1 := (hSw.cell (p := ⟨gb, ob + k, none⟩) hgb).trans cbk; have q2 := (hSw.cell (p := ⟨gw, ow + k, none⟩) hgw).trans cwk; go_simp; try with_reducible rfl
              try simp only [Act.put, List.setIfInBounds_toArray, List.set_cons_zero, List.set_cons_succ]
              refine wpAnyF_done (by kernel_rfl) ?_ _
              clear hS
              go_wp2_with fail
              go_roundw
              case rel => exact ⟨k + 1, by omega, by go_num, HBZ.out.trans (HB9.out.mono HBZ.out.size)⟩
              case measure => simp [intOf]; omega
            exact AllReadyF.nil
          · obtain rfl : k = bys.length := by omega
            clear hbz
            go_wp2_with fail
            refine (stays29_any l g c _ _ R wr (HM8C.out.grow HBZ.out) (HL.out.grow (HBE.out.trans (HBZ.out.mono HBE.out.size))) (by omega)).mono ?_
            rintro e w9 ⟨rfl, hb9⟩
            have HB9 := Lib.hid ((HBE.out.trans (HBZ.out.mono HBE.out.size)).trans (hb9.mono (HBE.out.trans (HBZ.out.mono HBE.out.size)).size))
            clear hb9
            go_wp2_with fail
            refine (works29_any w9).mono ?_
            rintro e w10 ⟨rfl, hb10⟩
            have HB10 := Lib.hid (HB9.out.trans (hb10.mono HB9.out.size))
            clear hb10
            go_wp2_with fail
            go_ret
            exact ⟨rfl, HB10.out⟩
end Go.Proofs.Ytcigobiolbojhaa.Vb

/- Joined by program: HoZ HqA HqB HqC HqD MapG HqE HqF HqG HqH HqI. -/
import Derived.Test.YtckdpejdnejhfaaGreatZc
import Derived.Test.YtckdpejdnejhfaaGreatZa
import Derived.Maps.OwnSet
/- House: the calendar's row: Pop. -/
set_option linter.all false
namespace Go.Proofs.YtckdpejdnejhfaaGreat.Ho
open Go.RowKit
open Go.MapKept (IsKey)
open Go.Proofs.YtckdpejdnejhfaaGreat.Vb Go.Proofs.YtckdpejdnejhfaaGreat.Ac

set_option maxRecDepth 100000 in
set_option maxHeartbeats 2000000 in
theorem rpop_any {W : World} {R : Nat → Prop} {p r g m : Nat} {now : Int} {v : Value} {F : Int → Option Int} {l : List Du} {d : Du} (h : TickI W R p r g m now v F (l ++ [d])) :
    Calls Tryz.prog 211 #[.pointer (some ⟨r, 0, none⟩)] W fun e W' => e = .returned (dueV d) ∧ (∃ v' F', TickI W' R p r g m now v' F' l) ∧ Chg R W W' := by
  have hk : (l ++ [d])[l.length]? = some d := by simp
  obtain ⟨q, cap, hv, hq, i0, i1, _, _, hcap⟩ := h.at_ hk
  have hlen : (l ++ [d]).length = l.length + 1 := by simp
  have r0 : W.cell? ⟨r, 0, none⟩ = some (.slice (some ⟨q, 0, none⟩) (l.length + 1) cap) := (h.br.cell 0).trans (by rw [hv, hlen]; rfl)
  have hrow := h.row
  rw [hv, hlen, duAll_app] at hrow
  have hpop : RowAt W (fun b => R b ∧ b ≠ p ∧ b ≠ r ∧ b ≠ g) 161 2 (.slice (some ⟨q, 0, none⟩) l.length cap) l.length (duAll l) := ⟨ownsRow_pop (duAll_len l) hrow.own, hrow.blk⟩
  have lr := h.br.lt
  have nr : r ≠ m := h.map.not_cells h.br
  have np : p ≠ m := h.map.not_cells h.bp
  have ng : g ≠ m := h.map.not_cells h.bg
  have nq : q ≠ m := h.map.not_row h.row (by rw [hv]; rfl)
  have nW : W.heap.size ≠ m := by have := h.map.lt; omega
  have hqr : q ≠ r := (hrow.blk q rfl).2.2.1
  obtain ⟨d1, d2⟩ := d
  unfold dueV
  simp only at i0 i1
  obtain ⟨W1, hW1⟩ : ∃ W1, W1 = (W.alloc (.cells #[.int .i64 d1, .int .i64 d2] 161)).drew := ⟨_, rfl⟩
  have hb1 : Below W.heap.size W W1 := by rw [hW1]; exact ((Below.refl _ _).alloc (Nat.le_refl _) _).drew
  have hD1 : Blk W1 W.heap.size 161 #[.int .i64 d1, .int .i64 d2] := by rw [hW1]; exact Blk.new W _ _
  have h1 := h.grow hb1
  have s0 : W1.cell? ⟨r, 0, none⟩ = some (.slice (some ⟨q, 0, none⟩) (l.length + 1) cap) := (h1.br.cell 0).trans (by rw [hv, hlen]; rfl)
  have sf : ∀ i, W1.frozen? ⟨r, i, none⟩ = false := h1.br.frozen
  have lr1 := h1.br.lt
  have hint : ∀ w, (Instr.makeInterface 161 (.agg #[.int .i64 d1, .int .i64 d2])).run Tryz.prog w = .ok (.iface 161 (.agg #[.int .i64 d1, .int .i64 d2])) w := fun w => by kernel_rfl
  obtain ⟨U, hU⟩ : ∃ U, U = (W1.setCell ⟨r, 0, none⟩ (.slice (some ⟨q, 0, none⟩) l.length cap)).drew := ⟨_, rfl⟩
  have hcU1 : Chg (· = r) W1 U := by rw [hU]; exact (Chg.set W1 ⟨r, 0, none⟩ _).grow (Below.refl _ _).drew
  have hcU : Chg (· = r) W U := (Chg.of _ hb1).trans hcU1
  have HU := Lib.hid hU
  have HCU := Lib.hid hcU
  have HPU := Lib.hid (h.bp.chg hcU h.ne.1)
  have HGU := Lib.hid (h.bg.chg hcU (fun e => h.ne.2.2 e.symm))
  have HMU := Lib.hid (h.map.chg hcU (fun e => nr e.symm))
  have HDU := Lib.hid (hD1.chg hcU1 (by have := h.br.lt; show ¬ W.heap.size = r; omega))
  have HQU := Lib.hid (hpop.chgB hcU (fun b hb => by cases hb; exact hqr))
  have HRU := Lib.hid (show Blk U r 202 #[.slice (some ⟨q, 0, none⟩) l.length cap, movV g] by rw [hU]; exact (h1.br.set_ 0 (.slice (some ⟨q, 0, none⟩) l.length cap)).drewN 1)
  clear hcU1 hcU hU
  have H := Lib.hid h
  have H1 := Lib.hid h1
  have HP := Lib.hid hpop
  have HD1 := Lib.hid hD1
  have HB1 := Lib.hid hb1
  have HW1 := Lib.hid hW1
  have NR := Lib.hid nr
  have NP := Lib.hid np
  have NG := Lib.hid ng
  have NQ := Lib.hid nq
  have NW := Lib.hid nW
  have NQR := Lib.hid hqr
  have hw1 : IntKind.i64.wrap (l.length : Int) = l.length := by
    have := hrow.max
    unfold maxLen at this
    exact IntWalk.i64_in _ (by omega)
  have e1 : (0 : Int) ≤ (l.length : Int) := by omega
  have e2 : (l.length : Int) < (l.length : Int) + 1 := by omega
  have e3 : l.length ≤ cap := by omega
  clear hW1 h h1 hpop hD1 hb1 nr np ng nq nW hk hlen hrow hqr hv
  go_enter Tryz.func211, Tryz.ntmps211
  go_wp2_with fail
  refine wp_region_F (Below W.heap.size W) [13] (by kernel_rfl) ((Below.refl _ _).drew) (fun hS => ?_)
  refine tp 0 hS ?_
  refine tp 1 hS ?_
  refine tp 2 hS ?_
  have qq := Lib.hid fun (w' : World) (hSw : (Below W.heap.size W) w') => And.intro ((hSw.cell (p := ⟨r, 0, none⟩) lr).trans r0) <| And.intro ((hSw.cell (p := ⟨q, l.length * 2, none⟩) hq).trans i0) <| (hSw.cell (p := ⟨q, l.length * 2 + 1, none⟩) hq).trans i1
  refine tl 3 hS qq ?_
  refine tp 4 hS ?_
  refine tp 5 hS ?_
  refine tp 6 hS ?_
  refine tl 7 hS qq ?_
  refine tp 8 hS ?_
  refine tp 9 hS ?_
  refine tp 10 hS ?_
  refine tl 11 hS qq ?_
  refine stp 12 fun K hK => ?_
  go_simp
  refine hK.out _ _ ?_ (fun hS => ?_)
  · exact hS.alloc (Nat.le_refl _) _
  clear hK K
  try simp only [Act.put, pb, pz, ps]
  refine stf 13 fun K hK => ?_
  go_simp
  rw [← HW1.out]
  refine hK.out _ _ ?_
  clear hK K
  try simp only [Act.put, pb, pz, ps]
  refine wpAnyF_done (by kernel_rfl) ?_ _
  clear hS r0 i0 i1 lr
  go_wp2_with fail
  refine wp_region_F (Below W1.heap.size W1) [14] (by kernel_rfl) ((Below.refl _ _).drew) (fun hS => ?_)
  refine tp 0 hS ?_
  refine tp 1 hS ?_
  refine tp 2 hS ?_
  refine tp 3 hS ?_
  have qq := Lib.hid fun (w' : World) (hSw : (Below W1.heap.size W1) w') => (hSw.cell (p := ⟨r, 0, none⟩) lr1).trans s0
  refine tl 4 hS qq ?_
  refine tp 5 hS ?_
  refine tp 6 hS ?_
  refine tp 7 hS ?_
  refine tl 8 hS qq ?_
  refine tp 9 hS ?_
  refine tp 10 hS ?_
  refine tl 11 hS qq ?_
  refine tpD [13, 14] 12 hS ?_
  refine tp 13 hS ?_
  refine stf 14 fun K hK => ?_
  go_simp
  rw [← HU.out]
  refine hK.out _ _ ?_
  clear hK K
  try simp only [Act.put, pb, pz, ps]
  refine wpAnyF_done (by kernel_rfl) ?_ _
  clear hS s0 sf lr1
  have hRU := HRU.out
  have r1 : U.cell? ⟨r, 1, none⟩ = some (movV g) := hRU.cell 1
  have lr := hRU.lt
  have x1 : U.cell? ⟨W.heap.size, 1, none⟩ = some (.int .i64 d2) := HDU.out.cell 1
  have lx := HDU.out.lt
  clear hRU
  go_wp2_with fail
  refine wp_region_F (Below U.heap.size U) [6] (by kernel_rfl) ((Below.refl _ _).drew) (fun hS => ?_)
  refine tpD [1, 2, 3, 6] 0 hS ?_
  refine tpD [2, 3, 6] 1 hS ?_
  refine tpD [3, 6] 2 hS ?_
  refine tx 3 (v := ?_) hS ?_ ?_
  rotate_left
  · intro w' hSw; have q1 := (hSw.cell (p := ⟨r, 1, none⟩) lr).trans r1; have q2 := (hSw.cell (p := ⟨W.heap.size, 1, none⟩) lx).trans x1; unfold movV at q1; go_simp; try with_reducible rfl
  refine tpD [5, 6] 4 hS ?_
  refine tx 5 (v := ?_) hS ?_ ?_
  rotate_left
  · intro w' hSw; have q1 := (hSw.cell (p := ⟨r, 1, none⟩) lr).trans r1; have q2 := (hSw.cell (p := ⟨W.heap.size, 1, none⟩) lx).trans x1; unfold movV at q1; go_simp; try with_reducible rfl
  refine stf 6 fun K hK => ?_
  go_simp
  refine (moved_any (W := U.drew) HPU.out HGU.out HMU.out).mono ?_
  rintro e Y ⟨rfl, hmY, hcY⟩
  rw [if_pos (show (-1 : Int) < 0 by omega)] at hmY
  have HMY := Lib.hid hmY
  have HCY := Lib.hid (show Chg (· = m) U Y from ((Chg.refl _ U).grow (Below.refl _ _).drew).trans hcY)
  clear hmY hcY
  refine hK.out _ _ ?_
  clear hK K
  try simp only [Act.put, pb, pz, ps]
  refine wpAnyF_done (by kernel_rfl) ?_ _
  clear hS r1 lr x1 lx
  have x0 : Y.cell? ⟨W.heap.size, 0, none⟩ = some (.int .i64 d1) := (HDU.out.chg HCY.out NW.out).cell 0
  have x1 : Y.cell? ⟨W.heap.size, 1, none⟩ = some (.int .i64 d2) := (HDU.out.chg HCY.out NW.out).cell 1
  go_wp2_with fail
  go_ret
  have h0 := H.out
  refine ⟨rfl, ⟨_, upd F d2 none, HPU.out.chg HCY.out NP.out, HRU.out.chg HCY.out NR.out, HGU.out.chg HCY.out NG.out, HQU.out.chgB HCY.out (fun b hb => by cases hb; exact NQ.out), HMY.out, ?_, h0.inR, fun x hx => h0.ok x (List.mem_append_left _ hx), h0.ne⟩, (HCU.out.mono fun b _ e => e ▸ h0.inR.2.1).step HCY.out fun b _ e => e ▸ h0.inR.2.2.2⟩
  have := h0.idx
  rw [List.map_append] at this
  exact IdxF.pop this
end Go.Proofs.YtckdpejdnejhfaaGreat.Ho

/- House: container/heap's up over the calendar's row. -/
namespace Go.Proofs.YtckdpejdnejhfaaGreat.Ho
open Go.RowKit
open Go.Proofs.YtckdpejdnejhfaaGreat.Vb Go.Proofs.YtckdpejdnejhfaaGreat.Ac

abbrev rowV (r : Nat) : Value := .iface 179 (.pointer (some ⟨r, 0, none⟩))
def gD (l : List Du) : Nat → Du := fun k => l.getD k (0, 0)
theorem gD_at {l : List Du} {k : Nat} {d : Du} (h : l[k]? = some d) : gD l k = d := by simp [gD, h]
theorem gD_get {l : List Du} {k : Nat} (h : k < l.length) : l[k]? = some (gD l k) := by simp [gD, h]
/-- a calendar's row, whatever its slice and its map's entries -/
def RowI (W : World) (R : Nat → Prop) (p r g m : Nat) (now : Int) (l : List Du) : Prop := ∃ v F, TickI W R p r g m now v F l
end Go.Proofs.YtckdpejdnejhfaaGreat.Ho

/- House: container/heap's down over the calendar's row. -/
namespace Go.Proofs.YtckdpejdnejhfaaGreat.Ho
open Go.RowKit
open Go.Proofs.YtckdpejdnejhfaaGreat.Vb Go.Proofs.YtckdpejdnejhfaaGreat.Ac

/-- what down leaves -/
def DownP (W : World) (R : Nat → Prop) (p r g m : Nat) (now : Int) (l : List Du) (n i0 : Nat) (e : Ending) (W' : World) : Prop :=
  ∃ (b : Bool) (l' : List Du), e = .returned (.bool b) ∧ RowI W' R p r g m now l' ∧ l'.Perm l ∧ (∀ q, n ≤ q → l'[q]? = l[q]?) ∧ (b = true → HeapF leD (gD l') n) ∧ (b = false → l' = l ∧ UpF leD (gD l) n i0) ∧ Chg R W W'
theorem down_end {W W' : World} {R : Nat → Prop} {p r g m : Nat} {now : Int} {l l' : List Du} {n i0 i : Nat} (hge : i0 ≤ i) (hmv : i ≠ i0 → leD (gD l' ((i - 1) / 2)) (gD l' i)) (hsm : i = i0 → l' = l) (hu : UpF leD (gD l') n i)
    (hr : RowI W' R p r g m now l') (hp : l'.Perm l) (hq : ∀ q, n ≤ q → l'[q]? = l[q]?) (hc : Chg R W W') : DownP W R p r g m now l n i0 (.returned (.bool (decide (i0 < i)))) W' := by
  refine ⟨_, l', rfl, hr, hp, hq, fun h => ?_, fun h => ?_, hc⟩
  · have : i ≠ i0 := by have := of_decide_eq_true h; omega
    exact hu.stop (hmv this)
  · have : i = i0 := by have := of_decide_eq_false h; omega
    have e := hsm this
    subst e this
    exact ⟨rfl, hu⟩
set_option maxRecDepth 100000 in
set_option maxHeartbeats 8000000 in
theorem down_any {W : World} {R : Nat → Prop} {p r g m : Nat} {now : Int} {l : List Du} (h : RowI W R p r g m now l) {n i0 : Nat} (hB : l.length ≤ 1099511627776) (hn : n ≤ l.length) (hi : i0 ≤ n) (hu : DnF leD (gD l) n i0) :
    Calls Tryz.prog 126 #[rowV r, .int .i64 i0, .int .i64 n] W fun e W' => DownP W R p r g m now l n i0 e W' := by
  have HB := Lib.hid hB
  have HH := Lib.hid h
  have HUP := Lib.hid hu
  have HN := Lib.hid hn
  have HI0 := Lib.hid hi
  clear h hu hn hi hB
  go_enter Tryz.func126, Tryz.ntmps126
  go_wp2_with fail
  go_loopw [7] (fun s wr => ∃ (i : Nat) (l' : List Du), s = .int .i64 i ∧ (i0 ≤ i ∧ i ≤ n) ∧ RowI wr R p r g m now l' ∧ l'.Perm l ∧ DnF leD (gD l') n i ∧ (i ≠ i0 → leD (gD l' ((i - 1) / 2)) (gD l' i)) ∧ (i = i0 → l' = l) ∧ (∀ q, n ≤ q → l'[q]? = l[q]?) ∧ Chg R W wr) (fun s _ => n - (intOf s).toNat)
  case atStart => exact ⟨i0, l, rfl, ⟨Nat.le_refl _, HI0.out⟩, HH.out, List.Perm.refl _, HUP.out, fun h => absurd rfl h, fun _ => rfl, fun _ _ => rfl, Chg.refl _ _⟩
  case round =>
    obtain ⟨i, l', rfl, hge, hr, hp, hup, hmv, hsm, hq, hc⟩ := hrel
    have hlen := hp.length_eq
    have HGE := Lib.hid hge.1
    have HIN := Lib.hid hge.2
    have HR := Lib.hid hr
    have HP := Lib.hid hp
    have HU := Lib.hid hup
    have HMV := Lib.hid hmv
    have HSM := Lib.hid hsm
    have HQ := Lib.hid hq
    have HC := Lib.hid hc
    have HLN := Lib.hid hlen
    have hb := HB.out
    have hnl := HN.out
    have hw1 : IntKind.i64.wrap (2 * (i : Int)) = 2 * (i : Int) := IntWalk.i64_in _ (by omega)
    have hw2 : IntKind.i64.wrap (2 * (i : Int) + 1) = 2 * (i : Int) + 1 := IntWalk.i64_in _ (by omega)
    have hw3 : IntKind.i64.wrap (2 * (i : Int) + 1 + 1) = 2 * (i : Int) + 2 := by rw [show 2 * (i : Int) + 1 + 1 = 2 * (i : Int) + 2 by omega]; exact IntWalk.i64_in _ (by omega)
    by_cases h1 : n ≤ 2 * i + 1
    · have g1 : (n : Int) ≤ 2 * (i : Int) + 1 := by omega
      have H1 := Lib.hid h1
      clear hr hp hup hq hc hlen hge hmv hsm hb hnl h1
      go_wp2_with fail
      go_ret
      exact down_end HGE.out HMV.out HSM.out (HU.out.stop fun k h0 hk hp => by have := H1.out; omega) HR.out HP.out HQ.out HC.out
    · have g1 : ¬ (n : Int) ≤ 2 * (i : Int) + 1 := by omega
      have g2 : ¬ 2 * (i : Int) + 1 < 0 := by omega
      have il : i < l'.length := by omega
      have jl : 2 * i + 1 < l'.length := by omega
      have HL := Lib.hid (gD_get il)
      have HJ1 := Lib.hid (gD_get jl)
      have H1 := Lib.hid (show 2 * i + 1 < n by omega)
      obtain ⟨v, F, hT⟩ := hr
      have HT := Lib.hid hT
      by_cases h2 : 2 * i + 2 < n
      · have g3 : 2 * (i : Int) + 2 < (n : Int) := by omega
        have j2l : 2 * i + 2 < l'.length := by omega
        have HJ2 := Lib.hid (gD_get j2l)
        have H2 := Lib.hid h2
        clear hp hup hq hc hlen hge hmv hsm hb hnl h1 h2 il jl j2l hT
        go_wp2_with fail
        refine (rless_any (i := 2 * i + 2) (j := 2 * i + 1) HT.out HJ2.out HJ1.out).mono ?_
        rintro e w3 ⟨rfl, hb3⟩
        have HT3 := Lib.hid (HT.out.grow hb3)
        have HC3 := Lib.hid (HC.out.grow hb3)
        clear hb3
        cases hlt : ltD (gD l' (2 * i + 2)) (gD l' (2 * i + 1)) with
        | true =>
          obtain ⟨c, hc⟩ : ∃ c, c = 2 * i + 2 := ⟨_, rfl⟩
          have HLT2 := Lib.hid (ltD_le hlt)
          rw [← hc] at HJ2 HLT2
          have HLC := HJ2
          have hcI : 2 * (i : Int) + 2 = (c : Int) := by omega
          have h1 := H1.out
          have h2 := H2.out
          have HCC := Lib.hid (show 0 < c ∧ c < n ∧ (c - 1) / 2 = i by omega)
          have HCH := Lib.hid (show ∀ k, 0 < k → k < n → (k - 1) / 2 = i → leD (gD l' c) (gD l' k) from fun k h0 hk hp => by
            rcases (by omega : k = 2 * i + 1 ∨ k = c) with e | e
            · rw [e]; exact HLT2.out
            · rw [e]; exact leD_rf _)
          rw [hcI] at hw3 g3 ⊢
          clear hlt hc h1 h2 HJ1 HJ2
          go_wp2_with fail
          refine (rless_any HT3.out HLC.out HL.out).mono ?_
          rintro e w5 ⟨rfl, hb5⟩
          have HT5 := Lib.hid (HT3.out.grow hb5)
          have HC5 := Lib.hid (HC3.out.grow hb5)
          clear hb5
          cases hlt : ltD (gD l' c) (gD l' i) with
          | false =>
            have HLT := Lib.hid (ltD_not hlt)
            clear hlt
            go_wp2_with fail
            go_ret
            exact down_end HGE.out HMV.out HSM.out (HU.out.stop fun k h0 hk hp => leD_tr _ _ _ HLT.out (HCH.out k h0 hk hp)) ⟨v, F, HT5.out⟩ HP.out HQ.out HC5.out
          | true =>
            have HLT := Lib.hid (ltD_le hlt)
            clear hlt
            go_wp2_with fail
            refine (rswap_any HT5.out HL.out HLC.out).mono ?_
            rintro e w6 ⟨rfl, ⟨F6, hT6⟩, hc6⟩
            have HT6 := Lib.hid hT6
            have HC6 := Lib.hid (HC5.out.trans hc6)
            clear hT6 hc6
            go_wp2_with fail
            go_roundw
            case rel =>
              have hg := HGE.out
              have hcc := HCC.out
              have hl := HLN.out
              have hn := HN.out
              obtain ⟨s1, s2⟩ := DnF.step HU.out hcc.2.2 hcc.1 hcc.2.1 HLT.out HCH.out
              have es : gD (swp l' i c) = swF (gD l') i c := swp_get (by omega) (by omega) _
              exact ⟨c, swp l' i c, rfl, by omega, ⟨v, F6, HT6.out⟩, (swp_perm _ _ _).trans HP.out, by rw [es]; exact s1, fun _ => by rw [es]; exact s2, fun e => by omega, fun q hq => by rw [swp_getq HL.out HLC.out, if_neg (by omega), if_neg (by omega)]; exact HQ.out q hq, HC6.out⟩
            case measure =>
              have hcc := HCC.out
              simp [intOf]; omega
        | false =>
          obtain ⟨c, hc⟩ : ∃ c, c = 2 * i + 1 := ⟨_, rfl⟩
          have HLT2 := Lib.hid (ltD_not hlt)
          rw [← hc] at HJ1 HLT2
          have HLC := HJ1
          have hcI : 2 * (i : Int) + 1 = (c : Int) := by omega
          have h1 := H1.out
          have h2 := H2.out
          have HCC := Lib.hid (show 0 < c ∧ c < n ∧ (c - 1) / 2 = i by omega)
          have HCH := Lib.hid (show ∀ k, 0 < k → k < n → (k - 1) / 2 = i → leD (gD l' c) (gD l' k) from fun k h0 hk hp => by
            rcases (by omega : k = c ∨ k = 2 * i + 2) with e | e
            · rw [e]; exact leD_rf _
            · rw [e]; exact HLT2.out)
          rw [hcI] at hw2 g1 g2 ⊢
          clear hlt hc h1 h2 HJ1 HJ2
          go_wp2_with fail
          refine (rless_any HT3.out HLC.out HL.out).mono ?_
          rintro e w5 ⟨rfl, hb5⟩
          have HT5 := Lib.hid (HT3.out.grow hb5)
          have HC5 := Lib.hid (HC3.out.grow hb5)
          clear hb5
          cases hlt : ltD (gD l' c) (gD l' i) with
          | false =>
            have HLT := Lib.hid (ltD_not hlt)
            clear hlt
            go_wp2_with fail
            go_ret
            exact down_end HGE.out HMV.out HSM.out (HU.out.stop fun k h0 hk hp => leD_tr _ _ _ HLT.out (HCH.out k h0 hk hp)) ⟨v, F, HT5.out⟩ HP.out HQ.out HC5.out
          | true =>
            have HLT := Lib.hid (ltD_le hlt)
            clear hlt
            go_wp2_with fail
            refine (rswap_any HT5.out HL.out HLC.out).mono ?_
            rintro e w6 ⟨rfl, ⟨F6, hT6⟩, hc6⟩
            have HT6 := Lib.hid hT6
            have HC6 := Lib.hid (HC5.out.trans hc6)
            clear hT6 hc6
            go_wp2_with fail
            go_roundw
            case rel =>
              have hg := HGE.out
              have hcc := HCC.out
              have hl := HLN.out
              have hn := HN.out
              obtain ⟨s1, s2⟩ := DnF.step HU.out hcc.2.2 hcc.1 hcc.2.1 HLT.out HCH.out
              have es : gD (swp l' i c) = swF (gD l') i c := swp_get (by omega) (by omega) _
              exact ⟨c, swp l' i c, rfl, by omega, ⟨v, F6, HT6.out⟩, (swp_perm _ _ _).trans HP.out, by rw [es]; exact s1, fun _ => by rw [es]; exact s2, fun e => by omega, fun q hq => by rw [swp_getq HL.out HLC.out, if_neg (by omega), if_neg (by omega)]; exact HQ.out q hq, HC6.out⟩
            case measure =>
              have hcc := HCC.out
              simp [intOf]; omega
      · have g3 : ¬ 2 * (i : Int) + 2 < (n : Int) := by omega
        obtain ⟨c, hcc⟩ : ∃ c, c = 2 * i + 1 := ⟨_, rfl⟩
        rw [← hcc] at HJ1
        have HLC := HJ1
        have hcI : 2 * (i : Int) + 1 = (c : Int) := by omega
        have HCC := Lib.hid (show 0 < c ∧ c < n ∧ (c - 1) / 2 = i by omega)
        have HCH := Lib.hid (show ∀ k, 0 < k → k < n → (k - 1) / 2 = i → leD (gD l' c) (gD l' k) from fun k h0 hk hp => by
          rcases (by omega : k = c) with e
          rw [e]; exact leD_rf _)
        have hw3' : IntKind.i64.wrap ((c : Int) + 1) = 2 * (i : Int) + 2 := by rw [← hcI]; exact hw3
        rw [hcI] at hw2 g1 g2
        clear hw3 hp hup hq hc hlen hge hmv hsm hb hnl h1 h2 il jl hT hcc HJ1
        go_wp2_with fail
        refine (rless_any HT.out HLC.out HL.out).mono ?_
        rintro e w5 ⟨rfl, hb5⟩
        have HT5 := Lib.hid (HT.out.grow hb5)
        have HC5 := Lib.hid (HC.out.grow hb5)
        clear hb5
        cases hlt : ltD (gD l' c) (gD l' i) with
        | false =>
          have HLT := Lib.hid (ltD_not hlt)
          clear hlt
          go_wp2_with fail
          go_ret
          exact down_end HGE.out HMV.out HSM.out (HU.out.stop fun k h0 hk hp => leD_tr _ _ _ HLT.out (HCH.out k h0 hk hp)) ⟨v, F, HT5.out⟩ HP.out HQ.out HC5.out
        | true =>
          have HLT := Lib.hid (ltD_le hlt)
          clear hlt
          go_wp2_with fail
          refine (rswap_any HT5.out HL.out HLC.out).mono ?_
          rintro e w6 ⟨rfl, ⟨F6, hT6⟩, hc6⟩
          have HT6 := Lib.hid hT6
          have HC6 := Lib.hid (HC5.out.trans hc6)
          clear hT6 hc6
          go_wp2_with fail
          go_roundw
          case rel =>
            have hg := HGE.out
            have hcc := HCC.out
            have hl := HLN.out
            have hn := HN.out
            obtain ⟨s1, s2⟩ := DnF.step HU.out hcc.2.2 hcc.1 hcc.2.1 HLT.out HCH.out
            have es : gD (swp l' i c) = swF (gD l') i c := swp_get (by omega) (by omega) _
            exact ⟨c, swp l' i c, rfl, by omega, ⟨v, F6, HT6.out⟩, (swp_perm _ _ _).trans HP.out, by rw [es]; exact s1, fun _ => by rw [es]; exact s2, fun e => by omega, fun q hq => by rw [swp_getq HL.out HLC.out, if_neg (by omega), if_neg (by omega)]; exact HQ.out q hq, HC6.out⟩
          case measure =>
            have hcc := HCC.out
            simp [intOf]; omega
end Go.Proofs.YtckdpejdnejhfaaGreat.Ho

/- House: container/heap's Push, Pop, Remove, Fix over the calendar's row. -/
namespace Go.Proofs.YtckdpejdnejhfaaGreat.Ho
open Go.RowKit
open Go.Proofs.YtckdpejdnejhfaaGreat.Vb Go.Proofs.YtckdpejdnejhfaaGreat.Ac

theorem RowI.grow {W W' : World} {R : Nat → Prop} {p r g m : Nat} {now : Int} {l : List Du} (h : RowI W R p r g m now l) (hb : Below W.heap.size W W') : RowI W' R p r g m now l := by
  obtain ⟨v, F, h⟩ := h
  exact ⟨v, F, h.grow hb⟩
theorem rlenI {W : World} {R : Nat → Prop} {p r g m : Nat} {now : Int} {l : List Du} (h : RowI W R p r g m now l) : Calls Tryz.prog 174 #[.pointer (some ⟨r, 0, none⟩)] W fun e W' => e = .returned (.int .i64 l.length) ∧ W' = W := by
  obtain ⟨v, F, h⟩ := h
  exact rlen_any h
theorem rswapI {W : World} {R : Nat → Prop} {p r g m : Nat} {now : Int} {l : List Du} (h : RowI W R p r g m now l) {i j : Nat} (hi : i < l.length) (hj : j < l.length) :
    Calls Tryz.prog 213 #[.pointer (some ⟨r, 0, none⟩), .int .i64 i, .int .i64 j] W fun e W' => e = .returned (.tuple #[]) ∧ RowI W' R p r g m now (swp l i j) ∧ Chg R W W' := by
  obtain ⟨v, F, h⟩ := h
  refine (rswap_any h (gD_get hi) (gD_get hj)).mono ?_
  rintro e W' ⟨he, ⟨F', hT⟩, hc⟩
  exact ⟨he, ⟨v, F', hT⟩, hc⟩
theorem rpopI {W : World} {R : Nat → Prop} {p r g m : Nat} {now : Int} {l : List Du} (h : RowI W R p r g m now l) {n : Nat} (hn : l.length = n + 1) :
    Calls Tryz.prog 211 #[.pointer (some ⟨r, 0, none⟩)] W fun e W' => e = .returned (dueV (gD l n)) ∧ RowI W' R p r g m now (l.take n) ∧ Chg R W W' := by
  have hl : l = l.take n ++ [gD l n] := by
    have h1 := List.take_append_drop n l
    rw [List.drop_eq_getElem_cons (by omega), List.drop_eq_nil_of_le (by omega)] at h1
    have h2 := gD_get (l := l) (k := n) (by omega)
    rw [List.getElem?_eq_getElem (by omega)] at h2
    rw [Option.some.inj h2] at h1
    exact h1.symm
  obtain ⟨v, F, h⟩ := h
  rw [hl] at h
  have h2 := rpop_any h
  refine h2.mono ?_
  rintro e W' ⟨he, ⟨v', F', hT⟩, hc⟩
  exact ⟨he, ⟨v', F', hT⟩, hc⟩
theorem gD_take {l : List Du} {n k : Nat} (h : k < n) : gD (l.take n) k = gD l k := by simp [gD, List.getD_eq_getElem?_getD, List.getElem?_take, h]
theorem heap_take {l : List Du} {n : Nat} (h : HeapF leD (gD l) n) : HeapF leD (gD (l.take n)) n := fun k h0 hk => by
  rw [gD_take hk, gD_take (by omega)]
  exact h k h0 hk
theorem perm_take {l l2 : List Du} {n : Nat} (hp : l2.Perm l) (hn : l2.length = n + 1) : l.Perm (gD l2 n :: l2.take n) := by
  have h1 := List.take_append_drop n l2
  rw [List.drop_eq_getElem_cons (by omega), List.drop_eq_nil_of_le (by omega)] at h1
  have h2 := gD_get (l := l2) (k := n) (by omega)
  rw [List.getElem?_eq_getElem (by omega)] at h2
  rw [Option.some.inj h2] at h1
  have h3 : (l2.take n ++ [gD l2 n]).Perm (gD l2 n :: l2.take n) := List.perm_append_singleton _ _
  rw [h1] at h3
  exact hp.symm.trans h3
set_option maxRecDepth 100000 in
set_option maxHeartbeats 2000000 in
theorem hpop_any {W : World} {R : Nat → Prop} {p r g m : Nat} {now : Int} {l : List Du} (h : RowI W R p r g m now l) (hh : HeapF leD (gD l) l.length) (hn : l.length ≤ 1099511627776) (h0 : 0 < l.length) :
    Calls Tryz.prog 148 #[rowV r] W fun e W' => e = .returned (dueV (gD l 0)) ∧ (∃ l', RowI W' R p r g m now l' ∧ l.Perm (gD l 0 :: l') ∧ HeapF leD (gD l') l'.length) ∧ Chg R W W' := by
  obtain ⟨n, hnl⟩ : ∃ n, l.length = n + 1 := ⟨l.length - 1, by omega⟩
  have HR := Lib.hid h
  have HH := Lib.hid hh
  have HN := Lib.hid hn
  have HL := Lib.hid hnl
  have hw : IntKind.i64.wrap (n : Int) = (n : Int) := IntWalk.i64_in _ (by omega)
  have hl : (l.length : Int) = (n : Int) + 1 := by omega
  clear h hh hn h0 hnl
  go_enter Tryz.func148, Tryz.ntmps148
  go_wp2_with fail
  refine (rlenI HR.out).mono ?_
  rintro e W2 ⟨rfl, rfl⟩
  rw [hl]
  clear hl
  go_wp2_with fail
  refine (rswapI (i := 0) (j := n) HR.out (by have := HL.out; omega) (by have := HL.out; omega)).mono ?_
  rintro e W3 ⟨rfl, hr3, hc3⟩
  have HR3 := Lib.hid hr3
  have HC3 := Lib.hid hc3
  have hsl := swp_len l 0 n
  have hL := HL.out
  have hg : gD (swp l 0 n) = swF (gD l) 0 n := swp_get (by omega) (by omega) _
  have hdn : DnF leD (gD (swp l 0 n)) n 0 := by
    rcases Nat.eq_zero_or_pos n with e | e
    · subst e; exact ⟨fun k h0 hk => by omega, fun k h0 hk => by omega⟩
    · exact HeapF.dn (f := gD l) leD_tr (HH.out.less (by omega)) (fun k hk hkn => by rw [hg, swF_o (by omega) hk]) e
  have HDN := Lib.hid hdn
  have HSL := Lib.hid hsl
  have HG := Lib.hid hg
  clear hr3 hc3 hsl hL hg hdn
  go_wp2_with fail
  refine (down_any (i0 := 0) (n := n) HR3.out (by have := HN.out; have := HSL.out; omega) (by have := HL.out; have := HSL.out; omega) (Nat.zero_le _) HDN.out).mono ?_
  rintro e W4 ⟨b, l4, rfl, hr4, hp4, hq4, ht4, hf4, hc4⟩
  have hheap : HeapF leD (gD l4) n := by
    cases b with
    | true => exact ht4 rfl
    | false => obtain ⟨e, hu⟩ := hf4 rfl; rw [e]; exact hu.top
  have hlen4 : l4.length = n + 1 := by rw [hp4.length_eq, HSL.out, HL.out]
  have hlast : gD l4 n = gD l 0 := by
    have h1 := hq4 n (Nat.le_refl _)
    have h2 : gD l4 n = gD (swp l 0 n) n := by simp [gD, List.getD_eq_getElem?_getD, h1]
    rw [h2, HG.out, swF_j]
  have HR4 := Lib.hid hr4
  have HP4 := Lib.hid (hp4.trans (swp_perm l 0 n))
  have HC4 := Lib.hid (HC3.out.trans hc4)
  have HHP := Lib.hid hheap
  have HL4 := Lib.hid hlen4
  have HLA := Lib.hid hlast
  clear hr4 hp4 hq4 ht4 hf4 hc4 hheap hlen4 hlast
  go_wp2_with fail
  refine (rpopI HR4.out HL4.out).mono ?_
  rintro e W5 ⟨rfl, hr5, hc5⟩
  have HR5 := Lib.hid hr5
  have HC5 := Lib.hid (HC4.out.trans hc5)
  rw [HLA.out]
  clear hr5 hc5
  go_wp2_with fail
  go_ret
  refine ⟨rfl, ⟨l4.take n, HR5.out, ?_, ?_⟩, HC5.out⟩
  · have := perm_take HP4.out HL4.out
    rwa [HLA.out] at this
  · have := HL4.out
    rw [show (l4.take n).length = n by simp; omega]
    exact heap_take HHP.out
end Go.Proofs.YtckdpejdnejhfaaGreat.Ho

/- House: container/heap's Fix, Remove over the calendar's row. -/
namespace Go.Proofs.YtckdpejdnejhfaaGreat.Ho
open Go.RowKit
open Go.Proofs.YtckdpejdnejhfaaGreat.Vb Go.Proofs.YtckdpejdnejhfaaGreat.Ac

end Go.Proofs.YtckdpejdnejhfaaGreat.Ho

/- A map's block whose entries are all good. -/
namespace Go.Proofs.YtckdpejdnejhfaaGreat.Vb
open Go.RowKit
open Go.Maps (Keyed)
open Go.WideElems (Fit)

theorem nodup_le {α : Type} : ∀ (l L : List α), l.Nodup → (∀ x ∈ l, x ∈ L) → l.length ≤ L.length
  | [], _, _, _ => Nat.zero_le _
  | x :: l, L, hn, hs => by
    obtain ⟨s, t, rfl⟩ := List.append_of_mem (hs x (by simp))
    have h1 := List.nodup_cons.1 hn
    have := nodup_le l (s ++ t) h1.2 (fun y hy => by
      have := hs y (by simp [hy])
      simp only [List.mem_append, List.mem_cons] at this ⊢
      rcases this with h | rfl | h
      · exact .inl h
      · exact absurd hy h1.1
      · exact .inr h)
    simp only [List.length_append, List.length_cons] at this ⊢
    omega

/-- Block b is a map (keys of type kt, plain elements of type et) all whose entries are good. -/
def MapG (P : Program) (kt et : TypeId) (w : World) (b : Nat) (Good : Value → Value → Prop) : Prop :=
  ∃ es clock, w.heap[b]? = some (.map es clock) ∧ Fit (H := Unit) P kt (plainElem P et) es clock ∧ ∀ x ∈ es.toList, Good x.key x.val

section
variable {P : Program} {kt et : TypeId} {w w' : World} {b : Nat} {Good : Value → Value → Prop}

end
end Go.Proofs.YtckdpejdnejhfaaGreat.Vb

/- House: the calendar: its word; New, Now, Next. -/
namespace Go.Proofs.YtckdpejdnejhfaaGreat.Ho
open Go.RowKit
open Go.MapKept (IsKey)
open Go.Proofs.YtckdpejdnejhfaaGreat.Vb Go.Proofs.YtckdpejdnejhfaaGreat.Ac

/-- a calendar: its now; at which tick each number stands -/
def CalAt (W : World) (R : Nat → Prop) (p : Nat) (now : Int) (D : Int → Option Int) : Prop :=
  ∃ r g m l, RowI W R p r g m now l ∧ HeapF leD (gD l) l.length ∧ (∀ d : Du, d ∈ l ↔ D d.2 = some d.1) ∧ ∀ d ∈ l, d.2 < 4096
section
variable {W W' : World} {R R' X : Nat → Prop} {p : Nat} {now : Int} {D : Int → Option Int}
theorem RowI.chg {r g m : Nat} {l : List Du} (h : RowI W R p r g m now l) (hc : Chg X W W') (hX : ∀ b, b < W.heap.size → R b → ¬ X b) : RowI W' R p r g m now l := by
  obtain ⟨v, F, h⟩ := h
  exact ⟨v, F, h.chg hc hX⟩
theorem RowI.mono {r g m : Nat} {l : List Du} (h : RowI W R p r g m now l) (hR : ∀ b, b < W.heap.size → R b → R' b) : RowI W R' p r g m now l := by
  obtain ⟨v, F, h⟩ := h
  exact ⟨v, F, h.mono hR⟩
theorem CalAt.chg (h : CalAt W R p now D) (hc : Chg X W W') (hX : ∀ b, b < W.heap.size → R b → ¬ X b) : CalAt W' R p now D := by
  obtain ⟨r, g, m, l, h, h2⟩ := h
  exact ⟨r, g, m, l, h.chg hc hX, h2⟩
theorem CalAt.grow (h : CalAt W R p now D) (hb : Below W.heap.size W W') : CalAt W' R p now D := h.chg (Chg.of (fun _ => False) hb) fun _ _ _ => id
theorem CalAt.mono (h : CalAt W R p now D) (hR : ∀ b, b < W.heap.size → R b → R' b) : CalAt W R' p now D := by
  obtain ⟨r, g, m, l, h, h2⟩ := h
  exact ⟨r, g, m, l, h.mono hR, h2⟩
theorem CalAt.cell (h : CalAt W R p now D) : W.cell? ⟨p, 0, none⟩ = some (.int .i64 now) ∧ ∃ r, W.cell? ⟨p, 1, none⟩ = some (.pointer (some ⟨r, 0, none⟩)) := by
  obtain ⟨r, g, m, l, ⟨v, F, h⟩, _⟩ := h
  exact ⟨h.bp.cell 0, r, h.bp.cell 1⟩
theorem IdxF.nodup {κ : Type} {ns : List κ} {F : κ → Option Int} (h : IdxF ns F) : ns.Nodup := by
  rw [List.nodup_iff_pairwise_ne, List.pairwise_iff_getElem]
  intro i j hi hj hij e
  have := h.inj (i := i) (j := j) (x := ns[i]) (by simp [hi]) (by rw [e]; simp [hj])
  omega
theorem RowI.small {r g m : Nat} {l : List Du} (h : RowI W R p r g m now l) (hl : ∀ d ∈ l, d.2 < 4096) : l.length ≤ 4096 := by
  obtain ⟨v, F, h⟩ := h
  have := nodup_le (l.map (·.2)) ((List.range 4096).map Int.ofNat) h.idx.nodup (fun x hx => by
    obtain ⟨d, hd, rfl⟩ := List.mem_map.1 hx
    have h1 := hl d hd
    have h2 := (h.ok d hd).2.1
    exact List.mem_map.2 ⟨d.2.toNat, by simp; omega, by simp; omega⟩)
  simpa using this
end
theorem tnone_any {W : World} {R : Nat → Prop} {p : Nat} {now : Int} {D : Int → Option Int} (h : CalAt W R p now D) : Calls Tryz.prog 88 #[.pointer (some ⟨p, 0, none⟩)] W fun e W' => e = .returned (.bool false) ∧ W' = W := by
  obtain ⟨_, r, c1⟩ := h.cell
  clear h
  go_enter Tryz.func88, Tryz.ntmps88
  go_wp2_with fail
  go_ret
  exact ⟨rfl, rfl⟩
theorem tnow_any {W : World} {R : Nat → Prop} {p : Nat} {now : Int} {D : Int → Option Int} (h : CalAt W R p now D) : Calls Tryz.prog 118 #[.pointer (some ⟨p, 0, none⟩)] W fun e W' => e = .returned (.int .i64 now) ∧ W' = W := by
  have c0 := h.cell.1
  have H := Lib.hid h
  clear h
  go_enter Tryz.func118, Tryz.ntmps118
  go_wp2_with fail
  refine (tnone_any H.out).mono ?_
  rintro e w1 ⟨rfl, rfl⟩
  go_wp2_with fail
  go_ret
  exact ⟨rfl, rfl⟩
theorem tis_any (t : Int) (w : World) : Calls Tryz.prog 73 #[.int .i64 t] w fun e w' => e = .returned (.bool (coinB t)) ∧ w' = w := by
  have h : ∃ b1 b2, b1 = decide (0 ≤ t) ∧ b2 = decide (t ≤ 1099511627776) := ⟨_, _, rfl, rfl⟩
  unfold coinB
  by_cases h1 : 0 ≤ t
  · by_cases h2 : t ≤ 1099511627776
    · rw [decide_eq_true h1, decide_eq_true h2]
      go_enter Tryz.func73, Tryz.ntmps73
      go_wp2_with fail
      go_ret
      exact ⟨rfl, rfl⟩
    · rw [decide_eq_true h1, decide_eq_false h2]
      go_enter Tryz.func73, Tryz.ntmps73
      go_wp2_with fail
      go_ret
      exact ⟨rfl, rfl⟩
  · rw [decide_eq_false h1]
    go_enter Tryz.func73, Tryz.ntmps73
    go_wp2_with fail
    go_ret
    exact ⟨rfl, rfl⟩
set_option maxRecDepth 100000 in
set_option maxHeartbeats 2000000 in
theorem fresh_any (now : Int) (W : World) : Calls Tryz.prog 74 #[.int .i64 now] W fun e W' => ∃ p, e = .returned (.pointer (some ⟨p, 0, none⟩)) ∧ CalAt W' (fun b => W.heap.size ≤ b) p now (fun _ => none) ∧ Below W.heap.size W W' := by
  have hmm := @run_makeMap Tryz.prog
  have hmf : ∀ (fn : Fn) (first cap : Array Value) (w : World), (Instr.makeFunc fn first cap).run Tryz.prog w = .ok (.func fn first cap) w := fun _ _ _ _ => rfl
  go_enter Tryz.func74, Tryz.ntmps74
  go_wp2_with fail
  go_ret
  refine ⟨_, rfl, ⟨W.heap.size + 1 + 1 + 1, W.heap.size + 1 + 1, W.heap.size, [], ⟨.slice none 0 0, fun _ => none, ?_, ?_, ?_, RowAt.nil, ?_, IdxF.nil, ⟨by omega, by omega, by omega, Nat.le_refl _⟩, by simp, ⟨by omega, by omega, by omega⟩⟩, fun k h0 hk => by simp at hk, by simp, by simp⟩, ?_⟩
  · exact ((Blk.new' _ _ (by simp)).alloc _).alloc _
  · exact Blk.new' _ _ (by simp)
  · exact (Blk.new' _ _ (by simp)).alloc _
  · exact (((MapK.made W).grow ((Below.refl _ _).alloc (Nat.le_refl _) _)).grow ((Below.refl _ _).alloc (Nat.le_refl _) _)).grow ((Below.refl _ _).alloc (Nat.le_refl _) _)
  · exact ((((Below.refl _ _).alloc (Nat.le_refl _) _).alloc (by simp) _).alloc (by simp; omega) _).alloc (by simp; omega) _
set_option maxRecDepth 100000 in
set_option maxHeartbeats 2000000 in
theorem of_any (now : Int) (hn : coinB now = true) (W : World) : Calls Tryz.prog 37 #[.int .i64 now, .slice none 0 0] W fun e W' => ∃ p, e = .returned (.tuple #[.pointer (some ⟨p, 0, none⟩), .int .i64 0]) ∧ CalAt W' (fun b => W.heap.size ≤ b) p now (fun _ => none) ∧ Below W.heap.size W W' := by
  have HN := Lib.hid hn
  clear hn
  go_enter Tryz.func37, Tryz.ntmps37
  go_wp2_with fail
  refine (tis_any now _).mono ?_
  rintro e w1 ⟨rfl, rfl⟩
  rw [HN.out]
  go_wp2_with fail
  go_loopw [6, 17] (fun s i wr => s = .bool false ∧ i = .int .i64 0 ∧ wr = w1) (fun _ _ _ => 0)
  case atStart => exact ⟨rfl, rfl, rfl⟩
  case round =>
    obtain ⟨rfl, rfl, hw⟩ := hrel
    rw [hw]
    go_wp2_with fail
    refine (fresh_any now _).mono ?_
    rintro e w2 ⟨p, rfl, hC, hb⟩
    have HC := Lib.hid hC
    have HB := Lib.hid hb
    clear hC hb
    go_wp2_with fail
    go_loopw [43] (fun i wr => i = .int .i64 0 ∧ wr = w2) (fun _ _ => 0)
    case atStart => exact ⟨rfl, rfl⟩
    case round =>
      obtain ⟨rfl, hw⟩ := hrel
      rw [hw]
      go_wp2_with fail
      exact bodyPost_ret (v := .tuple #[.pointer (some ⟨p, 0, none⟩), .int .i64 0]) (by simp [results, Tryz.results37, go_sem]) rfl ⟨p, rfl, HC.out, HB.out⟩
theorem tnew_any (W : World) : Calls Tryz.prog 20 #[.int .i64 0] W fun e W' => ∃ p, e = .returned (.tuple #[.pointer (some ⟨p, 0, none⟩), .int .i64 0]) ∧ CalAt W' (fun b => W.heap.size ≤ b) p 0 (fun _ => none) ∧ Below W.heap.size W W' := by
  go_enter Tryz.func20, Tryz.ntmps20
  go_wp2_with fail
  refine (of_any 0 rfl _).mono ?_
  rintro e w1 ⟨p, rfl, hC, hb⟩
  have HC := Lib.hid hC
  have HB := Lib.hid hb
  clear hC hb
  go_wp2_with fail
  exact bodyPost_ret (v := .tuple #[.pointer (some ⟨p, 0, none⟩), .int .i64 0]) (by simp [results, Tryz.results20, go_sem]) rfl ⟨p, rfl, HC.out, HB.out⟩
end Go.Proofs.YtckdpejdnejhfaaGreat.Ho

/- House: the calendar's Set. -/
namespace Go.Proofs.YtckdpejdnejhfaaGreat.Ho
open Go.RowKit
open Go.MapKept (IsKey)
open Go.Proofs.YtckdpejdnejhfaaGreat.Vb Go.Proofs.YtckdpejdnejhfaaGreat.Ac

end Go.Proofs.YtckdpejdnejhfaaGreat.Ho

/- House: the calendar's Len, Next, Upto. -/
namespace Go.Proofs.YtckdpejdnejhfaaGreat.Ho
open Go.RowKit
open Go.MapKept (IsKey)
open Go.Proofs.YtckdpejdnejhfaaGreat.Vb Go.Proofs.YtckdpejdnejhfaaGreat.Ac

theorem tnoneI {W : World} {R : Nat → Prop} {p r g m : Nat} {now : Int} {l : List Du} (h : RowI W R p r g m now l) : Calls Tryz.prog 88 #[.pointer (some ⟨p, 0, none⟩)] W fun e W' => e = .returned (.bool false) ∧ W' = W := by
  obtain ⟨v, F, h⟩ := h
  have c1 : W.cell? ⟨p, 1, none⟩ = some (.pointer (some ⟨r, 0, none⟩)) := h.bp.cell 1
  clear h
  go_enter Tryz.func88, Tryz.ntmps88
  go_wp2_with fail
  go_ret
  exact ⟨rfl, rfl⟩
theorem tlenI {W : World} {R : Nat → Prop} {p r g m : Nat} {now : Int} {l : List Du} (h : RowI W R p r g m now l) : Calls Tryz.prog 165 #[.pointer (some ⟨p, 0, none⟩)] W fun e W' => e = .returned (.int .i64 l.length) ∧ W' = W := by
  have H := Lib.hid h
  obtain ⟨v, F, h⟩ := h
  have c1 : W.cell? ⟨p, 1, none⟩ = some (.pointer (some ⟨r, 0, none⟩)) := h.bp.cell 1
  clear h
  go_enter Tryz.func165, Tryz.ntmps165
  go_wp2_with fail
  refine (tnoneI H.out).mono ?_
  rintro e w1 ⟨rfl, rfl⟩
  go_wp2_with fail
  refine (rlenI H.out).mono ?_
  rintro e w1 ⟨rfl, rfl⟩
  go_wp2_with fail
  go_ret
  exact ⟨rfl, rfl⟩
set_option maxRecDepth 100000 in
set_option maxHeartbeats 2000000 in
theorem tnextI {W : World} {R : Nat → Prop} {p r g m : Nat} {now : Int} {l : List Du} (h : RowI W R p r g m now l) :
    Calls Tryz.prog 147 #[.pointer (some ⟨p, 0, none⟩)] W fun e W' => e = .returned (.tuple #[.agg #[.int .i64 (gD l 0).1, .int .i64 (gD l 0).2], .bool (decide (0 < l.length))]) ∧ Below W.heap.size W W' := by
  obtain ⟨W1, hW1⟩ : ∃ W1, W1 = W.alloc (.cells #[.int .i64 0, .int .i64 0] 161) := ⟨_, rfl⟩
  have hb1 : Below W.heap.size W W1 := by rw [hW1]; exact (Below.refl _ _).alloc (Nat.le_refl _) _
  have hD1 : Blk W1 W.heap.size 161 #[.int .i64 0, .int .i64 0] := by rw [hW1]; exact Blk.new W _ _
  have h1 := h.grow hb1
  have x0 := hD1.cell 0
  have x1 := hD1.cell 1
  have xf := hD1.frozen
  simp only [List.getElem?_toArray, List.getElem?_cons_zero, List.getElem?_cons_succ] at x0 x1
  have H1 := Lib.hid h1
  have HB1 := Lib.hid hb1
  rcases Nat.eq_zero_or_pos l.length with e | e
  · have hl : l = [] := List.eq_nil_of_length_eq_zero e
    subst hl
    have q0 := ((hD1.set_ 0 (.int .i64 0)).set_ 1 (.int .i64 0)).cell 0
    have q1 := ((hD1.set_ 0 (.int .i64 0)).set_ 1 (.int .i64 0)).cell 1
    simp at q0 q1
    clear h h1 hb1 e hD1
    go_enter Tryz.func147, Tryz.ntmps147
    go_wp2_with fail
    rw [← hW1]
    clear hW1
    refine (tlenI H1.out).mono ?_
    rintro e w1 ⟨rfl, rfl⟩
    have h0 : (([] : List Du).length : Int) = 0 := rfl
    rw [h0]
    go_wp2_with fail
    refine bodyPost_ret (v := .tuple #[.agg #[.int .i64 0, .int .i64 0], .bool false]) (by simp [results, Tryz.results147, go_sem, q0, q1]) rfl ⟨rfl, ?_⟩
    exact (HB1.out.setCell (p := ⟨W.heap.size, 0, none⟩) (Nat.le_refl _) _).setCell (p := ⟨W.heap.size, 1, none⟩) (Nat.le_refl _) _
  · obtain ⟨v, F, hT⟩ := h1
    obtain ⟨q, cap, hv, hq, i0, i1, _, _, hcap⟩ := hT.at_ (gD_get e)
    have c1 : W1.cell? ⟨p, 1, none⟩ = some (.pointer (some ⟨r, 0, none⟩)) := hT.bp.cell 1
    have r0 : W1.cell? ⟨r, 0, none⟩ = some (.slice (some ⟨q, 0, none⟩) l.length cap) := (hT.br.cell 0).trans (by rw [hv]; rfl)
    obtain ⟨d, hd⟩ : ∃ d, d = gD l 0 := ⟨_, rfl⟩
    rw [← hd] at i0 i1 ⊢
    obtain ⟨d1, d2⟩ := d
    simp only [Nat.zero_mul, Nat.zero_add] at i0 i1
    have q0 := ((hD1.set_ 0 (.int .i64 d1)).set_ 1 (.int .i64 d2)).cell 0
    have q1 := ((hD1.set_ 0 (.int .i64 d1)).set_ 1 (.int .i64 d2)).cell 1
    simp at q0 q1
    have e1 : (0 : Int) < (l.length : Int) := by omega
    have hdec : decide (0 < l.length) = true := decide_eq_true e
    have hl0 : ((l.length : Int) == 0) = false := by rw [beq_eq_false_iff_ne]; omega
    rw [hdec]
    clear h hb1 e hD1 hT hv hd
    go_enter Tryz.func147, Tryz.ntmps147
    go_wp2_with fail
    rw [← hW1]
    clear hW1
    refine (tlenI H1.out).mono ?_
    rintro e w1 ⟨rfl, rfl⟩
    go_wp2_with fail
    refine bodyPost_ret (v := .tuple #[.agg #[.int .i64 d1, .int .i64 d2], .bool true]) (by simp [results, Tryz.results147, go_sem, q0, q1]) rfl ⟨rfl, ?_⟩
    exact (HB1.out.setCell (p := ⟨W.heap.size, 0, none⟩) (Nat.le_refl _) _).setCell (p := ⟨W.heap.size, 1, none⟩) (Nat.le_refl _) _
theorem TickI.setNow {W : World} {R : Nat → Prop} {p r g m : Nat} {now : Int} {v : Value} {F : Int → Option Int} {l : List Du} (h : TickI W R p r g m now v F l) (t : Int) : TickI (W.setCell ⟨p, 0, none⟩ (.int .i64 t)) R p r g m t v F l := by
  have hc := Chg.set W ⟨p, 0, none⟩ (.int .i64 t)
  exact ⟨h.bp.set_ 0 _, h.br.chg hc (fun e => h.ne.1 e.symm), h.bg.chg hc (fun e => h.ne.2.1 e.symm), h.row.chgB hc (fun b hb e => (h.row.blk b hb).2.1 e), h.map.chg hc (fun e => h.map.not_cells h.bp e.symm), h.idx, h.inR, h.ok, h.ne⟩
/-- what is left behind a tick -/
def laterD (D : Int → Option Int) (t : Int) : Int → Option Int := fun n => match D n with | some x => if x ≤ t then none else some x | none => none
/-- the numbers due at a tick, in order -/
structure DueL (D : Int → Option Int) (t : Int) (outs : List Du) : Prop where
  sorted : outs.Pairwise leD
  mem : ∀ d : Du, d ∈ outs ↔ D d.2 = some d.1 ∧ d.1 ≤ t
  nodup : (outs.map (·.2)).Nodup
end Go.Proofs.YtckdpejdnejhfaaGreat.Ho

/- House: the calendar's Upto. -/
namespace Go.Proofs.YtckdpejdnejhfaaGreat.Ho
open Go.RowKit
open Go.MapKept (IsKey)
open Go.Proofs.YtckdpejdnejhfaaGreat.Vb Go.Proofs.YtckdpejdnejhfaaGreat.Ac

theorem due_box {W : World} {g : Nat} {d : Du} (h : Blk W g 161 #[.int .i64 d.1, .int .i64 d.2]) : W.cell? ⟨g, 0, none⟩ = some (.int .i64 d.1) ∧ W.cell? ⟨g, 1, none⟩ = some (.int .i64 d.2) := ⟨h.cell 0, h.cell 1⟩
theorem RowI.cells {W : World} {R : Nat → Prop} {p r g m : Nat} {now : Int} {l : List Du} (h : RowI W R p r g m now l) : W.cell? ⟨p, 1, none⟩ = some (.pointer (some ⟨r, 0, none⟩)) ∧ R p := by
  obtain ⟨v, F, h⟩ := h
  exact ⟨h.bp.cell 1, h.inR.1⟩
/-- what the loop holds: those out, those left -/
structure UpI (W0 : World) (R : Nat → Prop) (p r g m : Nat) (t : Int) (l : List Du) (gb : Nat) (v : Value) (outs l' : List Du) (W : World) : Prop where
  row : RowAt W (fun b => W0.heap.size ≤ b ∧ b ≠ gb) 161 2 v outs.length (duAll outs)
  box : Blk W gb 161 #[.int .i64 (gD l' 0).1, .int .i64 (gD l' 0).2]
  gb : W0.heap.size ≤ gb
  cal : RowI W R p r g m t l'
  heap : HeapF leD (gD l') l'.length
  perm : l.Perm (outs ++ l')
  sorted : outs.Pairwise leD
  least : ∀ x ∈ outs, ∀ y ∈ l', leD x y
  till : ∀ x ∈ outs, x.1 ≤ t
  chg : Chg R W0 W
def UptoP (W : World) (R : Nat → Prop) (p r g m : Nat) (t : Int) (l : List Du) (e : Ending) (W' : World) : Prop :=
  ∃ v outs l', e = .returned (.tuple #[v, .int .i64 0]) ∧ RowAt W' (fun b => W.heap.size ≤ b) 161 2 v outs.length (duAll outs) ∧ RowI W' R p r g m t l' ∧ HeapF leD (gD l') l'.length ∧
      l.Perm (outs ++ l') ∧ outs.Pairwise leD ∧ (∀ x ∈ outs, x.1 ≤ t) ∧ (∀ x ∈ l', t < x.1) ∧ Chg R W W'
set_option maxRecDepth 100000 in
set_option maxHeartbeats 8000000 in
theorem tupto_in {W : World} {R : Nat → Prop} (hR : ∀ b, R b → b < W.heap.size) {p r g m : Nat} {now : Int} {l : List Du} (hr : RowI W R p r g m now l) (hh : HeapF leD (gD l) l.length) (hsm : l.length ≤ 4096) {t : Int} (ht : coinB t = true) (hnow : now ≤ t) :
    Calls Tryz.prog 124 #[.pointer (some ⟨p, 0, none⟩), .int .i64 t] W fun e W' => UptoP W R p r g m t l e W' := by
  have HRR := Lib.hid hR
  have HR := Lib.hid hr
  have HH := Lib.hid hh
  have HSM := Lib.hid hsm
  have HT := Lib.hid ht
  obtain ⟨v0, F0, hT0⟩ := hr
  have p0 : W.cell? ⟨p, 0, none⟩ = some (.int .i64 now) := hT0.bp.cell 0
  have pf : W.frozen? ⟨p, 0, none⟩ = false := hT0.bp.frozen 0
  obtain ⟨U, hU⟩ : ∃ U, U = W.setCell ⟨p, 0, none⟩ (.int .i64 t) := ⟨_, rfl⟩
  have hcU : Chg R W U := by rw [hU]; exact (Chg.set W ⟨p, 0, none⟩ _).mono fun b _ e => e ▸ hT0.inR.1
  have hTU : RowI U R p r g m t l := by rw [hU]; exact ⟨v0, F0, hT0.setNow t⟩
  have HU := Lib.hid hU
  have HCU := Lib.hid hcU
  have HTU := Lib.hid hTU
  have g2 : ¬ t < now := by omega
  clear hh hsm ht hT0 hU hcU hTU hR
  go_enter Tryz.func124, Tryz.ntmps124
  go_wp2_with fail
  refine (tnoneI HR.out).mono ?_
  rintro e w1 ⟨rfl, rfl⟩
  go_wp2_with fail
  refine (tis_any t _).mono ?_
  rintro e w1 ⟨rfl, rfl⟩
  rw [HT.out]
  go_wp2_with fail
  rw [← HU.out]
  clear p0 pf
  refine (tnextI HTU.out).mono ?_
  rintro e w2 ⟨rfl, hb2⟩
  have HC2 := Lib.hid (HCU.out.grow hb2)
  have HT2 := Lib.hid (HTU.out.grow hb2)
  have hs2 := HC2.out.size
  clear hb2
  go_wp2_with fail
  obtain ⟨w3, hw3⟩ : ∃ w3, w3 = w2.alloc (.cells #[.int .i64 (gD l 0).1, .int .i64 (gD l 0).2] 161) := ⟨_, rfl⟩
  have hb3 : Below w2.heap.size w2 w3 := by rw [hw3]; exact (Below.refl _ _).alloc (Nat.le_refl _) _
  have HI3 := Lib.hid (show UpI w1 R p r g m t l w2.heap.size (.slice none 0 0) [] l w3 from ⟨RowAt.nil, by rw [hw3]; exact Blk.new _ _ _, hs2, HT2.out.grow hb3, HH.out, by simp, List.Pairwise.nil, by simp, by simp, HC2.out.grow hb3⟩)
  rw [← hw3]
  clear hw3 hb3
  go_loopw [6, 7, 8] (fun o b k wr => ∃ (A : Option Addr) (c gb : Nat) (outs l' : List Du), o = .slice A outs.length c ∧ b = .pointer (some ⟨gb, 0, none⟩) ∧ k = .bool (decide (0 < l'.length)) ∧ UpI w1 R p r g m t l gb (.slice A outs.length c) outs l' wr) (fun o _ _ _ => l.length - (match o with | .slice _ n _ => n | _ => 0))
  case atStart => exact ⟨none, 0, w2.heap.size, [], l, rfl, rfl, rfl, HI3.out⟩
  case round =>
    obtain ⟨A, c, gb, outs, l', rfl, rfl, rfl, hI⟩ := hrel
    obtain ⟨b0, b1⟩ := due_box hI.box
    have HI := Lib.hid hI
    rcases Nat.eq_zero_or_pos l'.length with e0 | e0
    · have hdec : decide (0 < l'.length) = false := decide_eq_false (by omega)
      have E0 := Lib.hid (List.eq_nil_of_length_eq_zero e0)
      rw [hdec]
      clear hI e0
      go_wp2_with fail
      go_ret2
      exact ⟨_, outs, l', rfl, HI.out.row.mono (fun b _ h => h.1), HI.out.cal, HI.out.heap, HI.out.perm, HI.out.sorted, HI.out.till, by rw [E0.out]; simp, HI.out.chg⟩
    · have hdec : decide (0 < l'.length) = true := decide_eq_true e0
      rw [hdec]
      have E0 := Lib.hid e0
      by_cases hle : (gD l' 0).1 ≤ t
      · have HLE := Lib.hid hle
        obtain ⟨d, hd⟩ : ∃ d, d = gD l' 0 := ⟨_, rfl⟩
        have HD := Lib.hid hd
        rw [← hd] at b0 b1 hle
        obtain ⟨d1, d2⟩ := d
        simp only at b0 b1 hle
        have hlen := hI.perm.length_eq
        have HLN := Lib.hid hlen
        have HRW := Lib.hid (hI.row.grow ((Below.refl _ _).alloc (Nat.le_refl _) (.cells #[.int .i64 d1, .int .i64 d2] 161)))
        have HSO := Lib.hid (show outs.length < 4096 by have := HSM.out; have := HLN.out; rw [List.length_append] at this; omega)
        clear hI e0 hd hlen
        have HRP := Lib.hid HR.out.cells.2
        go_wp2_with (at_builtin; go_must (refine wpList_row _ (.tmp 44) (.tmp 46) rfl et_due rfl (.slice A outs.length c) outs.length (duAll outs) rfl HRW.out (.slice (some ⟨wr.heap.size, 0, none⟩) 1 1) 1 [.int .i64 d1, .int .i64 d2] rfl (Sl.lit1 (Blk.new wr 161 #[.int .i64 d1, .int .i64 d2]) rfl) (by simp [Value.oneCell']) (by have := HSO.out; omega) (by have := HSO.out; unfold maxLen; omega) ?_); intro A3 c3 Z hrZ hcZ; have hTZ : RowI Z R p r g m t l' := (HI.out.cal.grow ((Below.refl _ _).alloc (Nat.le_refl _) (.cells #[.int .i64 d1, .int .i64 d2] 161))).chg hcZ (fun b hb h1 h2 => by have := (HRW.out.blk b h2).1; have := HRR.out b h1; omega); have c1 := hTZ.cells.1; have HTZ := Lib.hid hTZ; have HRZ := Lib.hid hrZ; have HCZ := Lib.hid hcZ; clear hTZ hrZ hcZ)
        refine (hpop_any HTZ.out HI.out.heap (by have := HSM.out; have := HLN.out; rw [List.length_append] at this; omega) E0.out).mono ?_
        rintro e W5 ⟨rfl, ⟨l2, hr2, hp2, hh2⟩, hc5⟩
        have hsz : W5.heap.size ≥ wr.heap.size + 1 := Nat.le_trans (Nat.le_trans (by simp) HCZ.out.size) hc5.size
        have hgb := HI.out.box.lt
        have hb5 : Blk W5 gb 161 #[.int .i64 d1, .int .i64 d2] := by
          have h1 := HI.out.box
          rw [← HD.out] at h1
          refine ((h1.alloc _).chg HCZ.out (fun h2 => (HRW.out.blk gb h2).2 rfl)).chg hc5 (fun h2 => ?_)
          have := HRR.out gb h2
          have := HI.out.gb
          omega
        obtain ⟨W6, hW6⟩ : ∃ W6, W6 = W5.alloc (.cells #[.int .i64 d1, .int .i64 d2] 161) := ⟨_, rfl⟩
        have hb6 : Below W5.heap.size W5 W6 := by rw [hW6]; exact (Below.refl _ _).alloc (Nat.le_refl _) _
        have HB6 := Lib.hid hb6
        have HX6 := Lib.hid (show Blk W6 W5.heap.size 161 #[.int .i64 d1, .int .i64 d2] by rw [hW6]; exact Blk.new _ _ _)
        have HR2 := Lib.hid (hr2.grow hb6)
        have HP2 := Lib.hid hp2
        have HH2 := Lib.hid hh2
        have HC5 := Lib.hid hc5
        have HSZ := Lib.hid hsz
        have y0 : W5.cell? ⟨gb, 0, none⟩ = some (.int .i64 d1) := hb5.cell 0
        have y1 : W5.cell? ⟨gb, 1, none⟩ = some (.int .i64 d2) := hb5.cell 1
        clear hr2 hp2 hh2 hc5 hsz hgb hb5 hb6 b0 b1 c1
        go_wp2_with fail
        rw [← hW6]
        clear hW6 y0 y1
        refine (tnextI HR2.out).mono ?_
        rintro e W7 ⟨rfl, hb7⟩
        have HX7 := Lib.hid (HX6.out.grow hb7)
        have HR7 := Lib.hid (HR2.out.grow hb7)
        have HB7 := Lib.hid (HB6.out.trans (hb7.mono HB6.out.size))
        clear hb7
        have x0 : W7.cell? ⟨W5.heap.size, 0, none⟩ = some (.int .i64 d1) := HX7.out.cell 0
        have x1 : W7.cell? ⟨W5.heap.size, 1, none⟩ = some (.int .i64 d2) := HX7.out.cell 1
        have xf := HX7.out.frozen
        obtain ⟨W8, hW8⟩ : ∃ W8, W8 = (W7.setCell ⟨W5.heap.size, 0, none⟩ (.int .i64 (gD l2 0).1)).setCell ⟨W5.heap.size, 1, none⟩ (.int .i64 (gD l2 0).2) := ⟨_, rfl⟩
        have HW8 := Lib.hid hW8
        clear hW8
        go_wp2_with fail
        rw [← HW8.out]
        go_roundw
        case rel =>
          have hI := HI.out
          have hle := HLE.out
          have hd := HD.out
          have hc8 : Chg (· = W5.heap.size) W7 W8 := by rw [HW8.out]; exact (Chg.set W7 ⟨W5.heap.size, 0, none⟩ _).trans (Chg.set _ ⟨W5.heap.size, 1, none⟩ _)
          have hcR : ∀ b, b < W7.heap.size → R b → ¬ b = W5.heap.size := fun b _ hb e => by have h1 := HRR.out b hb; have h2 := HSZ.out; have h3 := hI.chg.size; omega
          have hrow5 := (HRZ.out.chg (X := R) HC5.out (fun b hb h1 h2 => by
            have h3 := HRR.out b h2
            rcases h1 with h1 | h1
            · exact absurd h1.1 (by omega)
            · have h4 := hI.chg.size
              rw [h1] at h3; simp at h3; omega))
          have hbound : ∀ b, (Value.slice A3 (outs.length + 1) c3).ownBlock = some b → b < W5.heap.size := fun b hb => hrow5.lt hb
          have hrow8 : RowAt W8 (fun b => w1.heap.size ≤ b ∧ b ≠ W5.heap.size) 161 2 (.slice A3 (outs.length + 1) c3) (outs.length + 1) (duAll outs ++ [.int .i64 d1, .int .i64 d2]) := by
            refine ⟨((hrow5.grow HB7.out).chgB hc8 (fun b hb e => by have := hbound b hb; omega)).own, fun b hb => ⟨?_, by have := hbound b hb; omega⟩⟩
            rcases hrow5.blk b hb with h | h
            · exact h.1
            · have h3 := hI.chg.size
              rw [h]; simp; omega
          refine ⟨A3, c3, W5.heap.size, outs ++ [(d1, d2)], l2, by simp, rfl, rfl, ?_⟩
          refine ⟨?_, ?_, ?_, HR7.out.chg hc8 hcR, HH2.out, ?_, ?_, ?_, ?_, ?_⟩
          · rw [List.length_append, duAll_app]; exact hrow8
          · rw [HW8.out]; exact (HX7.out.set_ 0 _).set_ 1 _
          · have h2 := HSZ.out; have h3 := hI.chg.size; omega
          · have h1 : (outs ++ l').Perm (outs ++ ((d1, d2) :: l2)) := (List.Perm.refl _).append (by have := HP2.out; rwa [← hd] at this)
            rw [List.append_assoc]
            exact hI.perm.trans h1
          · rw [List.pairwise_append]
            refine ⟨hI.sorted, by simp, fun x hx y hy => ?_⟩
            rw [List.mem_singleton.1 hy, hd]
            exact hI.least x hx _ (HP2.out.mem_iff.2 (.head _))
          · intro x hx y hy
            rcases List.mem_append.1 hx with hx | hx
            · exact hI.least x hx y (HP2.out.mem_iff.2 (.tail _ hy))
            · rw [List.mem_singleton.1 hx, hd]
              obtain ⟨k, hk⟩ := List.mem_iff_getElem?.1 (HP2.out.mem_iff.2 (.tail _ hy) : y ∈ l')
              have h1 := HeapF.least leD_tr leD_rf hI.heap k (List.getElem?_eq_some_iff.1 hk).1
              rwa [gD_at hk] at h1
          · intro x hx
            rcases List.mem_append.1 hx with hx | hx
            · exact hI.till x hx
            · rw [List.mem_singleton.1 hx, hd]; exact hle
          · have hs := hI.chg.size
            refine ((((hI.chg.grow ((Below.refl _ _).alloc (Nat.le_refl _) (.cells #[.int .i64 d1, .int .i64 d2] 161))).step HCZ.out fun b hb h => ?_).trans HC5.out).grow HB7.out).step hc8 fun b hb e => ?_
            · have := (HRW.out.blk b h).1; omega
            · have := HSZ.out; omega
        case measure =>
          have hm := HLN.out
          have he := E0.out
          rw [List.length_append] at hm
          simp; omega
      · have HLE := Lib.hid hle
        have hle' : ¬ (gD l' 0).1 ≤ t := hle
        clear hI e0
        go_wp2_with fail
        go_ret2
        refine ⟨_, outs, l', rfl, HI.out.row.mono (fun b _ h => h.1), HI.out.cal, HI.out.heap, HI.out.perm, HI.out.sorted, HI.out.till, fun x hx => ?_, HI.out.chg⟩
        obtain ⟨k, hk⟩ := List.mem_iff_getElem?.1 hx
        have h1 := HeapF.least leD_tr leD_rf HI.out.heap k (List.getElem?_eq_some_iff.1 hk).1
        rw [gD_at hk] at h1
        have h2 := HLE.out
        unfold leD at h1
        omega
theorem CalAt.own {W : World} {R : Nat → Prop} {p : Nat} {now : Int} {D : Int → Option Int} (h : CalAt W R p now D) : CalAt W (fun b => R b ∧ b < W.heap.size) p now D := h.mono fun b hb hr => ⟨hr, hb⟩
theorem tupto_ok {W : World} {R : Nat → Prop} {p : Nat} {now : Int} {D : Int → Option Int} (h : CalAt W R p now D) {t : Int} (ht : coinB t = true) (hnow : now ≤ t) :
    Calls Tryz.prog 124 #[.pointer (some ⟨p, 0, none⟩), .int .i64 t] W fun e W' => ∃ v outs, e = .returned (.tuple #[v, .int .i64 0]) ∧ RowAt W' (fun b => W.heap.size ≤ b) 161 2 v outs.length (duAll outs) ∧ DueL D t outs ∧ CalAt W' R p t (laterD D t) ∧ Chg R W W' := by
  obtain ⟨r, g, m, l, hr, hh, hm, hlt⟩ := h.own
  have hnd : (l.map (·.2)).Nodup := by
    obtain ⟨v, F, hT⟩ := hr
    exact hT.idx.nodup
  refine (tupto_in (fun b h => h.2) hr hh (hr.small hlt) ht hnow).mono ?_
  rintro e W' ⟨v, outs, l', rfl, hrow, hr', hh', hp, hs, hle, hgt, hc⟩
  have hmem : ∀ d, D d.2 = some d.1 ↔ d ∈ outs ∨ d ∈ l' := fun d => by rw [← hm d, hp.mem_iff, List.mem_append]
  refine ⟨v, outs, rfl, hrow, ⟨hs, fun d => ?_, ?_⟩, CalAt.mono (R := fun b => R b ∧ b < W.heap.size) ⟨r, g, m, l', hr', hh', fun d => ?_, fun d hd => hlt d (hp.mem_iff.2 (List.mem_append_right _ hd))⟩ (fun b _ h => h.1), hc.mono fun b _ h => h.1⟩
  · rw [hmem]
    constructor
    · exact fun h => ⟨.inl h, hle d h⟩
    · rintro ⟨h | h, h2⟩
      · exact h
      · have := hgt d h; omega
  · have := (hp.map (·.2)).nodup hnd
    rw [List.map_append] at this
    exact (List.nodup_append.1 this).1
  · unfold laterD
    constructor
    · intro h
      have h1 := (hmem d).2 (.inr h)
      rw [h1]
      simp only
      rw [if_neg (by have := hgt d h; omega)]
    · intro h
      cases hD : D d.2 with
      | none => rw [hD] at h; cases h
      | some x =>
        rw [hD] at h
        simp only at h
        by_cases hx : x ≤ t
        · rw [if_pos hx] at h; cases h
        · rw [if_neg hx] at h
          injection h with h
          subst h
          rcases (hmem d).1 hD with h2 | h2
          · exact absurd (hle d h2) hx
          · exact h2
end Go.Proofs.YtckdpejdnejhfaaGreat.Ho

/- House: the calendar's Drop. -/
namespace Go.Proofs.YtckdpejdnejhfaaGreat.Ho
open Go.RowKit
open Go.MapKept (IsKey)
open Go.Proofs.YtckdpejdnejhfaaGreat.Vb Go.Proofs.YtckdpejdnejhfaaGreat.Ac

end Go.Proofs.YtckdpejdnejhfaaGreat.Ho

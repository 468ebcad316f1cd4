/- Joined by program: AccK AccL AccM AccN AccQ. -/
import Derived.Test.YtckdpejdnejhfaaGreatZh
/- Account: Pay, Take. -/
set_option linter.all false
namespace Go.Proofs.YtckdpejdnejhfaaGreat.Ac
open Go.RowKit Go.Shelf Go.Maps
open Go.Proofs.YtckdpejdnejhfaaGreat.Vb
attribute [local go_sem] Oper.semAt_some

theorem AccAt.setSp {W : World} {b m n : Nat} {a : Acc} (h : AccAt W b m n a) (s : Int) : AccAt (W.setCell ⟨b, 1, none⟩ (.int .i64 s)) b m n { a with sp := s } :=
  ⟨h.blk.set_ 1 (.int .i64 s), Chg.ownsMap h.own (Chg.set W ⟨b, 1, none⟩ (.int .i64 s)) (fun e => h.ne e.symm)⟩
theorem AccAt.setBud {W : World} {b m n : Nat} {a : Acc} (h : AccAt W b m n a) (s : Int) : AccAt (W.setCell ⟨b, 0, none⟩ (.int .i64 s)) b m n { a with bud := s } :=
  ⟨h.blk.set_ 0 (.int .i64 s), Chg.ownsMap h.own (Chg.set W ⟨b, 0, none⟩ (.int .i64 s)) (fun e => h.ne e.symm)⟩
def Acc.pay (a : Acc) (x v : Int) : Acc := { a.set x 0 with sp := a.sp + v }
def Acc.take (a : Acc) (v : Int) : Acc := { a with sp := a.sp + v }
def Acc.bring (a : Acc) (v : Int) : Acc := { a with bud := a.bud + v }
theorem add_wrap {x y : Int} (hx : coin x) (hy : coin y) : IntKind.i64.wrap (x + y) = x + y := by
  obtain ⟨h1, h2⟩ := hx
  obtain ⟨h3, h4⟩ := hy
  exact IntWalk.i64_in _ (by omega)

set_option maxRecDepth 100000 in
set_option maxHeartbeats 2000000 in
theorem take1_any {b m n g0 g1 : Nat} {a : Acc} {w : World} (h : AccAt w b m n a) (ho : coin a.sp) {v : Int} (hv : coin v) (h0 : Blk w g0 136 #[.pointer (some ⟨b, 0, none⟩)]) (h1 : Blk w g1 2 #[.int .i64 v]) :
    Calls Tryz.prog 166 #[.pointer (some ⟨g0, 0, none⟩), .pointer (some ⟨g1, 0, none⟩)] w fun e w' => e = .returned (.tuple #[]) ∧ AccAt w' b m n (a.take v) ∧ Chg (· = b) w w' := by
  have k3 : w.cell? ⟨g0, 0, none⟩ = some (.pointer (some ⟨b, 0, none⟩)) := h0.cell 0
  have k4 : w.cell? ⟨g1, 0, none⟩ = some (.int .i64 v) := h1.cell 0
  have hw := add_wrap ho hv
  obtain ⟨q, hq⟩ : ∃ z, z = a.sp := ⟨_, rfl⟩
  rw [← hq] at hw
  have HQ := Lib.hid hq
  have k5 : w.cell? ⟨b, 1, none⟩ = some (.int .i64 q) := by rw [hq]; exact h.blk.cell 1
  have k6 : w.drew.frozen? ⟨b, 1, none⟩ = false := h.blk.frozen 1
  have k7 : w.drew.cell? ⟨b, 1, none⟩ = some (.int .i64 q) := k5
  have l3 := h0.lt
  have l4 := h1.lt
  have l5 := h.blk.lt
  have HS := Lib.hid (h.setSp (q + v))
  have HCS := Lib.hid (show Chg (· = b) w (w.setCell ⟨b, 1, none⟩ (.int .i64 (q + v))).drew from (Chg.set w ⟨b, 1, none⟩ (.int .i64 (q + v))).grow (Below.refl _ _).drew)
  clear h ho hv h0 h1 hq
  go_enter Tryz.func166, Tryz.ntmps166
  try go_wp2_with fail
  refine wp_region_F (Below w.heap.size w) [8] (by kernel_rfl) ((Below.refl _ _).drew) (fun hS => ?_)
  have qq := Lib.hid fun (w' : World) (hSw : (Below w.heap.size w) w') => And.intro ((hSw.cell (p := ⟨g0, 0, none⟩) l3).trans k3) <| And.intro ((hSw.cell (p := ⟨g1, 0, none⟩) l4).trans k4) <| (hSw.cell (p := ⟨b, 1, none⟩) l5).trans k5
  refine tl 0 hS qq ?_
  refine tp 1 hS ?_
  refine tp 2 hS ?_
  refine tl 3 hS qq ?_
  refine tl 4 hS qq ?_
  refine tp 5 hS ?_
  refine stp 6 fun K hK => ?_
  go_simp
  refine hK.out _ _ ?_ (fun hS => ?_)
  · exact hS
  clear hK K
  try simp only [Act.put, pb, pz, ps]
  refine tp 7 hS ?_
  refine stf 8 fun K hK => ?_
  go_simp
  refine hK.out _ _ ?_
  clear hK K
  try simp only [Act.put, pb, pz, ps]
  refine wpAnyF_done (by kernel_rfl) ?_ _
  go_wp2_with fail
  go_end0
  exact ⟨rfl, by unfold Acc.take; rw [← HQ.out]; exact HS.out.grow (Below.refl _ _).drew, HCS.out⟩

theorem bring1_any {g : Nat} {v : Int} {w : World} (h : Blk w g 2 #[.int .i64 v]) : Calls Tryz.prog 138 #[.pointer (some ⟨g, 0, none⟩)] w fun e w' => e = .returned (.int .i64 v) ∧ w' = w := by
  have k0 : w.cell? ⟨g, 0, none⟩ = some (.int .i64 v) := h.cell 0
  clear h
  go_enter Tryz.func138, Tryz.ntmps138
  go_wp2_with fail
  go_ret
  exact ⟨rfl, rfl⟩

set_option maxRecDepth 100000 in
set_option maxHeartbeats 2000000 in
theorem bring2_any {b m n g0 g1 : Nat} {a : Acc} {w : World} (h : AccAt w b m n a) (ho : coin a.bud) {v : Int} (hv : coin v) (h0 : Blk w g0 136 #[.pointer (some ⟨b, 0, none⟩)]) (h1 : Blk w g1 2 #[.int .i64 v]) :
    Calls Tryz.prog 139 #[.pointer (some ⟨g0, 0, none⟩), .pointer (some ⟨g1, 0, none⟩)] w fun e w' => e = .returned (.tuple #[]) ∧ AccAt w' b m n (a.bring v) ∧ Chg (· = b) w w' := by
  have k3 : w.cell? ⟨g0, 0, none⟩ = some (.pointer (some ⟨b, 0, none⟩)) := h0.cell 0
  have k4 : w.cell? ⟨g1, 0, none⟩ = some (.int .i64 v) := h1.cell 0
  have hw := add_wrap ho hv
  obtain ⟨q, hq⟩ : ∃ z, z = a.bud := ⟨_, rfl⟩
  rw [← hq] at hw
  have HQ := Lib.hid hq
  have k5 : w.cell? ⟨b, 0, none⟩ = some (.int .i64 q) := by rw [hq]; exact h.blk.cell 0
  have k6 : w.drew.frozen? ⟨b, 0, none⟩ = false := h.blk.frozen 0
  have k7 : w.drew.cell? ⟨b, 0, none⟩ = some (.int .i64 q) := k5
  have l3 := h0.lt
  have l4 := h1.lt
  have l5 := h.blk.lt
  have HS := Lib.hid (h.setBud (q + v))
  have HCS := Lib.hid (show Chg (· = b) w (w.setCell ⟨b, 0, none⟩ (.int .i64 (q + v))).drew from (Chg.set w ⟨b, 0, none⟩ (.int .i64 (q + v))).grow (Below.refl _ _).drew)
  clear h ho hv h0 h1 hq
  go_enter Tryz.func139, Tryz.ntmps139
  try go_wp2_with fail
  refine wp_region_F (Below w.heap.size w) [8] (by kernel_rfl) ((Below.refl _ _).drew) (fun hS => ?_)
  have qq := Lib.hid fun (w' : World) (hSw : (Below w.heap.size w) w') => And.intro ((hSw.cell (p := ⟨g0, 0, none⟩) l3).trans k3) <| And.intro ((hSw.cell (p := ⟨g1, 0, none⟩) l4).trans k4) <| (hSw.cell (p := ⟨b, 0, none⟩) l5).trans k5
  refine tl 0 hS qq ?_
  refine tp 1 hS ?_
  refine tp 2 hS ?_
  refine tl 3 hS qq ?_
  refine tl 4 hS qq ?_
  refine tp 5 hS ?_
  refine stp 6 fun K hK => ?_
  go_simp
  refine hK.out _ _ ?_ (fun hS => ?_)
  · exact hS
  clear hK K
  try simp only [Act.put, pb, pz, ps]
  refine tp 7 hS ?_
  refine stf 8 fun K hK => ?_
  go_simp
  refine hK.out _ _ ?_
  clear hK K
  try simp only [Act.put, pb, pz, ps]
  refine wpAnyF_done (by kernel_rfl) ?_ _
  go_wp2_with fail
  go_end0
  exact ⟨rfl, by unfold Acc.bring; rw [← HQ.out]; exact HS.out.grow (Below.refl _ _).drew, HCS.out⟩
end Go.Proofs.YtckdpejdnejhfaaGreat.Ac

/- Account: Pay, Take at an account that is there. -/
namespace Go.Proofs.YtckdpejdnejhfaaGreat.Ac
open Go.RowKit Go.Shelf Go.Maps
open Go.Proofs.YtckdpejdnejhfaaGreat.Vb
attribute [local go_sem] Oper.semAt_some

def Acc.takeE (a : Acc) (v : Int) : Int := if ¬ coin v then 2 else if a.free < v then 8 else 0

set_option maxRecDepth 100000 in
set_option maxHeartbeats 2000000 in
theorem take_live {b m n : Nat} {a : Acc} {w : World} (h : AccAt w b m n a) (ho : a.Ok) {v : Int} :
    Calls Tryz.prog 149 #[.pointer (some ⟨b, 0, none⟩), .int .i64 v] w fun e w' =>
      (a.takeE v ≠ 0 ∧ e = .returned (.int .i64 (a.takeE v)) ∧ Below w.heap.size w w') ∨ (a.takeE v = 0 ∧ e = .returned (.int .i64 0) ∧ AccAt w' b m n (a.take v) ∧ Chg (· = b) w w') := by
  obtain ⟨U, hU⟩ : ∃ U, U = (w.alloc (.cells #[.pointer (some ⟨b, 0, none⟩)] 136)).alloc (.cells #[.int .i64 v] 2) := ⟨_, rfl⟩
  have hB : Below w.heap.size w U := by rw [hU]; exact ((Below.refl _ _).alloc (Nat.le_refl _) _).alloc (by simp) _
  have b0 : Blk U w.heap.size 136 #[.pointer (some ⟨b, 0, none⟩)] := by rw [hU]; exact (Blk.new w _ _).alloc _
  have b1 : Blk U (w.heap.size + 1) 2 #[.int .i64 v] := by rw [hU]; exact Blk.new' _ _ (by simp)
  have HU := Lib.hid hU
  have HB := Lib.hid hB
  have HA := Lib.hid (h.grow hB)
  have may := may_live HA.out true 164 166 #[.pointer (some ⟨b, 0, none⟩)] #[] #[.pointer (some ⟨w.heap.size, 0, none⟩), .pointer (some ⟨w.heap.size + 1, 0, none⟩)] v a.free
    (enters_of Tryz.func164 (by kernel_rfl) rfl) (enters_of Tryz.func166 (by kernel_rfl) rfl) (by rw [Array.append_empty]; exact free_any (f := .live a) ⟨b, m, n, rfl, HA.out⟩ ho)
    (fun W => AccAt W b m n (a.take v) ∧ Chg (· = b) w W) (fun _ hc _ W hW => (take1_any (HA.out.grow hW) ho.sp hc (b0.grow hW) (b1.grow hW)).mono fun e w' ⟨h1, h2, h3⟩ => ⟨h1, h2, ((Chg.of _ hB).grow hW).step h3 fun _ _ h => h⟩)
  have MAY := Lib.hid may
  obtain ⟨z, hz⟩ : ∃ z, z = a.takeE v := ⟨_, rfl⟩
  rw [← hz]
  have HZ := Lib.hid (hz.trans (show a.takeE v = if ¬ coin v then 2 else if a.free < v then 8 else 0 from rfl))
  clear h hU hB b0 b1 may hz
  go_enter Tryz.func149, Tryz.ntmps149
  go_wp2_with fail
  rw [← HU.out]
  refine MAY.out.mono ?_
  rintro e w5 (⟨hr, rfl, rfl⟩ | ⟨_, hc, hlt, rfl, hb⟩ | ⟨_, hc, hle, rfl, hq1, hq2⟩)
  · have HE := Lib.hid (HZ.out.trans (if_pos (hr.resolve_left (by simp))))
    clear hr
    go_wp2_with fail
    go_ret
    exact .inl ⟨by rw [HE.out]; decide, by rw [HE.out]; rfl, HB.out⟩
  · have HE := Lib.hid (HZ.out.trans ((if_neg (fun h => h hc)).trans (if_pos hlt)))
    have HBB := Lib.hid hb
    clear hc hlt hb
    go_wp2_with fail
    go_ret
    exact .inl ⟨by rw [HE.out]; decide, by rw [HE.out]; rfl, HB.out.trans (HBB.out.mono HB.out.size)⟩
  · have HE := Lib.hid (HZ.out.trans ((if_neg (fun h => h hc)).trans (if_neg (by omega))))
    have HQ1 := Lib.hid hq1
    have HQ2 := Lib.hid hq2
    clear hc hle hq1 hq2
    go_wp2_with fail
    go_ret
    exact .inr ⟨HE.out, rfl, HQ1.out, HQ2.out⟩
end Go.Proofs.YtckdpejdnejhfaaGreat.Ac

/- Account: lists of what is held, as Of is handed them. -/
namespace Go.Proofs.YtckdpejdnejhfaaGreat.Ac
open Go.RowKit Go.Shelf Go.Maps
open Go.Proofs.YtckdpejdnejhfaaGreat.Vb
attribute [local go_sem] Oper.semAt_some

abbrev int64b (x : Int) : Prop := -9223372036854775808 ≤ x ∧ x ≤ 9223372036854775807
def hcells (l : HM) : List Value := l.flatMap fun p => [.int .i64 p.1, .int .i64 p.2]
theorem hcells_fst : ∀ (l : HM) (k : Nat) (o : Int × Int), l[k]? = some o → (hcells l)[k * 2]? = some (.int .i64 o.1)
  | [], k, o, h => by simp at h
  | x :: l, 0, o, h => by simp at h; subst h; rfl
  | x :: l, k + 1, o, h => by
    have := hcells_fst l k o (by simpa using h)
    simp only [hcells, List.flatMap_cons] at *
    rw [show (k + 1) * 2 = k * 2 + 2 from by omega]
    simpa using this
theorem hcells_snd : ∀ (l : HM) (k : Nat) (o : Int × Int), l[k]? = some o → (hcells l)[k * 2 + 1]? = some (.int .i64 o.2)
  | [], k, o, h => by simp at h
  | x :: l, 0, o, h => by simp at h; subst h; rfl
  | x :: l, k + 1, o, h => by
    have := hcells_snd l k o (by simpa using h)
    simp only [hcells, List.flatMap_cons] at *
    rw [show (k + 1) * 2 + 1 = k * 2 + 1 + 2 from by omega]
    simpa using this
/-- the slice v reads as the list l of what is held -/
def Helds (w : World) (R : Nat → Prop) (v : Value) (l : HM) : Prop := Sl w R v l.length 2 (hcells l) ∧ ∀ p ∈ l, int64b p.1 ∧ int64b p.2
theorem Helds.grow {w w' : World} {R : Nat → Prop} {v : Value} {l : HM} (h : Helds w R v l) (hb : Below w.heap.size w w') : Helds w' R v l := ⟨h.1.grow hb, h.2⟩
theorem Helds.nil (w : World) (R : Nat → Prop) : Helds w R (.slice none 0 0) [] := ⟨⟨rfl, none, 0, rfl, Nat.le_refl _, Nat.zero_le _, fun h => absurd h (by decide)⟩, fun p hp => by cases hp⟩

theorem Helds.at_ {w : World} {R : Nat → Prop} {A : Option Addr} {n c k : Nat} {l : HM} {o : Int × Int} (h : Helds w R (.slice A n c) l) (hk : l[k]? = some o) :
    ∃ b off, A = some ⟨b, off, none⟩ ∧ b < w.heap.size ∧ w.cell? ⟨b, off + k * 2, none⟩ = some (.int .i64 o.1) ∧ w.cell? ⟨b, off + k * 2 + 1, none⟩ = some (.int .i64 o.2) := by
  obtain ⟨⟨_, A', c', hv, _, _, hcs⟩, _⟩ := h
  injection hv with hA _ _
  subst hA
  have hlt := (List.getElem?_eq_some_iff.1 hk).1
  obtain ⟨b, off, hA, _, hlt2, hcc⟩ := hcs (by omega)
  exact ⟨b, off, hA, hlt2, hcc _ _ (hcells_fst l k o hk), hcc _ _ (hcells_snd l k o hk)⟩

/-- may such a list be handed in? -/
def okL : Int → HM → Bool
  | _, [] => true
  | last, p :: r => (decide (last < p.1) && decide (1 ≤ p.2) && decide (coin p.2)) && okL p.1 r
def ofE (bud sp : Int) (l : HM) : Int := if ¬ coin bud ∨ ¬ coin sp ∨ okL (-1) l = false then 2 else if bud - sp < sumM l then 8 else 0
theorem okL_head {last : Int} {p : Int × Int} {r : HM} : okL last (p :: r) = true ↔ last < p.1 ∧ 1 ≤ p.2 ∧ coin p.2 ∧ okL p.1 r = true := by
  simp [okL, and_assoc]
theorem okL_all : ∀ {last : Int} {l : HM}, okL last l = true → Rising l ∧ ∀ p ∈ l, last < p.1 ∧ 1 ≤ p.2 ∧ coin p.2
  | last, [], _ => ⟨List.Pairwise.nil, fun p hp => by cases hp⟩
  | last, x :: r, h => by
    obtain ⟨h1, h2, h3, h4⟩ := okL_head.1 h
    obtain ⟨i1, i2⟩ := okL_all h4
    refine ⟨List.pairwise_cons.2 ⟨fun p hp => (i2 p hp).1, i1⟩, fun p hp => ?_⟩
    rcases List.mem_cons.1 hp with rfl | hp
    · exact ⟨h1, h2, h3⟩
    · have := i2 p hp
      exact ⟨by omega, this.2⟩
/-- the lot ahead of number k -/
def lastL (l : HM) (k : Nat) : Int := if k = 0 then -1 else match l[k - 1]? with | some p => p.1 | none => -1
theorem okL_step {l : HM} {k : Nat} {p : Int × Int} (h : l[k]? = some p) : okL (lastL l k) (l.drop k) = (decide (lastL l k < p.1) && decide (1 ≤ p.2) && decide (coin p.2) && okL (lastL l (k + 1)) (l.drop (k + 1))) := by
  rw [drop_at h]
  have : lastL l (k + 1) = p.1 := by simp [lastL, h]
  rw [this]
  rfl
theorem lastL_succ {l : HM} {k : Nat} {p : Int × Int} (h : l[k]? = some p) : lastL l (k + 1) = p.1 := by simp [lastL, h]
theorem ins_last : ∀ {M : HM} {p : Int × Int}, (∀ q ∈ M, q.1 < p.1) → insM p M = M ++ [p]
  | [], p, _ => rfl
  | y :: r, p, h => by
    have h1 := h y (by simp)
    have : ¬ p.1 < y.1 := by omega
    simp only [insM, if_neg this, List.cons_append]
    rw [ins_last fun q hq => h q (by simp [hq])]
theorem put_take {l : HM} (hr : Rising l) {k : Nat} {p : Int × Int} (h : l[k]? = some p) : putM (l.take k) p.1 p.2 = l.take (k + 1) := by
  have hlt : ∀ q ∈ l.take k, q.1 < p.1 := by
    intro q hq
    obtain ⟨i, hi, rfl⟩ := List.getElem_of_mem hq
    simp only [List.length_take] at hi
    have hk := (List.getElem?_eq_some_iff.1 h)
    have := List.pairwise_iff_getElem.1 hr i k (by omega) hk.1 (by omega)
    rw [hk.2] at this
    simpa using this
  unfold putM
  rw [del_none fun q hq => by have := hlt q hq; omega, ins_last hlt, List.take_add_one, h]
  rfl
theorem take_snoc {l : HM} {k : Nat} {p : Int × Int} (h : l[k]? = some p) : l.take (k + 1) = l.take k ++ [p] := by
  rw [List.take_add_one, h]; rfl
theorem sum_take {l : HM} {k : Nat} {p : Int × Int} (h : l[k]? = some p) : sumM (l.take (k + 1)) = sumM (l.take k) + p.2 := by
  rw [take_snoc h, sumM_snoc]
theorem sum_take_le {l : HM} (h : ∀ p ∈ l, 0 ≤ p.2) (k : Nat) : 0 ≤ sumM (l.take k) ∧ sumM (l.take k) ≤ sumM l := by
  have e := congrArg sumM (List.take_append_drop k l)
  rw [sumM_append] at e
  have h1 : 0 ≤ sumM (l.drop k) := sumM_nonneg fun p hp => h p (List.mem_of_mem_drop hp)
  have h2 : 0 ≤ sumM (l.take k) := sumM_nonneg fun p hp => h p (List.mem_of_mem_take hp)
  omega
theorem ofE_arg {bud sp : Int} {l : HM} (h : ¬ coin bud ∨ ¬ coin sp ∨ okL (-1) l = false) : ofE bud sp l = 2 := if_pos h
theorem ofE_big {bud sp : Int} {l : HM} (h1 : coin bud) (h2 : coin sp) (h3 : okL (-1) l = true) (h : bud - sp < sumM l) : ofE bud sp l = 8 := by
  unfold ofE
  rw [if_neg (by rintro (h | h | h); exact h h1; exact h h2; rw [h3] at h; cases h), if_pos h]
theorem ofE_ok {bud sp : Int} {l : HM} (h1 : coin bud) (h2 : coin sp) (h3 : okL (-1) l = true) (h : sumM l ≤ bud - sp) : ofE bud sp l = 0 := by
  unfold ofE
  rw [if_neg (by rintro (h | h | h); exact h h1; exact h h2; rw [h3] at h; cases h), if_neg (by omega)]
end Go.Proofs.YtckdpejdnejhfaaGreat.Ac

/- Account: Of. -/
namespace Go.Proofs.YtckdpejdnejhfaaGreat.Ac
open Go.RowKit Go.Shelf Go.Maps
open Go.Proofs.YtckdpejdnejhfaaGreat.Vb
attribute [local go_sem] Oper.semAt_some

set_option maxRecDepth 100000 in
set_option maxHeartbeats 4000000 in
theorem of_any {bud sp : Int} {l : HM} {v : Value} {R : Nat → Prop} {w : World} (h : Helds w R v l) :
    Calls Tryz.prog 135 #[.int .i64 bud, .int .i64 sp, v] w fun e w' => Below w.heap.size w w' ∧
      ((ofE bud sp l ≠ 0 ∧ e = .returned (.tuple #[.pointer none, .int .i64 (ofE bud sp l)])) ∨
       (ofE bud sp l = 0 ∧ e = .returned (.tuple #[.pointer (some ⟨w.heap.size + 1, 0, none⟩), .int .i64 0]) ∧ AccAt w' (w.heap.size + 1) w.heap.size l.length ⟨bud, sp, l⟩)) := by
  have HL := Lib.hid h
  have HWF := Lib.hid h.2
  obtain ⟨⟨_, A, cap, rfl, hncap, hcap, _⟩, _⟩ := h
  unfold maxLen at hcap
  have hmm := @run_makeMap Tryz.prog
  by_cases c1 : coin bud
  · by_cases c2 : coin sp
    · have HC1 := Lib.hid c1
      have HC2 := Lib.hid c2
      have HD1 := Lib.hid (decide_eq_true c1)
      have HD2 := Lib.hid (decide_eq_true c2)
      clear c1 c2
      go_enter Tryz.func135, Tryz.ntmps135
      go_wp2_with fail
      refine (coins_any bud w).mono ?_
      rintro e w1 ⟨rfl, rfl⟩
      rw [HD1.out]
      go_wp2_with fail
      refine (coins_any sp w1).mono ?_
      rintro e w2 ⟨rfl, rfl⟩
      rw [HD2.out]
      go_wp2_with fail
      obtain ⟨U, hU⟩ : ∃ U, U = (w2.alloc (.map #[] 0)).alloc (.cells #[.int .i64 bud, .int .i64 sp, .map (some w2.heap.size)] 185) := ⟨_, rfl⟩
      have hB : Below w2.heap.size w2 U := by rw [hU]; exact ((Below.refl _ _).alloc (Nat.le_refl _) _).alloc (by simp) _
      have hA : AccAt U (w2.heap.size + 1) w2.heap.size 0 ⟨bud, sp, []⟩ := by
        rw [hU]
        exact ⟨Blk.new' _ _ (by simp), (World.ownsMap_made w2 _ _ _).alloc _⟩
      rw [← hU]
      have hs0 : U.heap.size = w2.heap.size + 2 := by rw [hU]; simp
      have HB := Lib.hid hB
      have HA := Lib.hid hA
      clear hU hB hA hmm
      go_loopw [9, 29] (fun s i wr => ∃ k : Nat, k ≤ l.length ∧ i = .int .i64 k ∧ s = .int .i64 (lastL l k) ∧ okL (-1) l = okL (lastL l k) (l.drop k) ∧ Below U.heap.size U wr) (fun _ i _ => l.length - (intOf i).toNat)
      case atStart => exact ⟨0, Nat.zero_le _, rfl, rfl, rfl, Below.refl _ _⟩
      case round =>
        obtain ⟨k, hk, rfl, rfl, hok, hb⟩ := hrel
        by_cases hlt : k < l.length
        · obtain ⟨o, ho⟩ : ∃ o, l[k]? = some o := ⟨_, List.getElem?_eq_getElem hlt⟩
          have hbw := HB.out.trans (hb.mono HB.out.size)
          obtain ⟨bq, off, rfl, hbq, q0, q1⟩ := (HL.out.grow hbw).at_ ho
          have hst := okL_step ho
          have hsl := lastL_succ ho
          have hob := HWF.out o (List.mem_of_getElem? ho)
          obtain ⟨⟨ob1, ob2⟩, ob3, ob4⟩ := hob
          obtain ⟨ol, oc⟩ := o
          simp only at q0 q1 hst hsl ob1 ob2 ob3 ob4
          obtain ⟨la, hla⟩ : ∃ z, z = lastL l k := ⟨_, rfl⟩
          rw [← hla] at hok hst ⊢
          have HOK := Lib.hid hok
          have HST := Lib.hid hst
          have HSL := Lib.hid hsl
          have HBB := Lib.hid hb
          have HBW := Lib.hid hbw
          have hsz := hb.size
          clear hok hst hsl hb hbw hla ho
          by_cases t1 : ol ≤ la
          · have HE := Lib.hid (ofE_arg (bud := bud) (sp := sp) (.inr (.inr (HOK.out.trans (HST.out.trans (by simp; omega))))))
            go_wp2_with fail
            refine bodyPost_ret (v := .tuple #[.pointer none, .int .i64 2]) (by simp [results, Tryz.results135, go_sem]) rfl ⟨HBW.out.alloc (by have := HBW.out.size; omega) _, .inl ⟨by rw [HE.out]; decide, by rw [HE.out]⟩⟩
          · by_cases t2 : oc < 1
            · have HE := Lib.hid (ofE_arg (bud := bud) (sp := sp) (.inr (.inr (HOK.out.trans (HST.out.trans (by simp; omega))))))
              go_wp2_with fail
              refine bodyPost_ret (v := .tuple #[.pointer none, .int .i64 2]) (by simp [results, Tryz.results135, go_sem]) rfl ⟨HBW.out.alloc (by have := HBW.out.size; omega) _, .inl ⟨by rw [HE.out]; decide, by rw [HE.out]⟩⟩
            · by_cases t3 : coin oc
              · have HD := Lib.hid (decide_eq_true t3)
                have HOK2 := Lib.hid (show okL (-1) l = okL (lastL l (k + 1)) (l.drop (k + 1)) from HOK.out.trans (HST.out.trans (by simp [t3]; omega)))
                clear t3
                go_wp2_with fail
                refine (coins_any oc _).mono ?_
                rintro e w5 ⟨rfl, rfl⟩
                rw [HD.out]
                go_wp2_with fail
                go_roundw
                case rel => exact ⟨k + 1, by omega, by go_num, by rw [HSL.out], HOK2.out, HBB.out.alloc (by omega) _⟩
                case measure => simp [intOf]; omega
              · have HD := Lib.hid (decide_eq_false t3)
                have HE := Lib.hid (ofE_arg (bud := bud) (sp := sp) (.inr (.inr (HOK.out.trans (HST.out.trans (by simp [t3]))))))
                clear t3
                go_wp2_with fail
                refine (coins_any oc _).mono ?_
                rintro e w5 ⟨rfl, rfl⟩
                rw [HD.out]
                go_wp2_with fail
                refine bodyPost_ret (v := .tuple #[.pointer none, .int .i64 2]) (by simp [results, Tryz.results135, go_sem]) rfl ⟨HBW.out.alloc (by have := HBW.out.size; omega) _, .inl ⟨by rw [HE.out]; decide, by rw [HE.out]⟩⟩
        · obtain rfl : k = l.length := by omega
          rw [List.drop_length] at hok
          have HOK := Lib.hid (show okL (-1) l = true from hok)
          have HBW := Lib.hid (HB.out.trans (hb.mono HB.out.size))
          have HAC := Lib.hid (HA.out.grow hb)
          have hsz := hb.size
          have hr := (okL_all HOK.out).1
          have hea := (okL_all HOK.out).2
          have HR := Lib.hid hr
          have HEA := Lib.hid hea
          clear hok hb hr hea HA HB
          obtain ⟨wq, hwq⟩ : ∃ wq : World, wq = wr := ⟨_, rfl⟩
          rw [← hwq] at HBW HAC hsz ⊢
          clear hwq
          go_wp2_with fail
          go_loopw [53] (fun i wr => ∃ k : Nat, k ≤ l.length ∧ i = .int .i64 k ∧ AccAt wr (w2.heap.size + 1) w2.heap.size k ⟨bud, sp, l.take k⟩ ∧ (k = 0 ∨ sumM (l.take k) ≤ bud - sp) ∧ Below w2.heap.size w2 wr) (fun i _ => l.length - (intOf i).toNat)
          case atStart => exact ⟨0, Nat.zero_le _, rfl, HAC.out, .inl rfl, HBW.out⟩
          case round =>
            obtain ⟨k, hk, rfl, hac, hsm, hb⟩ := hrel
            have htl := sum_take_le (l := l) (fun p hp => (HEA.out p hp).2.2.1) k
            have hok : (Fm.live ⟨bud, sp, l.take k⟩).Ok := by
              refine ⟨HC1.out, HC2.out, HR.out.sublist (List.take_sublist _ _), fun p hp => ?_, ?_⟩
              · have h1 := HEA.out p (List.mem_of_mem_take hp)
                exact ⟨by omega, (HWF.out p (List.mem_of_mem_take hp)).1.2, h1.2.1⟩
              · rcases hsm with rfl | h
                · simp [sumM]
                · have := HC1.out.2
                  have := HC2.out.1
                  show sumM (l.take k) ≤ _
                  omega
            by_cases hlt : k < l.length
            · obtain ⟨o, ho⟩ : ∃ o, l[k]? = some o := ⟨_, List.getElem?_eq_getElem hlt⟩
              obtain ⟨bq, off, rfl, hbq, q0, q1⟩ := (HL.out.grow hb).at_ ho
              have hpt := put_take HR.out ho
              have hst := sum_take ho
              have hle := (sum_take_le (l := l) (fun p hp => (HEA.out p hp).2.2.1) (k + 1)).2
              obtain ⟨⟨ob1, ob2⟩, ob3, ob4⟩ := HWF.out o (List.mem_of_getElem? ho)
              obtain ⟨ol, oc⟩ := o
              simp only at q0 q1 hpt hst ob1 ob2 ob3 ob4
              have HPT := Lib.hid hpt
              have HST := Lib.hid hst
              have HLE := Lib.hid hle
              have HA2 := Lib.hid hac
              have HOK2 := Lib.hid hok
              have HB2 := Lib.hid hb
              have HSM := Lib.hid hsm
              clear hpt hst hle hac hok hb hsm htl ho
              go_wp2_with fail
              obtain ⟨V, hV⟩ : ∃ V, V = wr.alloc (.cells #[.int .i64 ol, .int .i64 oc] 272) := ⟨_, rfl⟩
              have hx : Blk V wr.heap.size 272 #[.int .i64 ol, .int .i64 oc] := by rw [hV]; exact Blk.new wr _ _
              have hBV : Below wr.heap.size wr V := by rw [hV]; exact (Below.refl _ _).alloc (Nat.le_refl _) _
              rw [← hV]
              clear hV
              have HX := Lib.hid hx
              have HBV := Lib.hid (HB2.out.trans (hBV.mono HB2.out.size))
              have HAV := Lib.hid (HA2.out.grow hBV)
              have x0 : V.cell? ⟨wr.heap.size, 0, none⟩ = some (.int .i64 ol) := hx.cell 0
              have x1 : V.cell? ⟨wr.heap.size, 1, none⟩ = some (.int .i64 oc) := hx.cell 1
              have lx := hx.lt
              obtain ⟨fr, hfr⟩ : ∃ z, z = (Fm.live ⟨bud, sp, l.take k⟩).free := ⟨_, rfl⟩
              have hfr2 : fr = bud - sp - sumM (l.take k) := hfr
              have HFR := Lib.hid hfr
              have HFR2 := Lib.hid hfr2
              clear hx hBV hfr hfr2 q0 q1
              refine wp_region_F (Below V.heap.size V) [] (by kernel_rfl) ((Below.refl _ _).drew) (fun hS => ?_)
              refine tp 0 hS ?_
              have qq := Lib.hid fun (w' : World) (hSw : (Below V.heap.size V) w') => (hSw.cell (p := ⟨wr.heap.size, 1, none⟩) lx).trans x1
              refine tl 1 hS qq ?_
              refine tp 2 hS ?_
              refine stp 3 fun K hK => ?_
              go_simp
              refine (free_any (f := .live ⟨bud, sp, l.take k⟩) (w := V.drew) ⟨_, _, _, rfl, HAV.out.grow (Below.refl _ _).drew⟩ HOK2.out).mono ?_
              rintro e w7 ⟨rfl, hb7⟩
              rw [← HFR.out]
              refine hK.out _ _ ?_ (fun hS => ?_)
              · exact (Below.refl V.heap.size V).drew.trans (hb7.mono (by simp))
              clear hK K
              try simp only [Act.put, pb, pz, ps]
              have HB7 := Lib.hid ((Below.refl V.heap.size V).drew.trans (hb7.mono (by simp)))
              clear hb7
              refine tp 4 hS ?_
              refine wpAnyF_done (by kernel_rfl) ?_ _
              by_cases hgt : fr < oc
              · have HE := Lib.hid (ofE_big HC1.out HC2.out HOK.out (by have := HFR2.out; have := HST.out; have := HLE.out; omega))
                go_wp2_with fail
                refine bodyPost_ret (v := .tuple #[.pointer none, .int .i64 8]) (by simp [results, Tryz.results135, go_sem]) rfl ⟨HBV.out.trans (HB7.out.mono HBV.out.size), .inl ⟨by rw [HE.out]; decide, by rw [HE.out]⟩⟩
              · have HLEF := Lib.hid (show oc ≤ fr by omega)
                have y0 : w7.cell? ⟨wr.heap.size, 0, none⟩ = some (.int .i64 ol) := (HB7.out.cell (p := ⟨wr.heap.size, 0, none⟩) lx).trans x0
                have y1 : w7.cell? ⟨wr.heap.size, 1, none⟩ = some (.int .i64 oc) := (HB7.out.cell (p := ⟨wr.heap.size, 1, none⟩) lx).trans x1
                have hA7 := HAV.out.grow HB7.out
                have y2 : w7.cell? ⟨w2.heap.size + 1, 2, none⟩ = some (.map (some w2.heap.size)) := hA7.blk.cell 2
                have lx7 := HB7.out.size
                have la7 := hA7.blk.lt
                obtain ⟨W8, hrun, hA8, hC8⟩ := (hA7.grow (Below.refl w7.heap.size w7).drew).put (by unfold maxLen; omega) (x := ol) (v := oc) ⟨ob1, ob2⟩ ⟨ob3, ob4⟩
                have hb8 : Below w2.heap.size w2 W8 := (HBV.out.trans (HB7.out.mono HBV.out.size)).trans (((Below.refl w7.heap.size w7).drew.mono (by have := HBV.out.size; have := HB7.out.size; omega)).trans (hC8.below (by have := HBV.out.size; have := HB7.out.size; simp; omega) (fun k hk e => by omega)))
                have HA8 := Lib.hid hA8
                have HB8 := Lib.hid hb8
                clear hA7 hA8 hC8 hb8
                go_wp2_with fail
                refine wp_region_F (Below w7.heap.size w7) [8] (by kernel_rfl) ((Below.refl _ _).drew) (fun hS => ?_)
                refine tp 0 hS ?_
                refine tp 1 hS ?_
                refine tp 2 hS ?_
                have qq := Lib.hid fun (w' : World) (hSw : (Below w7.heap.size w7) w') => And.intro ((hSw.cell (p := ⟨wr.heap.size, 0, none⟩) (by simp; omega)).trans y0) <| And.intro ((hSw.cell (p := ⟨wr.heap.size, 1, none⟩) (by simp; omega)).trans y1) <| (hSw.cell (p := ⟨w2.heap.size + 1, 2, none⟩) la7).trans y2
                refine tl 3 hS qq ?_
                refine tp 4 hS ?_
                refine tl 5 hS qq ?_
                refine tp 6 hS ?_
                refine tl 7 hS qq ?_
                refine stf 8 fun K hK => ?_
                go_simp
                refine hK.out _ _ ?_
                clear hK K
                try simp only [Act.put, pb, pz, ps]
                refine wpAnyF_done (by kernel_rfl) ?_ _
                go_wp2_with fail
                go_roundw
                case rel =>
                  refine ⟨k + 1, by omega, by go_num, ?_, .inr (by have := HFR2.out; have := HST.out; have := HLEF.out; omega), HB8.out⟩
                  have := HA8.out
                  simp only [HPT.out] at this
                  exact this
                case measure => simp [intOf]; omega
            · obtain rfl : k = l.length := by omega
              rw [List.take_length] at hac hok hsm
              obtain ⟨fr, hfr⟩ : ∃ z, z = (Fm.live ⟨bud, sp, l⟩).free := ⟨_, rfl⟩
              have hfr2 : fr = bud - sp - sumM l := hfr
              have HFR := Lib.hid hfr
              have HFR2 := Lib.hid hfr2
              have HA2 := Lib.hid hac
              have HOK2 := Lib.hid hok
              have HB2 := Lib.hid hb
              clear hac hok hb hsm htl hfr hfr2
              go_wp2_with fail
              refine (free_any (f := .live ⟨bud, sp, l⟩) ⟨_, _, _, rfl, HA2.out⟩ HOK2.out).mono ?_
              rintro e w7 ⟨rfl, hb7⟩
              rw [← HFR.out]
              have HB7 := Lib.hid (HB2.out.trans (hb7.mono HB2.out.size))
              have HA7 := Lib.hid (HA2.out.grow hb7)
              clear hb7
              by_cases hlt0 : fr < 0
              · have HE := Lib.hid (ofE_big HC1.out HC2.out HOK.out (by have := HFR2.out; omega))
                go_wp2_with fail
                refine bodyPost_ret (v := .tuple #[.pointer none, .int .i64 8]) (by simp [results, Tryz.results135, go_sem]) rfl ⟨HB7.out, .inl ⟨by rw [HE.out]; decide, by rw [HE.out]⟩⟩
              · have HE := Lib.hid (ofE_ok HC1.out HC2.out HOK.out (by have := HFR2.out; omega))
                go_wp2_with fail
                refine bodyPost_ret (v := .tuple #[.pointer (some ⟨w2.heap.size + 1, 0, none⟩), .int .i64 0]) (by simp [results, Tryz.results135, go_sem]) rfl ⟨HB7.out, .inr ⟨HE.out, rfl, HA7.out⟩⟩
    · have HD1 := Lib.hid (decide_eq_true c1)
      have HD2 := Lib.hid (decide_eq_false c2)
      have HE := Lib.hid (ofE_arg (bud := bud) (sp := sp) (l := l) (.inr (.inl c2)))
      clear c1 c2
      go_enter Tryz.func135, Tryz.ntmps135
      go_wp2_with fail
      refine (coins_any bud w).mono ?_
      rintro e w1 ⟨rfl, rfl⟩
      rw [HD1.out]
      go_wp2_with fail
      refine (coins_any sp w1).mono ?_
      rintro e w2 ⟨rfl, rfl⟩
      rw [HD2.out]
      go_wp2_with fail
      refine bodyPost_ret (v := .tuple #[.pointer none, .int .i64 2]) (by simp [results, Tryz.results135, go_sem]) rfl ⟨Below.refl _ _, .inl ⟨by rw [HE.out]; decide, by rw [HE.out]⟩⟩
  · have HD1 := Lib.hid (decide_eq_false c1)
    have HE := Lib.hid (ofE_arg (bud := bud) (sp := sp) (l := l) (.inl c1))
    clear c1
    go_enter Tryz.func135, Tryz.ntmps135
    go_wp2_with fail
    refine (coins_any bud w).mono ?_
    rintro e w1 ⟨rfl, rfl⟩
    rw [HD1.out]
    go_wp2_with fail
    refine bodyPost_ret (v := .tuple #[.pointer none, .int .i64 2]) (by simp [results, Tryz.results135, go_sem]) rfl ⟨Below.refl _ _, .inl ⟨by rw [HE.out]; decide, by rw [HE.out]⟩⟩
end Go.Proofs.YtckdpejdnejhfaaGreat.Ac

/- Account: New, Copy, Same. -/
namespace Go.Proofs.YtckdpejdnejhfaaGreat.Ac
open Go.RowKit Go.Shelf Go.Maps
open Go.Proofs.YtckdpejdnejhfaaGreat.Vb
attribute [local go_sem] Oper.semAt_some

def newE (bud : Int) : Int := if coin bud then 0 else 2
theorem ofE_new (bud : Int) : ofE bud 0 [] = newE bud := by
  unfold newE
  by_cases h : coin bud
  · rw [if_pos h, ofE_ok h (by decide) rfl (by have := h.1; simp [sumM]; omega)]
  · rw [if_neg h, ofE_arg (.inl h)]
def newA (bud : Int) : Acc := ⟨bud, 0, []⟩

set_option maxHeartbeats 1000000 in
theorem new_any (bud : Int) (w : World) :
    Calls Tryz.prog 115 #[.int .i64 bud] w fun e w' => Below w.heap.size w w' ∧
      ((¬ coin bud ∧ e = .returned (.tuple #[.pointer none, .int .i64 2])) ∨
       (coin bud ∧ e = .returned (.tuple #[.pointer (some ⟨w.heap.size + 1, 0, none⟩), .int .i64 0]) ∧ AccAt w' (w.heap.size + 1) w.heap.size 0 (newA bud))) := by
  have HE := Lib.hid (ofE_new bud)
  go_enter Tryz.func115, Tryz.ntmps115
  go_wp2_with fail
  refine (of_any (bud := bud) (sp := 0) (Helds.nil w (fun _ => True))).mono ?_
  rintro e w1 ⟨hb, (⟨h1, rfl⟩ | ⟨h1, rfl, hA⟩)⟩
  · have HB := Lib.hid hb
    have h2 : ¬ coin bud ∧ ofE bud 0 [] = 2 := by
      rw [HE.out] at h1 ⊢
      unfold newE at h1 ⊢
      by_cases h : coin bud
      · rw [if_pos h] at h1; exact absurd rfl h1
      · exact ⟨h, if_neg h⟩
    rw [h2.2]
    have H2 := Lib.hid h2.1
    clear hb h1 h2
    go_wp2_with fail
    refine bodyPost_ret (v := .tuple #[.pointer none, .int .i64 2]) (by simp [results, Tryz.results115, go_sem]) rfl ⟨HB.out, .inl ⟨H2.out, rfl⟩⟩
  · have HB := Lib.hid hb
    have HA := Lib.hid hA
    have H2 := Lib.hid (show coin bud from by
      rw [HE.out] at h1
      unfold newE at h1
      by_cases h : coin bud
      · exact h
      · rw [if_neg h] at h1; omega)
    clear hb h1 hA
    go_wp2_with fail
    refine bodyPost_ret (v := .tuple #[.pointer (some ⟨w.heap.size + 1, 0, none⟩), .int .i64 0]) (by simp [results, Tryz.results115, go_sem]) rfl ⟨HB.out, .inr ⟨H2.out, rfl, HA.out⟩⟩

end Go.Proofs.YtckdpejdnejhfaaGreat.Ac

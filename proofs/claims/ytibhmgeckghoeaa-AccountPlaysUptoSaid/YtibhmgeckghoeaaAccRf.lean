/- Account: place, tells, does. (Printed by tools/gen_does.py.) -/
import Derived.Test.YtibhmgeckghoeaaAccRe
import Derived.Test.YtibhmgeckghoeaaAccDe
import Derived.Test.YtibhmgeckghoeaaAccGo
namespace Go.Proofs.Ytibhmgeckghoeaa.Ac
open Go.RowKit Go.Shelf Go.Maps
open Go.Proofs.Ytibhmgeckghoeaa.Vb
attribute [local go_sem] Oper.semAt_some

/-- the program's account and the document's, which stand alike (or are both not there) -/
def PairAt (W : World) (tv rv : Value) (b m g n : Nat) : Fm → Prop
  | .nil => tv = .pointer none ∧ rv = .pointer none
  | .zero => False
  | .live a => tv = .pointer (some ⟨b, 0, none⟩) ∧ rv = .pointer (some ⟨g, 0, none⟩) ∧ AccAt W b m n a ∧ RefAt W g a ∧ a.Ok ∧ a.Fine
section
variable {W W' : World} {tv rv : Value} {b m g n : Nat} {f : Fm} {a : Acc}
theorem ne_ref (h : AccAt W b m n a) {c : Acc} (h2 : RefAt W g c) : g ≠ b ∧ g ≠ m := by
  obtain ⟨sl, h2, _⟩ := h2
  refine ⟨?_, ?_⟩
  · rintro rfl
    have h1 := h.blk
    unfold Blk at h1 h2
    rw [h2] at h1
    injection h1 with h1
    injection h1 with _ h1
    exact absurd h1 (by decide)
  · exact blk_ne_map h2 h.own
theorem PairAt.at_ (h : PairAt W tv rv b m g n f) : AtP W tv f := by
  cases f with
  | nil => exact h.1
  | zero => exact h.elim
  | live a => exact ⟨b, m, n, h.1, h.2.2.1⟩
theorem PairAt.ok (h : PairAt W tv rv b m g n f) : f.Ok := by
  cases f with
  | nil => trivial
  | zero => exact h.elim
  | live a => exact h.2.2.2.2.1
theorem PairAt.grow (h : PairAt W tv rv b m g n f) (hb : Below W.heap.size W W') : PairAt W' tv rv b m g n f := by
  cases f with
  | nil => exact h
  | zero => exact h.elim
  | live a => obtain ⟨h1, h2, h3, h4, h5⟩ := h; exact ⟨h1, h2, h3.grow hb, h4.grow hb, h5⟩
theorem PairAt.mono (h : PairAt W tv rv b m g n f) {n' : Nat} (hn : n ≤ n') : PairAt W tv rv b m g n' f := by
  cases f with
  | nil => exact h
  | zero => exact h.elim
  | live a => obtain ⟨h1, h2, h3, h4, h5⟩ := h; exact ⟨h1, h2, h3.mono hn, h4, h5⟩
theorem PairAt.chg {X : Nat → Prop} (h : PairAt W tv rv b m g n f) (hc : Chg X W W') (hb : f.there = true → ¬ X b ∧ ¬ X m ∧ ¬ X g) (hx : ∀ k, X k → ¬ HTag W k) : PairAt W' tv rv b m g n f := by
  cases f with
  | nil => exact h
  | zero => exact h.elim
  | live a => obtain ⟨h1, h2, h3, h4, h5⟩ := h; obtain ⟨q1, q2, q3⟩ := hb rfl; exact ⟨h1, h2, h3.chg hc q1 q2, h4.chg hc q3 hx, h5⟩
theorem PairAt.wants (h : PairAt W tv rv b m g n f) : Wants W rv f.M := by
  cases f with
  | nil => exact .inl ⟨h.2, rfl⟩
  | zero => exact h.elim
  | live a =>
    obtain ⟨_, h2, _, ⟨sl, h4, h5⟩, h6, _⟩ := h
    exact .inr ⟨g, a.bud, a.sp, sl, h2, h4, h5.helds (held_b h6)⟩
theorem RefAt.after {X : Nat → Prop} {c : Acc} (h : RefAt W g c) (h2 : AccAt W b m n a) (hc : Chg (fun k => k = m ∨ k = b) W W') : RefAt W' g c :=
  h.chg hc (by rintro (e | e); exact (ne_ref h2 h).2 e; exact (ne_ref h2 h).1 e) (by rintro k (rfl | rfl); exact map_notag h2.own; exact h2.blk.notag (by decide))
theorem AccAt.after {c : Acc} (h : AccAt W b m n a) (h2 : RefAt W g c) (hc : Chg (· = g) W W') : AccAt W' b m n a := h.chg hc (fun e => (ne_ref h h2).1 e.symm) (fun e => (ne_ref h h2).2 e.symm)
theorem both {P : Acc → Prop} {E : Int} {a a' : Acc} (h1 : E ≠ 0 → P a) (h2 : E = 0 → P a') : P (if E = 0 then a' else a) := by
  by_cases h : E = 0
  · rw [if_pos h]; exact h2 h
  · rw [if_neg h]; exact h1 h
end

theorem place_any (n : Int) (w : World) : Calls Try.prog 15 #[.int .i64 n] w fun e w' => ∃ p : Nat, p < 3 ∧ e = .returned (.int .i64 p) ∧ w' = w := by
  have hm := Int.emod_emod_of_dvd n (show (3 : Int) ∣ 3 from ⟨1, rfl⟩)
  have ht : -3 < n.tmod 3 ∧ n.tmod 3 < 3 := by
    refine ⟨?_, ?_⟩
    · have := Int.lt_tmod_of_pos n (show (0 : Int) < 3 by decide); exact this
    · exact Int.tmod_lt_of_pos n (by decide)
  obtain ⟨z, hz⟩ : ∃ z, z = n.tmod 3 := ⟨_, rfl⟩
  rw [← hz] at ht
  obtain ⟨t1, t2⟩ := ht
  have hwz : IntKind.i64.wrap z = z := IntWalk.i64_in _ (by omega)
  have hwz3 : IntKind.i64.wrap (z + 3) = z + 3 := IntWalk.i64_in _ (by omega)
  have hz' : n.tmod 3 = z := hz.symm
  clear hz hm
  by_cases h0 : z < 0
  · have hd : decide (z < 0) = true := decide_eq_true h0
    obtain ⟨p, hp⟩ := Int.eq_ofNat_of_zero_le (show 0 ≤ z + 3 by omega)
    have HP := Lib.hid hp
    have hp3 : p < 3 := by omega
    clear hp
    go_enter Try.func15, Try.ntmps15
    go_wp2
    go_ret
    exact ⟨p, hp3, by simp [HP.out], rfl⟩
  · have hd : decide (z < 0) = false := decide_eq_false h0
    obtain ⟨p, hp⟩ := Int.eq_ofNat_of_zero_le (show 0 ≤ z by omega)
    have HP := Lib.hid hp
    have hp3 : p < 3 := by omega
    clear hp
    go_enter Try.func15, Try.ntmps15
    go_wp2
    go_ret
    exact ⟨p, hp3, by simp [HP.out], rfl⟩

set_option maxRecDepth 100000 in
set_option maxHeartbeats 4000000 in
theorem tells_live {b m n g : Nat} {a : Acc} {w : World} (h : AccAt w b m n a) (h2 : RefAt w g a) (ho : a.Ok) {x : Int} (hx : int64b x) :
    Calls Try.prog 20 #[.pointer (some ⟨b, 0, none⟩), .pointer (some ⟨g, 0, none⟩), .int .i64 x] w fun e w' => e = .returned (.bool true) ∧ Below w.heap.size w w' := by
  obtain ⟨k0, k1, _, _⟩ := h2.cells
  have HA0 := Lib.hid (show AtP w (.pointer (some ⟨b, 0, none⟩)) (.live a) from ⟨_, _, _, rfl, h⟩)
  have HR0 := Lib.hid h2
  have HO := Lib.hid (show (Fm.live a).Ok from ho)
  have HX := Lib.hid hx
  obtain ⟨bd, hbd⟩ : ∃ z, z = a.bud := ⟨_, rfl⟩
  obtain ⟨sp, hsp⟩ : ∃ z, z = a.sp := ⟨_, rfl⟩
  obtain ⟨fr, hfr⟩ : ∃ z, z = a.free := ⟨_, rfl⟩
  obtain ⟨he, hhe⟩ : ∃ z, z = sumM a.M := ⟨_, rfl⟩
  obtain ⟨at_, hat⟩ : ∃ z, z = atM a.M x := ⟨_, rfl⟩
  rw [← hbd] at k0
  rw [← hsp] at k1
  have EBD := Lib.hid (show (Fm.live a).bud = bd from hbd.symm)
  have ESP := Lib.hid (show (Fm.live a).sp = sp from hsp.symm)
  have EFR := Lib.hid (show (Fm.live a).free = fr from hfr.symm)
  have EFR2 := Lib.hid (show a.free = fr from hfr.symm)
  have EHE := Lib.hid (show sumM (Fm.live a).M = he from hhe.symm)
  have EHE2 := Lib.hid (show sumM a.M = he from hhe.symm)
  have EAT := Lib.hid (show atM (Fm.live a).M x = at_ from hat.symm)
  have EAT2 := Lib.hid (show atM a.M x = at_ from hat.symm)
  have HB0 := Lib.hid (Below.refl w.heap.size w)
  clear h h2 ho hx hbd hsp hfr hhe hat
  go_enter Try.func20, Try.ntmps20
  go_wp2_with fail
  go_quiet (fail)
  have HA1 := Lib.hid (HA0.out.grow (below_drewN (Below.refl w.heap.size w) nq))
  have HR1 := Lib.hid (HR0.out.grow (below_drewN (Below.refl w.heap.size w) nq))
  have HB1 := Lib.hid (below_drewN (Below.refl w.heap.size w) nq)
  go_wp2_with fail
  refine (budget_any HA1.out).mono ?_
  rintro e w9 ⟨rfl, hw⟩
  rw [hw]
  clear hw
  rw [EBD.out]
  go_wp2_with fail
  refine (spent_any HA1.out).mono ?_
  rintro e w9 ⟨rfl, hw⟩
  rw [hw]
  clear hw
  rw [ESP.out]
  go_wp2_with fail
  refine (free_any HA1.out HO.out).mono ?_
  rintro e w2 ⟨rfl, hb⟩
  rw [EFR.out]
  have HA2 := Lib.hid (HA1.out.grow hb)
  have HR2 := Lib.hid (HR1.out.grow hb)
  have HB2 := Lib.hid (HB1.out.trans (hb.mono HB1.out.size))
  clear hb
  go_wp2_with fail
  refine (refFree_live HR2.out HO.out).mono ?_
  rintro e w3 ⟨rfl, hb⟩
  rw [EFR2.out]
  have HA3 := Lib.hid (HA2.out.grow hb)
  have HR3 := Lib.hid (HR2.out.grow hb)
  have HB3 := Lib.hid (HB2.out.trans (hb.mono HB2.out.size))
  clear hb
  go_wp2_with fail
  refine (held_any HA3.out HO.out).mono ?_
  rintro e w4 ⟨rfl, hb⟩
  rw [EHE.out]
  have HA4 := Lib.hid (HA3.out.grow hb)
  have HR4 := Lib.hid (HR3.out.grow hb)
  have HB4 := Lib.hid (HB3.out.trans (hb.mono HB3.out.size))
  clear hb
  go_wp2_with fail
  refine (refAll_live HR4.out HO.out).mono ?_
  rintro e w9 ⟨rfl, hw⟩
  rw [hw]
  clear hw
  rw [EHE2.out]
  go_wp2_with fail
  refine (at_any HA4.out HX.out).mono ?_
  rintro e w9 ⟨rfl, hw⟩
  rw [hw]
  clear hw
  rw [EAT.out]
  go_wp2_with fail
  refine (refAt_live HR4.out HO.out x).mono ?_
  rintro e w9 ⟨rfl, hw⟩
  rw [hw]
  clear hw
  rw [EAT2.out]
  go_wp2_with fail
  go_ret
  exact ⟨rfl, HB4.out⟩

set_option maxRecDepth 100000 in
set_option maxHeartbeats 4000000 in
theorem tells_nil {w : World} {x : Int} (hx : int64b x) :
    Calls Try.prog 20 #[.pointer none, .pointer none, .int .i64 x] w fun e w' => e = .returned (.bool true) ∧ Below w.heap.size w w' := by
  have HA1 := Lib.hid (show AtP w (.pointer none) .nil from rfl)
  have HR1 := HA1
  have HO := Lib.hid (show Fm.nil.Ok from trivial)
  have HX := Lib.hid hx
  have HB1 := Lib.hid (Below.refl w.heap.size w)
  have EBD := Lib.hid (show Fm.nil.bud = 0 from rfl)
  have ESP := Lib.hid (show Fm.nil.sp = 0 from rfl)
  have EFR := Lib.hid (show Fm.nil.free = 0 from rfl)
  have EHE := Lib.hid (show sumM Fm.nil.M = 0 from rfl)
  have EAT := Lib.hid (show atM Fm.nil.M x = 0 from rfl)
  clear hx
  go_enter Try.func20, Try.ntmps20
  go_wp2_with fail
  refine (budget_any HA1.out).mono ?_
  rintro e w9 ⟨rfl, hw⟩
  rw [hw]
  clear hw
  rw [EBD.out]
  go_wp2_with fail
  refine (spent_any HA1.out).mono ?_
  rintro e w9 ⟨rfl, hw⟩
  rw [hw]
  clear hw
  rw [ESP.out]
  go_wp2_with fail
  refine (free_any HA1.out HO.out).mono ?_
  rintro e w2 ⟨rfl, hb⟩
  rw [EFR.out]
  have HA2 := Lib.hid (HA1.out.grow hb)
  have HR2 := Lib.hid (HR1.out.grow hb)
  have HB2 := Lib.hid (HB1.out.trans (hb.mono HB1.out.size))
  clear hb
  go_wp2_with fail
  refine (refFree_none 0 0 _).mono ?_
  rintro e w9 ⟨rfl, hw⟩
  rw [hw]
  clear hw
  go_wp2_with fail
  refine (held_any HA2.out HO.out).mono ?_
  rintro e w3 ⟨rfl, hb⟩
  rw [EHE.out]
  have HA3 := Lib.hid (HA2.out.grow hb)
  have HR3 := Lib.hid (HR2.out.grow hb)
  have HB3 := Lib.hid (HB2.out.trans (hb.mono HB2.out.size))
  clear hb
  go_wp2_with fail
  refine (refAll_none 0 0 _).mono ?_
  rintro e w9 ⟨rfl, hw⟩
  rw [hw]
  clear hw
  go_wp2_with fail
  refine (at_any HA3.out HX.out).mono ?_
  rintro e w9 ⟨rfl, hw⟩
  rw [hw]
  clear hw
  rw [EAT.out]
  go_wp2_with fail
  refine (refAt_none x 0 _).mono ?_
  rintro e w9 ⟨rfl, hw⟩
  rw [hw]
  clear hw
  go_wp2_with fail
  go_ret
  exact ⟨rfl, HB3.out⟩

theorem tells_any {W : World} {tv rv : Value} {b m g n : Nat} {f : Fm} (h : PairAt W tv rv b m g n f) {x : Int} (hx : int64b x) :
    Calls Try.prog 20 #[tv, rv, .int .i64 x] W fun e w' => e = .returned (.bool true) ∧ Below W.heap.size W w' := by
  cases f with
  | nil => obtain ⟨rfl, rfl⟩ := h; exact tells_nil hx
  | zero => exact h.elim
  | live a => obtain ⟨rfl, rfl, h3, h4, h5, _⟩ := h; exact tells_live h3 h4 h5 hx

/-- behind a step: the pair stands alike again -/
def DoesP (tv rv : Value) (b m g n : Nat) (f : Fm) (w : World) (e : Ending) (w' : World) : Prop :=
  e = .returned (.bool true) ∧ Chg (fun k => f.there = true ∧ (k = m ∨ k = b ∨ k = g)) w w' ∧ ∃ f', PairAt w' tv rv b m g (n + 1) f' ∧ f'.there = f.there

set_option maxRecDepth 100000 in
set_option maxHeartbeats 4000000 in
theorem does_L1 {b m n g : Nat} {a : Acc} {w : World} (h : AccAt w b m n a) (h2 : RefAt w g a) (ho : a.Ok) (hf : a.Fine) (hn : n < maxLen) {who to lot coins : Int} (hs : int64b lot ∧ int64b coins) :
    Calls Try.prog 19 #[.pointer (some ⟨b, 0, none⟩), .pointer (some ⟨g, 0, none⟩), .agg #[.int .i64 1, .int .i64 who, .int .i64 to, .int .i64 lot, .int .i64 coins]] w (DoesP (.pointer (some ⟨b, 0, none⟩)) (.pointer (some ⟨g, 0, none⟩)) b m g n (.live a) w) := by
  obtain ⟨U, hU⟩ : ∃ U, U = w.alloc (.cells #[.int .i64 1, .int .i64 who, .int .i64 to, .int .i64 lot, .int .i64 coins] 45) := ⟨_, rfl⟩
  have hx : Blk U w.heap.size 45 #[.int .i64 1, .int .i64 who, .int .i64 to, .int .i64 lot, .int .i64 coins] := by rw [hU]; exact Blk.new w _ _
  have hB : Below w.heap.size w U := by rw [hU]; exact (Below.refl _ _).alloc (Nat.le_refl _) _
  have c0 : U.cell? ⟨w.heap.size, 0, none⟩ = some (.int .i64 1) := hx.cell 0
  have c3 : U.cell? ⟨w.heap.size, 3, none⟩ = some (.int .i64 lot) := hx.cell 3
  have c4 : U.cell? ⟨w.heap.size, 4, none⟩ = some (.int .i64 coins) := hx.cell 4
  have lx := hx.lt
  have HU := Lib.hid hU
  have HB := Lib.hid hB
  have HX := Lib.hid hs.1
  have HV := Lib.hid hs.2
  have hlb := h.ltb
  have hlm := h.ltm
  have hlg := h2.lt
  have HA := Lib.hid (h.grow hB)
  have HR := Lib.hid (h2.grow hB)
  have HO := Lib.hid ho
  have HF := Lib.hid hf
  have HN := Lib.hid hn
  have HCB := Lib.hid (Chg.of (fun k => (Fm.live a).there = true ∧ (k = m ∨ k = b ∨ k = g)) hB)
  clear hU hx hB h h2 ho hf hn hs
  obtain ⟨en, hen⟩ : ∃ z, z = a.bringE coins := ⟨_, rfl⟩
  have HEN := Lib.hid hen
  clear hen
  go_enter Try.func19, Try.ntmps19
  go_wp2_with fail
  rw [← HU.out]
  refine wp_region_F (Chg (fun k => k = m ∨ k = b ∨ k = g) U) [] (by kernel_rfl) ((Chg.refl _ _).grow (Below.refl _ _).drew) (fun hS => ?_)
  refine wpAnyF_take (i := 0) (oi := { dst := some 15, op := Go.Op.move (Go.Operand.tmp 0), type := 23, pos := "law.go:72", after := #[], guard := none }) (v := ?_) rfl (by kernel_rfl) (by kernel_rfl) (by kernel_rfl) (by kernel_rfl) (fun _ _ _ h => h) (Or.inl ⟨by rfl, ?_⟩) hS ?_
  rotate_left
  · intro w' hSw; have q3 := (World.cell?_of_block (a := ⟨w.heap.size, 3, none⟩) (hSw.block w.heap.size lx (by rintro (e | e | e) <;> omega))).trans c3; have q4 := (World.cell?_of_block (a := ⟨w.heap.size, 4, none⟩) (hSw.block w.heap.size lx (by rintro (e | e | e) <;> omega))).trans c4; go_simp; try with_reducible rfl
  try simp only [Act.put, List.setIfInBounds_toArray, List.set_cons_zero, List.set_cons_succ]
  refine wpAnyF_take (i := 1) (oi := { dst := some 16, op := Go.Op.fieldAddr 45 (Go.Operand.tmp 5) 4, type := 0, pos := "law.go:72", after := #[], guard := none }) (v := ?_) rfl (by kernel_rfl) (by kernel_rfl) (by kernel_rfl) (by kernel_rfl) (fun _ _ _ h => h) (Or.inl ⟨by rfl, ?_⟩) hS ?_
  rotate_left
  · intro w' hSw; have q3 := (World.cell?_of_block (a := ⟨w.heap.size, 3, none⟩) (hSw.block w.heap.size lx (by rintro (e | e | e) <;> omega))).trans c3; have q4 := (World.cell?_of_block (a := ⟨w.heap.size, 4, none⟩) (hSw.block w.heap.size lx (by rintro (e | e | e) <;> omega))).trans c4; go_simp; try with_reducible rfl
  try simp only [Act.put, List.setIfInBounds_toArray, List.set_cons_zero, List.set_cons_succ]
  refine wpAnyF_take (i := 2) (oi := { dst := some 17, op := Go.Op.load 2 (Go.Operand.tmp 16), type := 2, pos := "law.go:72", after := #[{ on := 1, ground := Go.Ground.data }], guard := none }) (v := ?_) rfl (by kernel_rfl) (by kernel_rfl) (by kernel_rfl) (by kernel_rfl) (fun _ _ _ h => h) (Or.inl ⟨by rfl, ?_⟩) hS ?_
  rotate_left
  · intro w' hSw; have q3 := (World.cell?_of_block (a := ⟨w.heap.size, 3, none⟩) (hSw.block w.heap.size lx (by rintro (e | e | e) <;> omega))).trans c3; have q4 := (World.cell?_of_block (a := ⟨w.heap.size, 4, none⟩) (hSw.block w.heap.size lx (by rintro (e | e | e) <;> omega))).trans c4; go_simp; try with_reducible rfl
  try simp only [Act.put, List.setIfInBounds_toArray, List.set_cons_zero, List.set_cons_succ]
  refine wpAnyF_take (i := 5) (oi := { dst := some 20, op := Go.Op.move (Go.Operand.tmp 1), type := 37, pos := "law.go:72", after := #[], guard := none }) (v := ?_) rfl (by kernel_rfl) (by kernel_rfl) (by kernel_rfl) (by kernel_rfl) (fun _ _ _ h => h) (Or.inl ⟨by rfl, ?_⟩) hS ?_
  rotate_left
  · intro w' hSw; have q3 := (World.cell?_of_block (a := ⟨w.heap.size, 3, none⟩) (hSw.block w.heap.size lx (by rintro (e | e | e) <;> omega))).trans c3; have q4 := (World.cell?_of_block (a := ⟨w.heap.size, 4, none⟩) (hSw.block w.heap.size lx (by rintro (e | e | e) <;> omega))).trans c4; go_simp; try with_reducible rfl
  try simp only [Act.put, List.setIfInBounds_toArray, List.set_cons_zero, List.set_cons_succ]
  refine wpAnyF_take (i := 6) (oi := { dst := some 21, op := Go.Op.fieldAddr 45 (Go.Operand.tmp 5) 4, type := 0, pos := "law.go:72", after := #[], guard := none }) (v := ?_) rfl (by kernel_rfl) (by kernel_rfl) (by kernel_rfl) (by kernel_rfl) (fun _ _ _ h => h) (Or.inl ⟨by rfl, ?_⟩) hS ?_
  rotate_left
  · intro w' hSw; have q3 := (World.cell?_of_block (a := ⟨w.heap.size, 3, none⟩) (hSw.block w.heap.size lx (by rintro (e | e | e) <;> omega))).trans c3; have q4 := (World.cell?_of_block (a := ⟨w.heap.size, 4, none⟩) (hSw.block w.heap.size lx (by rintro (e | e | e) <;> omega))).trans c4; go_simp; try with_reducible rfl
  try simp only [Act.put, List.setIfInBounds_toArray, List.set_cons_zero, List.set_cons_succ]
  refine wpAnyF_take (i := 7) (oi := { dst := some 22, op := Go.Op.load 2 (Go.Operand.tmp 21), type := 2, pos := "law.go:72", after := #[{ on := 6, ground := Go.Ground.data }], guard := none }) (v := ?_) rfl (by kernel_rfl) (by kernel_rfl) (by kernel_rfl) (by kernel_rfl) (fun _ _ _ h => h) (Or.inl ⟨by rfl, ?_⟩) hS ?_
  rotate_left
  · intro w' hSw; have q3 := (World.cell?_of_block (a := ⟨w.heap.size, 3, none⟩) (hSw.block w.heap.size lx (by rintro (e | e | e) <;> omega))).trans c3; have q4 := (World.cell?_of_block (a := ⟨w.heap.size, 4, none⟩) (hSw.block w.heap.size lx (by rintro (e | e | e) <;> omega))).trans c4; go_simp; try with_reducible rfl
  try simp only [Act.put, List.setIfInBounds_toArray, List.set_cons_zero, List.set_cons_succ]
  refine wpAnyF_ready (rs := [3]) (by kernel_rfl) (by simp) ?_
  refine AllReadyF.cons (o := { dst := some 18, op := Go.Op.call { callee := Go.Callee.value (Go.Operand.func 43), args := #[Go.Operand.tmp 15, Go.Operand.tmp 17], argTypes := #[23, 2] }, type := 24, pos := "law.go:72", after := #[{ on := 0, ground := Go.Ground.data }, { on := 2, ground := Go.Ground.data }], guard := none }) rfl (by rfl) (fun K hK => ?_) ?_
  · go_simp
    refine (bring_one (HA.out.grow (Below.refl _ _).drew) HO.out.bud).mono ?_
    rintro e w7 ⟨rfl, hc7, hn7, hz7⟩
    rw [← HEN.out]
    refine hK.out _ _ ?_ (fun hS => ?_)
    · exact hS.step hc7 (fun _ _ e => e.elim Or.inl (fun e => Or.inr (Or.inl e)))
    clear hK K
    try simp only [Act.put, List.setIfInBounds_toArray, List.set_cons_zero, List.set_cons_succ]
    have HA7 := Lib.hid (both hn7 hz7 : AccAt w7 b m (n + 1) (if a.bringE coins = 0 then a.bring coins else a))
    have HR7 := Lib.hid ((HR.out.grow (Below.refl _ _).drew).after (X := fun _ => False) (HA.out.grow (Below.refl _ _).drew) hc7)
    clear hc7 hn7 hz7
    refine wpAnyF_ready (rs := [4]) (by kernel_rfl) (by simp) ?_
    refine AllReadyF.cons (o := { dst := some 19, op := Go.Op.call { callee := Go.Callee.value (Go.Operand.func 14), args := #[Go.Operand.tmp 18], argTypes := #[24] }, type := 3, pos := "law.go:72", after := #[{ on := 3, ground := Go.Ground.data }, { on := 3, ground := Go.Ground.chain }], guard := none }) rfl (by rfl) (fun K hK => ?_) ?_
    · go_simp
      refine (num_any _ _).mono ?_
      rintro e w8 ⟨rfl, hw8⟩
      rw [hw8]
      clear hw8
      refine hK.out _ _ ?_ (fun hS => ?_)
      · exact hS
      clear hK K
      try simp only [Act.put, List.setIfInBounds_toArray, List.set_cons_zero, List.set_cons_succ]
      refine wpAnyF_ready (rs := [8]) (by kernel_rfl) (by simp) ?_
      refine AllReadyF.cons (o := { dst := some 23, op := Go.Op.call { callee := Go.Callee.value (Go.Operand.func 44), args := #[Go.Operand.tmp 20, Go.Operand.tmp 22], argTypes := #[37, 2] }, type := 3, pos := "law.go:72", after := #[{ on := 5, ground := Go.Ground.data }, { on := 7, ground := Go.Ground.data }, { on := 4, ground := Go.Ground.chain }], guard := none }) rfl (by rfl) (fun K hK => ?_) ?_
      · go_simp
        refine (refBring_live HR7.out HO.out).mono ?_
        rintro e w9 ⟨rfl, hc9, hn9, hz9⟩
        rw [← HEN.out]
        refine hK.out _ _ ?_ (fun hS => ?_)
        · exact hS.step hc9 (fun _ _ e => Or.inr (Or.inr e))
        clear hK K
        try simp only [Act.put, List.setIfInBounds_toArray, List.set_cons_zero, List.set_cons_succ]
        have HR9 := Lib.hid (both hn9 hz9 : RefAt w9 g (if a.bringE coins = 0 then a.bring coins else a))
        have HA9 := Lib.hid (HA7.out.after HR7.out hc9)
        clear hc9 hn9 hz9
        refine wpAnyF_take (i := 9) (oi := { dst := some 24, op := Go.Op.binOp Go.BinOp.eql 3 (Go.Operand.tmp 19) (Go.Operand.tmp 23) 3, type := 4, pos := "law.go:72", after := #[{ on := 4, ground := Go.Ground.data }, { on := 8, ground := Go.Ground.data }], guard := none }) (v := ?_) rfl (by kernel_rfl) (by kernel_rfl) (by kernel_rfl) (by kernel_rfl) (fun _ _ _ h => h) (Or.inl ⟨by rfl, ?_⟩) hS ?_
        rotate_left
        · intro w' hSw; have q3 := (World.cell?_of_block (a := ⟨w.heap.size, 3, none⟩) (hSw.block w.heap.size lx (by rintro (e | e | e) <;> omega))).trans c3; have q4 := (World.cell?_of_block (a := ⟨w.heap.size, 4, none⟩) (hSw.block w.heap.size lx (by rintro (e | e | e) <;> omega))).trans c4; go_simp; try with_reducible rfl
        try simp only [Act.put, List.setIfInBounds_toArray, List.set_cons_zero, List.set_cons_succ]
        refine wpAnyF_take (i := 10) (oi := { dst := some 6, op := Go.Op.assign (Go.Operand.tmp 24), type := 4, pos := "law.go:72", after := #[{ on := 9, ground := Go.Ground.data }, { on := 8, ground := Go.Ground.chain }, { on := 0, ground := Go.Ground.phase }, { on := 1, ground := Go.Ground.phase }, { on := 2, ground := Go.Ground.phase }, { on := 3, ground := Go.Ground.phase }, { on := 4, ground := Go.Ground.phase }, { on := 5, ground := Go.Ground.phase }, { on := 6, ground := Go.Ground.phase }, { on := 7, ground := Go.Ground.phase }, { on := 8, ground := Go.Ground.phase }, { on := 9, ground := Go.Ground.phase }], guard := none }) (v := ?_) rfl (by kernel_rfl) (by kernel_rfl) (by kernel_rfl) (by kernel_rfl) (fun _ _ _ h => h) (Or.inl ⟨by rfl, ?_⟩) hS ?_
        rotate_left
        · intro w' hSw; have q3 := (World.cell?_of_block (a := ⟨w.heap.size, 3, none⟩) (hSw.block w.heap.size lx (by rintro (e | e | e) <;> omega))).trans c3; have q4 := (World.cell?_of_block (a := ⟨w.heap.size, 4, none⟩) (hSw.block w.heap.size lx (by rintro (e | e | e) <;> omega))).trans c4; go_simp; try with_reducible rfl
        try simp only [Act.put, List.setIfInBounds_toArray, List.set_cons_zero, List.set_cons_succ]
        refine wpAnyF_done (by kernel_rfl) ?_ _
        go_wp2_with fail
        go_ret
        have hk := both (P := fun x => x.Ok ∧ x.Fine) (E := a.bringE coins) (a := a) (a' := a.bring coins) (fun _ => ⟨HO.out, HF.out⟩) (fun h => bring_keeps HO.out HF.out h)
        exact ⟨rfl, HCB.out.step hS (fun _ _ e => ⟨rfl, e⟩), .live _, ⟨rfl, rfl, HA9.out, HR9.out, hk.1, hk.2⟩, rfl⟩
      exact AllReadyF.nil
    exact AllReadyF.nil
  exact AllReadyF.nil

set_option maxRecDepth 100000 in
set_option maxHeartbeats 4000000 in
theorem does_N1 {b m n g : Nat} {w : World} {who to lot coins : Int} (hs : int64b lot ∧ int64b coins) :
    Calls Try.prog 19 #[.pointer none, .pointer none, .agg #[.int .i64 1, .int .i64 who, .int .i64 to, .int .i64 lot, .int .i64 coins]] w (DoesP (.pointer none) (.pointer none) b m g n .nil w) := by
  obtain ⟨U, hU⟩ : ∃ U, U = w.alloc (.cells #[.int .i64 1, .int .i64 who, .int .i64 to, .int .i64 lot, .int .i64 coins] 45) := ⟨_, rfl⟩
  have hx : Blk U w.heap.size 45 #[.int .i64 1, .int .i64 who, .int .i64 to, .int .i64 lot, .int .i64 coins] := by rw [hU]; exact Blk.new w _ _
  have hB : Below w.heap.size w U := by rw [hU]; exact (Below.refl _ _).alloc (Nat.le_refl _) _
  have c0 : U.cell? ⟨w.heap.size, 0, none⟩ = some (.int .i64 1) := hx.cell 0
  have c3 : U.cell? ⟨w.heap.size, 3, none⟩ = some (.int .i64 lot) := hx.cell 3
  have c4 : U.cell? ⟨w.heap.size, 4, none⟩ = some (.int .i64 coins) := hx.cell 4
  have lx := hx.lt
  have HU := Lib.hid hU
  have HB := Lib.hid hB
  have HX := Lib.hid hs.1
  have HV := Lib.hid hs.2
  have HAN := Lib.hid (show AtP U (.pointer none) .nil from rfl)
  clear hU hx hB hs
  go_enter Try.func19, Try.ntmps19
  go_wp2_with fail
  rw [← HU.out]
  refine wp_region_F (Below U.heap.size U) [] (by kernel_rfl) ((Below.refl _ _).drew) (fun hS => ?_)
  refine wpAnyF_take (i := 0) (oi := { dst := some 15, op := Go.Op.move (Go.Operand.tmp 0), type := 23, pos := "law.go:72", after := #[], guard := none }) (v := ?_) rfl (by kernel_rfl) (by kernel_rfl) (by kernel_rfl) (by kernel_rfl) (fun _ _ _ h => h) (Or.inl ⟨by rfl, ?_⟩) hS ?_
  rotate_left
  · intro w' hSw; have q3 := (hSw.cell (p := ⟨w.heap.size, 3, none⟩) lx).trans c3; have q4 := (hSw.cell (p := ⟨w.heap.size, 4, none⟩) lx).trans c4; go_simp; try with_reducible rfl
  try simp only [Act.put, List.setIfInBounds_toArray, List.set_cons_zero, List.set_cons_succ]
  refine wpAnyF_take (i := 1) (oi := { dst := some 16, op := Go.Op.fieldAddr 45 (Go.Operand.tmp 5) 4, type := 0, pos := "law.go:72", after := #[], guard := none }) (v := ?_) rfl (by kernel_rfl) (by kernel_rfl) (by kernel_rfl) (by kernel_rfl) (fun _ _ _ h => h) (Or.inl ⟨by rfl, ?_⟩) hS ?_
  rotate_left
  · intro w' hSw; have q3 := (hSw.cell (p := ⟨w.heap.size, 3, none⟩) lx).trans c3; have q4 := (hSw.cell (p := ⟨w.heap.size, 4, none⟩) lx).trans c4; go_simp; try with_reducible rfl
  try simp only [Act.put, List.setIfInBounds_toArray, List.set_cons_zero, List.set_cons_succ]
  refine wpAnyF_take (i := 2) (oi := { dst := some 17, op := Go.Op.load 2 (Go.Operand.tmp 16), type := 2, pos := "law.go:72", after := #[{ on := 1, ground := Go.Ground.data }], guard := none }) (v := ?_) rfl (by kernel_rfl) (by kernel_rfl) (by kernel_rfl) (by kernel_rfl) (fun _ _ _ h => h) (Or.inl ⟨by rfl, ?_⟩) hS ?_
  rotate_left
  · intro w' hSw; have q3 := (hSw.cell (p := ⟨w.heap.size, 3, none⟩) lx).trans c3; have q4 := (hSw.cell (p := ⟨w.heap.size, 4, none⟩) lx).trans c4; go_simp; try with_reducible rfl
  try simp only [Act.put, List.setIfInBounds_toArray, List.set_cons_zero, List.set_cons_succ]
  refine wpAnyF_take (i := 5) (oi := { dst := some 20, op := Go.Op.move (Go.Operand.tmp 1), type := 37, pos := "law.go:72", after := #[], guard := none }) (v := ?_) rfl (by kernel_rfl) (by kernel_rfl) (by kernel_rfl) (by kernel_rfl) (fun _ _ _ h => h) (Or.inl ⟨by rfl, ?_⟩) hS ?_
  rotate_left
  · intro w' hSw; have q3 := (hSw.cell (p := ⟨w.heap.size, 3, none⟩) lx).trans c3; have q4 := (hSw.cell (p := ⟨w.heap.size, 4, none⟩) lx).trans c4; go_simp; try with_reducible rfl
  try simp only [Act.put, List.setIfInBounds_toArray, List.set_cons_zero, List.set_cons_succ]
  refine wpAnyF_take (i := 6) (oi := { dst := some 21, op := Go.Op.fieldAddr 45 (Go.Operand.tmp 5) 4, type := 0, pos := "law.go:72", after := #[], guard := none }) (v := ?_) rfl (by kernel_rfl) (by kernel_rfl) (by kernel_rfl) (by kernel_rfl) (fun _ _ _ h => h) (Or.inl ⟨by rfl, ?_⟩) hS ?_
  rotate_left
  · intro w' hSw; have q3 := (hSw.cell (p := ⟨w.heap.size, 3, none⟩) lx).trans c3; have q4 := (hSw.cell (p := ⟨w.heap.size, 4, none⟩) lx).trans c4; go_simp; try with_reducible rfl
  try simp only [Act.put, List.setIfInBounds_toArray, List.set_cons_zero, List.set_cons_succ]
  refine wpAnyF_take (i := 7) (oi := { dst := some 22, op := Go.Op.load 2 (Go.Operand.tmp 21), type := 2, pos := "law.go:72", after := #[{ on := 6, ground := Go.Ground.data }], guard := none }) (v := ?_) rfl (by kernel_rfl) (by kernel_rfl) (by kernel_rfl) (by kernel_rfl) (fun _ _ _ h => h) (Or.inl ⟨by rfl, ?_⟩) hS ?_
  rotate_left
  · intro w' hSw; have q3 := (hSw.cell (p := ⟨w.heap.size, 3, none⟩) lx).trans c3; have q4 := (hSw.cell (p := ⟨w.heap.size, 4, none⟩) lx).trans c4; go_simp; try with_reducible rfl
  try simp only [Act.put, List.setIfInBounds_toArray, List.set_cons_zero, List.set_cons_succ]
  refine wpAnyF_ready (rs := [3]) (by kernel_rfl) (by simp) ?_
  refine AllReadyF.cons (o := { dst := some 18, op := Go.Op.call { callee := Go.Callee.value (Go.Operand.func 43), args := #[Go.Operand.tmp 15, Go.Operand.tmp 17], argTypes := #[23, 2] }, type := 24, pos := "law.go:72", after := #[{ on := 0, ground := Go.Ground.data }, { on := 2, ground := Go.Ground.data }], guard := none }) rfl (by rfl) (fun K hK => ?_) ?_
  · go_simp
    refine (bring_dead (HAN.out.grow hS) rfl).mono ?_
    rintro e w7 ⟨rfl, hb7⟩
    refine hK.out _ _ ?_ (fun hS => ?_)
    · exact hS.trans (hb7.mono hS.size)
    clear hK K
    try simp only [Act.put, List.setIfInBounds_toArray, List.set_cons_zero, List.set_cons_succ]
    clear hb7
    refine wpAnyF_ready (rs := [4]) (by kernel_rfl) (by simp) ?_
    refine AllReadyF.cons (o := { dst := some 19, op := Go.Op.call { callee := Go.Callee.value (Go.Operand.func 14), args := #[Go.Operand.tmp 18], argTypes := #[24] }, type := 3, pos := "law.go:72", after := #[{ on := 3, ground := Go.Ground.data }, { on := 3, ground := Go.Ground.chain }], guard := none }) rfl (by rfl) (fun K hK => ?_) ?_
    · go_simp
      refine (num_any _ _).mono ?_
      rintro e w8 ⟨rfl, hw8⟩
      rw [hw8]
      clear hw8
      refine hK.out _ _ ?_ (fun hS => ?_)
      · exact hS
      clear hK K
      try simp only [Act.put, List.setIfInBounds_toArray, List.set_cons_zero, List.set_cons_succ]
      refine wpAnyF_ready (rs := [8]) (by kernel_rfl) (by simp) ?_
      refine AllReadyF.cons (o := { dst := some 23, op := Go.Op.call { callee := Go.Callee.value (Go.Operand.func 44), args := #[Go.Operand.tmp 20, Go.Operand.tmp 22], argTypes := #[37, 2] }, type := 3, pos := "law.go:72", after := #[{ on := 5, ground := Go.Ground.data }, { on := 7, ground := Go.Ground.data }, { on := 4, ground := Go.Ground.chain }], guard := none }) rfl (by rfl) (fun K hK => ?_) ?_
      · go_simp
        refine (refBring_none 0 _ _).mono ?_
        rintro e w9 ⟨rfl, hw9⟩
        rw [hw9]
        clear hw9
        refine hK.out _ _ ?_ (fun hS => ?_)
        · exact hS
        clear hK K
        try simp only [Act.put, List.setIfInBounds_toArray, List.set_cons_zero, List.set_cons_succ]
        refine wpAnyF_take (i := 9) (oi := { dst := some 24, op := Go.Op.binOp Go.BinOp.eql 3 (Go.Operand.tmp 19) (Go.Operand.tmp 23) 3, type := 4, pos := "law.go:72", after := #[{ on := 4, ground := Go.Ground.data }, { on := 8, ground := Go.Ground.data }], guard := none }) (v := ?_) rfl (by kernel_rfl) (by kernel_rfl) (by kernel_rfl) (by kernel_rfl) (fun _ _ _ h => h) (Or.inl ⟨by rfl, ?_⟩) hS ?_
        rotate_left
        · intro w' hSw; have q3 := (hSw.cell (p := ⟨w.heap.size, 3, none⟩) lx).trans c3; have q4 := (hSw.cell (p := ⟨w.heap.size, 4, none⟩) lx).trans c4; go_simp; try with_reducible rfl
        try simp only [Act.put, List.setIfInBounds_toArray, List.set_cons_zero, List.set_cons_succ]
        refine wpAnyF_take (i := 10) (oi := { dst := some 6, op := Go.Op.assign (Go.Operand.tmp 24), type := 4, pos := "law.go:72", after := #[{ on := 9, ground := Go.Ground.data }, { on := 8, ground := Go.Ground.chain }, { on := 0, ground := Go.Ground.phase }, { on := 1, ground := Go.Ground.phase }, { on := 2, ground := Go.Ground.phase }, { on := 3, ground := Go.Ground.phase }, { on := 4, ground := Go.Ground.phase }, { on := 5, ground := Go.Ground.phase }, { on := 6, ground := Go.Ground.phase }, { on := 7, ground := Go.Ground.phase }, { on := 8, ground := Go.Ground.phase }, { on := 9, ground := Go.Ground.phase }], guard := none }) (v := ?_) rfl (by kernel_rfl) (by kernel_rfl) (by kernel_rfl) (by kernel_rfl) (fun _ _ _ h => h) (Or.inl ⟨by rfl, ?_⟩) hS ?_
        rotate_left
        · intro w' hSw; have q3 := (hSw.cell (p := ⟨w.heap.size, 3, none⟩) lx).trans c3; have q4 := (hSw.cell (p := ⟨w.heap.size, 4, none⟩) lx).trans c4; go_simp; try with_reducible rfl
        try simp only [Act.put, List.setIfInBounds_toArray, List.set_cons_zero, List.set_cons_succ]
        refine wpAnyF_done (by kernel_rfl) ?_ _
        go_wp2_with fail
        go_ret
        exact ⟨rfl, Chg.of _ (HB.out.trans (hS.mono HB.out.size)), .nil, ⟨rfl, rfl⟩, rfl⟩
      exact AllReadyF.nil
    exact AllReadyF.nil
  exact AllReadyF.nil

set_option maxRecDepth 100000 in
set_option maxHeartbeats 4000000 in
theorem does_L2 {b m n g : Nat} {a : Acc} {w : World} (h : AccAt w b m n a) (h2 : RefAt w g a) (ho : a.Ok) (hf : a.Fine) (hn : n < maxLen) {who to lot coins : Int} (hs : int64b lot ∧ int64b coins) :
    Calls Try.prog 19 #[.pointer (some ⟨b, 0, none⟩), .pointer (some ⟨g, 0, none⟩), .agg #[.int .i64 2, .int .i64 who, .int .i64 to, .int .i64 lot, .int .i64 coins]] w (DoesP (.pointer (some ⟨b, 0, none⟩)) (.pointer (some ⟨g, 0, none⟩)) b m g n (.live a) w) := by
  obtain ⟨U, hU⟩ : ∃ U, U = w.alloc (.cells #[.int .i64 2, .int .i64 who, .int .i64 to, .int .i64 lot, .int .i64 coins] 45) := ⟨_, rfl⟩
  have hx : Blk U w.heap.size 45 #[.int .i64 2, .int .i64 who, .int .i64 to, .int .i64 lot, .int .i64 coins] := by rw [hU]; exact Blk.new w _ _
  have hB : Below w.heap.size w U := by rw [hU]; exact (Below.refl _ _).alloc (Nat.le_refl _) _
  have c0 : U.cell? ⟨w.heap.size, 0, none⟩ = some (.int .i64 2) := hx.cell 0
  have c3 : U.cell? ⟨w.heap.size, 3, none⟩ = some (.int .i64 lot) := hx.cell 3
  have c4 : U.cell? ⟨w.heap.size, 4, none⟩ = some (.int .i64 coins) := hx.cell 4
  have lx := hx.lt
  have HU := Lib.hid hU
  have HB := Lib.hid hB
  have HX := Lib.hid hs.1
  have HV := Lib.hid hs.2
  have hlb := h.ltb
  have hlm := h.ltm
  have hlg := h2.lt
  have HA := Lib.hid (h.grow hB)
  have HR := Lib.hid (h2.grow hB)
  have HO := Lib.hid ho
  have HF := Lib.hid hf
  have HN := Lib.hid hn
  have HCB := Lib.hid (Chg.of (fun k => (Fm.live a).there = true ∧ (k = m ∨ k = b ∨ k = g)) hB)
  clear hU hx hB h h2 ho hf hn hs
  obtain ⟨en, hen⟩ : ∃ z, z = a.holdE lot coins := ⟨_, rfl⟩
  have HEN := Lib.hid hen
  clear hen
  go_enter Try.func19, Try.ntmps19
  go_wp2_with fail
  rw [← HU.out]
  refine wp_region_F (Chg (fun k => k = m ∨ k = b ∨ k = g) U) [] (by kernel_rfl) ((Chg.refl _ _).grow (Below.refl _ _).drew) (fun hS => ?_)
  refine wpAnyF_take (i := 0) (oi := { dst := some 27, op := Go.Op.move (Go.Operand.tmp 0), type := 23, pos := "law.go:74", after := #[], guard := none }) (v := ?_) rfl (by kernel_rfl) (by kernel_rfl) (by kernel_rfl) (by kernel_rfl) (fun _ _ _ h => h) (Or.inl ⟨by rfl, ?_⟩) hS ?_
  rotate_left
  · intro w' hSw; have q3 := (World.cell?_of_block (a := ⟨w.heap.size, 3, none⟩) (hSw.block w.heap.size lx (by rintro (e | e | e) <;> omega))).trans c3; have q4 := (World.cell?_of_block (a := ⟨w.heap.size, 4, none⟩) (hSw.block w.heap.size lx (by rintro (e | e | e) <;> omega))).trans c4; go_simp; try with_reducible rfl
  try simp only [Act.put, List.setIfInBounds_toArray, List.set_cons_zero, List.set_cons_succ]
  refine wpAnyF_take (i := 1) (oi := { dst := some 28, op := Go.Op.fieldAddr 45 (Go.Operand.tmp 5) 3, type := 0, pos := "law.go:74", after := #[], guard := none }) (v := ?_) rfl (by kernel_rfl) (by kernel_rfl) (by kernel_rfl) (by kernel_rfl) (fun _ _ _ h => h) (Or.inl ⟨by rfl, ?_⟩) hS ?_
  rotate_left
  · intro w' hSw; have q3 := (World.cell?_of_block (a := ⟨w.heap.size, 3, none⟩) (hSw.block w.heap.size lx (by rintro (e | e | e) <;> omega))).trans c3; have q4 := (World.cell?_of_block (a := ⟨w.heap.size, 4, none⟩) (hSw.block w.heap.size lx (by rintro (e | e | e) <;> omega))).trans c4; go_simp; try with_reducible rfl
  try simp only [Act.put, List.setIfInBounds_toArray, List.set_cons_zero, List.set_cons_succ]
  refine wpAnyF_take (i := 2) (oi := { dst := some 29, op := Go.Op.load 3 (Go.Operand.tmp 28), type := 3, pos := "law.go:74", after := #[{ on := 1, ground := Go.Ground.data }], guard := none }) (v := ?_) rfl (by kernel_rfl) (by kernel_rfl) (by kernel_rfl) (by kernel_rfl) (fun _ _ _ h => h) (Or.inl ⟨by rfl, ?_⟩) hS ?_
  rotate_left
  · intro w' hSw; have q3 := (World.cell?_of_block (a := ⟨w.heap.size, 3, none⟩) (hSw.block w.heap.size lx (by rintro (e | e | e) <;> omega))).trans c3; have q4 := (World.cell?_of_block (a := ⟨w.heap.size, 4, none⟩) (hSw.block w.heap.size lx (by rintro (e | e | e) <;> omega))).trans c4; go_simp; try with_reducible rfl
  try simp only [Act.put, List.setIfInBounds_toArray, List.set_cons_zero, List.set_cons_succ]
  refine wpAnyF_take (i := 3) (oi := { dst := some 30, op := Go.Op.fieldAddr 45 (Go.Operand.tmp 5) 4, type := 0, pos := "law.go:74", after := #[], guard := none }) (v := ?_) rfl (by kernel_rfl) (by kernel_rfl) (by kernel_rfl) (by kernel_rfl) (fun _ _ _ h => h) (Or.inl ⟨by rfl, ?_⟩) hS ?_
  rotate_left
  · intro w' hSw; have q3 := (World.cell?_of_block (a := ⟨w.heap.size, 3, none⟩) (hSw.block w.heap.size lx (by rintro (e | e | e) <;> omega))).trans c3; have q4 := (World.cell?_of_block (a := ⟨w.heap.size, 4, none⟩) (hSw.block w.heap.size lx (by rintro (e | e | e) <;> omega))).trans c4; go_simp; try with_reducible rfl
  try simp only [Act.put, List.setIfInBounds_toArray, List.set_cons_zero, List.set_cons_succ]
  refine wpAnyF_take (i := 4) (oi := { dst := some 31, op := Go.Op.load 2 (Go.Operand.tmp 30), type := 2, pos := "law.go:74", after := #[{ on := 3, ground := Go.Ground.data }], guard := none }) (v := ?_) rfl (by kernel_rfl) (by kernel_rfl) (by kernel_rfl) (by kernel_rfl) (fun _ _ _ h => h) (Or.inl ⟨by rfl, ?_⟩) hS ?_
  rotate_left
  · intro w' hSw; have q3 := (World.cell?_of_block (a := ⟨w.heap.size, 3, none⟩) (hSw.block w.heap.size lx (by rintro (e | e | e) <;> omega))).trans c3; have q4 := (World.cell?_of_block (a := ⟨w.heap.size, 4, none⟩) (hSw.block w.heap.size lx (by rintro (e | e | e) <;> omega))).trans c4; go_simp; try with_reducible rfl
  try simp only [Act.put, List.setIfInBounds_toArray, List.set_cons_zero, List.set_cons_succ]
  refine wpAnyF_take (i := 7) (oi := { dst := some 34, op := Go.Op.move (Go.Operand.tmp 1), type := 37, pos := "law.go:74", after := #[], guard := none }) (v := ?_) rfl (by kernel_rfl) (by kernel_rfl) (by kernel_rfl) (by kernel_rfl) (fun _ _ _ h => h) (Or.inl ⟨by rfl, ?_⟩) hS ?_
  rotate_left
  · intro w' hSw; have q3 := (World.cell?_of_block (a := ⟨w.heap.size, 3, none⟩) (hSw.block w.heap.size lx (by rintro (e | e | e) <;> omega))).trans c3; have q4 := (World.cell?_of_block (a := ⟨w.heap.size, 4, none⟩) (hSw.block w.heap.size lx (by rintro (e | e | e) <;> omega))).trans c4; go_simp; try with_reducible rfl
  try simp only [Act.put, List.setIfInBounds_toArray, List.set_cons_zero, List.set_cons_succ]
  refine wpAnyF_take (i := 8) (oi := { dst := some 35, op := Go.Op.fieldAddr 45 (Go.Operand.tmp 5) 3, type := 0, pos := "law.go:74", after := #[], guard := none }) (v := ?_) rfl (by kernel_rfl) (by kernel_rfl) (by kernel_rfl) (by kernel_rfl) (fun _ _ _ h => h) (Or.inl ⟨by rfl, ?_⟩) hS ?_
  rotate_left
  · intro w' hSw; have q3 := (World.cell?_of_block (a := ⟨w.heap.size, 3, none⟩) (hSw.block w.heap.size lx (by rintro (e | e | e) <;> omega))).trans c3; have q4 := (World.cell?_of_block (a := ⟨w.heap.size, 4, none⟩) (hSw.block w.heap.size lx (by rintro (e | e | e) <;> omega))).trans c4; go_simp; try with_reducible rfl
  try simp only [Act.put, List.setIfInBounds_toArray, List.set_cons_zero, List.set_cons_succ]
  refine wpAnyF_take (i := 9) (oi := { dst := some 36, op := Go.Op.load 3 (Go.Operand.tmp 35), type := 3, pos := "law.go:74", after := #[{ on := 8, ground := Go.Ground.data }], guard := none }) (v := ?_) rfl (by kernel_rfl) (by kernel_rfl) (by kernel_rfl) (by kernel_rfl) (fun _ _ _ h => h) (Or.inl ⟨by rfl, ?_⟩) hS ?_
  rotate_left
  · intro w' hSw; have q3 := (World.cell?_of_block (a := ⟨w.heap.size, 3, none⟩) (hSw.block w.heap.size lx (by rintro (e | e | e) <;> omega))).trans c3; have q4 := (World.cell?_of_block (a := ⟨w.heap.size, 4, none⟩) (hSw.block w.heap.size lx (by rintro (e | e | e) <;> omega))).trans c4; go_simp; try with_reducible rfl
  try simp only [Act.put, List.setIfInBounds_toArray, List.set_cons_zero, List.set_cons_succ]
  refine wpAnyF_take (i := 10) (oi := { dst := some 37, op := Go.Op.fieldAddr 45 (Go.Operand.tmp 5) 4, type := 0, pos := "law.go:74", after := #[], guard := none }) (v := ?_) rfl (by kernel_rfl) (by kernel_rfl) (by kernel_rfl) (by kernel_rfl) (fun _ _ _ h => h) (Or.inl ⟨by rfl, ?_⟩) hS ?_
  rotate_left
  · intro w' hSw; have q3 := (World.cell?_of_block (a := ⟨w.heap.size, 3, none⟩) (hSw.block w.heap.size lx (by rintro (e | e | e) <;> omega))).trans c3; have q4 := (World.cell?_of_block (a := ⟨w.heap.size, 4, none⟩) (hSw.block w.heap.size lx (by rintro (e | e | e) <;> omega))).trans c4; go_simp; try with_reducible rfl
  try simp only [Act.put, List.setIfInBounds_toArray, List.set_cons_zero, List.set_cons_succ]
  refine wpAnyF_take (i := 11) (oi := { dst := some 38, op := Go.Op.load 2 (Go.Operand.tmp 37), type := 2, pos := "law.go:74", after := #[{ on := 10, ground := Go.Ground.data }], guard := none }) (v := ?_) rfl (by kernel_rfl) (by kernel_rfl) (by kernel_rfl) (by kernel_rfl) (fun _ _ _ h => h) (Or.inl ⟨by rfl, ?_⟩) hS ?_
  rotate_left
  · intro w' hSw; have q3 := (World.cell?_of_block (a := ⟨w.heap.size, 3, none⟩) (hSw.block w.heap.size lx (by rintro (e | e | e) <;> omega))).trans c3; have q4 := (World.cell?_of_block (a := ⟨w.heap.size, 4, none⟩) (hSw.block w.heap.size lx (by rintro (e | e | e) <;> omega))).trans c4; go_simp; try with_reducible rfl
  try simp only [Act.put, List.setIfInBounds_toArray, List.set_cons_zero, List.set_cons_succ]
  refine wpAnyF_ready (rs := [5]) (by kernel_rfl) (by simp) ?_
  refine AllReadyF.cons (o := { dst := some 32, op := Go.Op.call { callee := Go.Callee.value (Go.Operand.func 9), args := #[Go.Operand.tmp 27, Go.Operand.tmp 29, Go.Operand.tmp 31], argTypes := #[23, 3, 2] }, type := 24, pos := "law.go:74", after := #[{ on := 0, ground := Go.Ground.data }, { on := 2, ground := Go.Ground.data }, { on := 4, ground := Go.Ground.data }], guard := none }) rfl (by rfl) (fun K hK => ?_) ?_
  · go_simp
    refine (hold_two (HA.out.grow (Below.refl _ _).drew) HO.out HN.out HX.out HV.out).mono ?_
    rintro e w7 ⟨rfl, hc7, hn7, hz7⟩
    rw [← HEN.out]
    refine hK.out _ _ ?_ (fun hS => ?_)
    · exact hS.step hc7 (fun _ _ e => e.elim Or.inl (fun e => Or.inr (Or.inl e)))
    clear hK K
    try simp only [Act.put, List.setIfInBounds_toArray, List.set_cons_zero, List.set_cons_succ]
    have HA7 := Lib.hid (both hn7 hz7 : AccAt w7 b m (n + 1) (if a.holdE lot coins = 0 then a.set lot coins else a))
    have HR7 := Lib.hid ((HR.out.grow (Below.refl _ _).drew).after (X := fun _ => False) (HA.out.grow (Below.refl _ _).drew) hc7)
    clear hc7 hn7 hz7
    refine wpAnyF_ready (rs := [6]) (by kernel_rfl) (by simp) ?_
    refine AllReadyF.cons (o := { dst := some 33, op := Go.Op.call { callee := Go.Callee.value (Go.Operand.func 14), args := #[Go.Operand.tmp 32], argTypes := #[24] }, type := 3, pos := "law.go:74", after := #[{ on := 5, ground := Go.Ground.data }, { on := 5, ground := Go.Ground.chain }], guard := none }) rfl (by rfl) (fun K hK => ?_) ?_
    · go_simp
      refine (num_any _ _).mono ?_
      rintro e w8 ⟨rfl, hw8⟩
      rw [hw8]
      clear hw8
      refine hK.out _ _ ?_ (fun hS => ?_)
      · exact hS
      clear hK K
      try simp only [Act.put, List.setIfInBounds_toArray, List.set_cons_zero, List.set_cons_succ]
      refine wpAnyF_ready (rs := [12]) (by kernel_rfl) (by simp) ?_
      refine AllReadyF.cons (o := { dst := some 39, op := Go.Op.call { callee := Go.Callee.value (Go.Operand.func 45), args := #[Go.Operand.tmp 34, Go.Operand.tmp 36, Go.Operand.tmp 38], argTypes := #[37, 3, 2] }, type := 3, pos := "law.go:74", after := #[{ on := 7, ground := Go.Ground.data }, { on := 9, ground := Go.Ground.data }, { on := 11, ground := Go.Ground.data }, { on := 6, ground := Go.Ground.chain }], guard := none }) rfl (by rfl) (fun K hK => ?_) ?_
      · go_simp
        refine (refHold_live HR7.out HO.out).mono ?_
        rintro e w9 ⟨rfl, hc9, hn9, hz9⟩
        rw [← HEN.out]
        refine hK.out _ _ ?_ (fun hS => ?_)
        · exact hS.step hc9 (fun _ _ e => Or.inr (Or.inr e))
        clear hK K
        try simp only [Act.put, List.setIfInBounds_toArray, List.set_cons_zero, List.set_cons_succ]
        have HR9 := Lib.hid (both hn9 hz9 : RefAt w9 g (if a.holdE lot coins = 0 then a.set lot coins else a))
        have HA9 := Lib.hid (HA7.out.after HR7.out hc9)
        clear hc9 hn9 hz9
        refine wpAnyF_take (i := 13) (oi := { dst := some 40, op := Go.Op.binOp Go.BinOp.eql 3 (Go.Operand.tmp 33) (Go.Operand.tmp 39) 3, type := 4, pos := "law.go:74", after := #[{ on := 6, ground := Go.Ground.data }, { on := 12, ground := Go.Ground.data }], guard := none }) (v := ?_) rfl (by kernel_rfl) (by kernel_rfl) (by kernel_rfl) (by kernel_rfl) (fun _ _ _ h => h) (Or.inl ⟨by rfl, ?_⟩) hS ?_
        rotate_left
        · intro w' hSw; have q3 := (World.cell?_of_block (a := ⟨w.heap.size, 3, none⟩) (hSw.block w.heap.size lx (by rintro (e | e | e) <;> omega))).trans c3; have q4 := (World.cell?_of_block (a := ⟨w.heap.size, 4, none⟩) (hSw.block w.heap.size lx (by rintro (e | e | e) <;> omega))).trans c4; go_simp; try with_reducible rfl
        try simp only [Act.put, List.setIfInBounds_toArray, List.set_cons_zero, List.set_cons_succ]
        refine wpAnyF_take (i := 14) (oi := { dst := some 6, op := Go.Op.assign (Go.Operand.tmp 40), type := 4, pos := "law.go:74", after := #[{ on := 13, ground := Go.Ground.data }, { on := 12, ground := Go.Ground.chain }, { on := 0, ground := Go.Ground.phase }, { on := 1, ground := Go.Ground.phase }, { on := 2, ground := Go.Ground.phase }, { on := 3, ground := Go.Ground.phase }, { on := 4, ground := Go.Ground.phase }, { on := 5, ground := Go.Ground.phase }, { on := 6, ground := Go.Ground.phase }, { on := 7, ground := Go.Ground.phase }, { on := 8, ground := Go.Ground.phase }, { on := 9, ground := Go.Ground.phase }, { on := 10, ground := Go.Ground.phase }, { on := 11, ground := Go.Ground.phase }, { on := 12, ground := Go.Ground.phase }, { on := 13, ground := Go.Ground.phase }], guard := none }) (v := ?_) rfl (by kernel_rfl) (by kernel_rfl) (by kernel_rfl) (by kernel_rfl) (fun _ _ _ h => h) (Or.inl ⟨by rfl, ?_⟩) hS ?_
        rotate_left
        · intro w' hSw; have q3 := (World.cell?_of_block (a := ⟨w.heap.size, 3, none⟩) (hSw.block w.heap.size lx (by rintro (e | e | e) <;> omega))).trans c3; have q4 := (World.cell?_of_block (a := ⟨w.heap.size, 4, none⟩) (hSw.block w.heap.size lx (by rintro (e | e | e) <;> omega))).trans c4; go_simp; try with_reducible rfl
        try simp only [Act.put, List.setIfInBounds_toArray, List.set_cons_zero, List.set_cons_succ]
        refine wpAnyF_done (by kernel_rfl) ?_ _
        go_wp2_with fail
        go_ret
        have hk := both (P := fun x => x.Ok ∧ x.Fine) (E := a.holdE lot coins) (a := a) (a' := a.set lot coins) (fun _ => ⟨HO.out, HF.out⟩) (fun h => hold_keeps HO.out HF.out HX.out.2 h)
        exact ⟨rfl, HCB.out.step hS (fun _ _ e => ⟨rfl, e⟩), .live _, ⟨rfl, rfl, HA9.out, HR9.out, hk.1, hk.2⟩, rfl⟩
      exact AllReadyF.nil
    exact AllReadyF.nil
  exact AllReadyF.nil

set_option maxRecDepth 100000 in
set_option maxHeartbeats 4000000 in
theorem does_N2 {b m n g : Nat} {w : World} {who to lot coins : Int} (hs : int64b lot ∧ int64b coins) :
    Calls Try.prog 19 #[.pointer none, .pointer none, .agg #[.int .i64 2, .int .i64 who, .int .i64 to, .int .i64 lot, .int .i64 coins]] w (DoesP (.pointer none) (.pointer none) b m g n .nil w) := by
  obtain ⟨U, hU⟩ : ∃ U, U = w.alloc (.cells #[.int .i64 2, .int .i64 who, .int .i64 to, .int .i64 lot, .int .i64 coins] 45) := ⟨_, rfl⟩
  have hx : Blk U w.heap.size 45 #[.int .i64 2, .int .i64 who, .int .i64 to, .int .i64 lot, .int .i64 coins] := by rw [hU]; exact Blk.new w _ _
  have hB : Below w.heap.size w U := by rw [hU]; exact (Below.refl _ _).alloc (Nat.le_refl _) _
  have c0 : U.cell? ⟨w.heap.size, 0, none⟩ = some (.int .i64 2) := hx.cell 0
  have c3 : U.cell? ⟨w.heap.size, 3, none⟩ = some (.int .i64 lot) := hx.cell 3
  have c4 : U.cell? ⟨w.heap.size, 4, none⟩ = some (.int .i64 coins) := hx.cell 4
  have lx := hx.lt
  have HU := Lib.hid hU
  have HB := Lib.hid hB
  have HX := Lib.hid hs.1
  have HV := Lib.hid hs.2
  have HAN := Lib.hid (show AtP U (.pointer none) .nil from rfl)
  clear hU hx hB hs
  go_enter Try.func19, Try.ntmps19
  go_wp2_with fail
  rw [← HU.out]
  refine wp_region_F (Below U.heap.size U) [] (by kernel_rfl) ((Below.refl _ _).drew) (fun hS => ?_)
  refine wpAnyF_take (i := 0) (oi := { dst := some 27, op := Go.Op.move (Go.Operand.tmp 0), type := 23, pos := "law.go:74", after := #[], guard := none }) (v := ?_) rfl (by kernel_rfl) (by kernel_rfl) (by kernel_rfl) (by kernel_rfl) (fun _ _ _ h => h) (Or.inl ⟨by rfl, ?_⟩) hS ?_
  rotate_left
  · intro w' hSw; have q3 := (hSw.cell (p := ⟨w.heap.size, 3, none⟩) lx).trans c3; have q4 := (hSw.cell (p := ⟨w.heap.size, 4, none⟩) lx).trans c4; go_simp; try with_reducible rfl
  try simp only [Act.put, List.setIfInBounds_toArray, List.set_cons_zero, List.set_cons_succ]
  refine wpAnyF_take (i := 1) (oi := { dst := some 28, op := Go.Op.fieldAddr 45 (Go.Operand.tmp 5) 3, type := 0, pos := "law.go:74", after := #[], guard := none }) (v := ?_) rfl (by kernel_rfl) (by kernel_rfl) (by kernel_rfl) (by kernel_rfl) (fun _ _ _ h => h) (Or.inl ⟨by rfl, ?_⟩) hS ?_
  rotate_left
  · intro w' hSw; have q3 := (hSw.cell (p := ⟨w.heap.size, 3, none⟩) lx).trans c3; have q4 := (hSw.cell (p := ⟨w.heap.size, 4, none⟩) lx).trans c4; go_simp; try with_reducible rfl
  try simp only [Act.put, List.setIfInBounds_toArray, List.set_cons_zero, List.set_cons_succ]
  refine wpAnyF_take (i := 2) (oi := { dst := some 29, op := Go.Op.load 3 (Go.Operand.tmp 28), type := 3, pos := "law.go:74", after := #[{ on := 1, ground := Go.Ground.data }], guard := none }) (v := ?_) rfl (by kernel_rfl) (by kernel_rfl) (by kernel_rfl) (by kernel_rfl) (fun _ _ _ h => h) (Or.inl ⟨by rfl, ?_⟩) hS ?_
  rotate_left
  · intro w' hSw; have q3 := (hSw.cell (p := ⟨w.heap.size, 3, none⟩) lx).trans c3; have q4 := (hSw.cell (p := ⟨w.heap.size, 4, none⟩) lx).trans c4; go_simp; try with_reducible rfl
  try simp only [Act.put, List.setIfInBounds_toArray, List.set_cons_zero, List.set_cons_succ]
  refine wpAnyF_take (i := 3) (oi := { dst := some 30, op := Go.Op.fieldAddr 45 (Go.Operand.tmp 5) 4, type := 0, pos := "law.go:74", after := #[], guard := none }) (v := ?_) rfl (by kernel_rfl) (by kernel_rfl) (by kernel_rfl) (by kernel_rfl) (fun _ _ _ h => h) (Or.inl ⟨by rfl, ?_⟩) hS ?_
  rotate_left
  · intro w' hSw; have q3 := (hSw.cell (p := ⟨w.heap.size, 3, none⟩) lx).trans c3; have q4 := (hSw.cell (p := ⟨w.heap.size, 4, none⟩) lx).trans c4; go_simp; try with_reducible rfl
  try simp only [Act.put, List.setIfInBounds_toArray, List.set_cons_zero, List.set_cons_succ]
  refine wpAnyF_take (i := 4) (oi := { dst := some 31, op := Go.Op.load 2 (Go.Operand.tmp 30), type := 2, pos := "law.go:74", after := #[{ on := 3, ground := Go.Ground.data }], guard := none }) (v := ?_) rfl (by kernel_rfl) (by kernel_rfl) (by kernel_rfl) (by kernel_rfl) (fun _ _ _ h => h) (Or.inl ⟨by rfl, ?_⟩) hS ?_
  rotate_left
  · intro w' hSw; have q3 := (hSw.cell (p := ⟨w.heap.size, 3, none⟩) lx).trans c3; have q4 := (hSw.cell (p := ⟨w.heap.size, 4, none⟩) lx).trans c4; go_simp; try with_reducible rfl
  try simp only [Act.put, List.setIfInBounds_toArray, List.set_cons_zero, List.set_cons_succ]
  refine wpAnyF_take (i := 7) (oi := { dst := some 34, op := Go.Op.move (Go.Operand.tmp 1), type := 37, pos := "law.go:74", after := #[], guard := none }) (v := ?_) rfl (by kernel_rfl) (by kernel_rfl) (by kernel_rfl) (by kernel_rfl) (fun _ _ _ h => h) (Or.inl ⟨by rfl, ?_⟩) hS ?_
  rotate_left
  · intro w' hSw; have q3 := (hSw.cell (p := ⟨w.heap.size, 3, none⟩) lx).trans c3; have q4 := (hSw.cell (p := ⟨w.heap.size, 4, none⟩) lx).trans c4; go_simp; try with_reducible rfl
  try simp only [Act.put, List.setIfInBounds_toArray, List.set_cons_zero, List.set_cons_succ]
  refine wpAnyF_take (i := 8) (oi := { dst := some 35, op := Go.Op.fieldAddr 45 (Go.Operand.tmp 5) 3, type := 0, pos := "law.go:74", after := #[], guard := none }) (v := ?_) rfl (by kernel_rfl) (by kernel_rfl) (by kernel_rfl) (by kernel_rfl) (fun _ _ _ h => h) (Or.inl ⟨by rfl, ?_⟩) hS ?_
  rotate_left
  · intro w' hSw; have q3 := (hSw.cell (p := ⟨w.heap.size, 3, none⟩) lx).trans c3; have q4 := (hSw.cell (p := ⟨w.heap.size, 4, none⟩) lx).trans c4; go_simp; try with_reducible rfl
  try simp only [Act.put, List.setIfInBounds_toArray, List.set_cons_zero, List.set_cons_succ]
  refine wpAnyF_take (i := 9) (oi := { dst := some 36, op := Go.Op.load 3 (Go.Operand.tmp 35), type := 3, pos := "law.go:74", after := #[{ on := 8, ground := Go.Ground.data }], guard := none }) (v := ?_) rfl (by kernel_rfl) (by kernel_rfl) (by kernel_rfl) (by kernel_rfl) (fun _ _ _ h => h) (Or.inl ⟨by rfl, ?_⟩) hS ?_
  rotate_left
  · intro w' hSw; have q3 := (hSw.cell (p := ⟨w.heap.size, 3, none⟩) lx).trans c3; have q4 := (hSw.cell (p := ⟨w.heap.size, 4, none⟩) lx).trans c4; go_simp; try with_reducible rfl
  try simp only [Act.put, List.setIfInBounds_toArray, List.set_cons_zero, List.set_cons_succ]
  refine wpAnyF_take (i := 10) (oi := { dst := some 37, op := Go.Op.fieldAddr 45 (Go.Operand.tmp 5) 4, type := 0, pos := "law.go:74", after := #[], guard := none }) (v := ?_) rfl (by kernel_rfl) (by kernel_rfl) (by kernel_rfl) (by kernel_rfl) (fun _ _ _ h => h) (Or.inl ⟨by rfl, ?_⟩) hS ?_
  rotate_left
  · intro w' hSw; have q3 := (hSw.cell (p := ⟨w.heap.size, 3, none⟩) lx).trans c3; have q4 := (hSw.cell (p := ⟨w.heap.size, 4, none⟩) lx).trans c4; go_simp; try with_reducible rfl
  try simp only [Act.put, List.setIfInBounds_toArray, List.set_cons_zero, List.set_cons_succ]
  refine wpAnyF_take (i := 11) (oi := { dst := some 38, op := Go.Op.load 2 (Go.Operand.tmp 37), type := 2, pos := "law.go:74", after := #[{ on := 10, ground := Go.Ground.data }], guard := none }) (v := ?_) rfl (by kernel_rfl) (by kernel_rfl) (by kernel_rfl) (by kernel_rfl) (fun _ _ _ h => h) (Or.inl ⟨by rfl, ?_⟩) hS ?_
  rotate_left
  · intro w' hSw; have q3 := (hSw.cell (p := ⟨w.heap.size, 3, none⟩) lx).trans c3; have q4 := (hSw.cell (p := ⟨w.heap.size, 4, none⟩) lx).trans c4; go_simp; try with_reducible rfl
  try simp only [Act.put, List.setIfInBounds_toArray, List.set_cons_zero, List.set_cons_succ]
  refine wpAnyF_ready (rs := [5]) (by kernel_rfl) (by simp) ?_
  refine AllReadyF.cons (o := { dst := some 32, op := Go.Op.call { callee := Go.Callee.value (Go.Operand.func 9), args := #[Go.Operand.tmp 27, Go.Operand.tmp 29, Go.Operand.tmp 31], argTypes := #[23, 3, 2] }, type := 24, pos := "law.go:74", after := #[{ on := 0, ground := Go.Ground.data }, { on := 2, ground := Go.Ground.data }, { on := 4, ground := Go.Ground.data }], guard := none }) rfl (by rfl) (fun K hK => ?_) ?_
  · go_simp
    refine (hold_dead (HAN.out.grow hS) rfl).mono ?_
    rintro e w7 ⟨rfl, hb7⟩
    refine hK.out _ _ ?_ (fun hS => ?_)
    · exact hS.trans (hb7.mono hS.size)
    clear hK K
    try simp only [Act.put, List.setIfInBounds_toArray, List.set_cons_zero, List.set_cons_succ]
    clear hb7
    refine wpAnyF_ready (rs := [6]) (by kernel_rfl) (by simp) ?_
    refine AllReadyF.cons (o := { dst := some 33, op := Go.Op.call { callee := Go.Callee.value (Go.Operand.func 14), args := #[Go.Operand.tmp 32], argTypes := #[24] }, type := 3, pos := "law.go:74", after := #[{ on := 5, ground := Go.Ground.data }, { on := 5, ground := Go.Ground.chain }], guard := none }) rfl (by rfl) (fun K hK => ?_) ?_
    · go_simp
      refine (num_any _ _).mono ?_
      rintro e w8 ⟨rfl, hw8⟩
      rw [hw8]
      clear hw8
      refine hK.out _ _ ?_ (fun hS => ?_)
      · exact hS
      clear hK K
      try simp only [Act.put, List.setIfInBounds_toArray, List.set_cons_zero, List.set_cons_succ]
      refine wpAnyF_ready (rs := [12]) (by kernel_rfl) (by simp) ?_
      refine AllReadyF.cons (o := { dst := some 39, op := Go.Op.call { callee := Go.Callee.value (Go.Operand.func 45), args := #[Go.Operand.tmp 34, Go.Operand.tmp 36, Go.Operand.tmp 38], argTypes := #[37, 3, 2] }, type := 3, pos := "law.go:74", after := #[{ on := 7, ground := Go.Ground.data }, { on := 9, ground := Go.Ground.data }, { on := 11, ground := Go.Ground.data }, { on := 6, ground := Go.Ground.chain }], guard := none }) rfl (by rfl) (fun K hK => ?_) ?_
      · go_simp
        refine (refHold_none _ _ _).mono ?_
        rintro e w9 ⟨rfl, hw9⟩
        rw [hw9]
        clear hw9
        refine hK.out _ _ ?_ (fun hS => ?_)
        · exact hS
        clear hK K
        try simp only [Act.put, List.setIfInBounds_toArray, List.set_cons_zero, List.set_cons_succ]
        refine wpAnyF_take (i := 13) (oi := { dst := some 40, op := Go.Op.binOp Go.BinOp.eql 3 (Go.Operand.tmp 33) (Go.Operand.tmp 39) 3, type := 4, pos := "law.go:74", after := #[{ on := 6, ground := Go.Ground.data }, { on := 12, ground := Go.Ground.data }], guard := none }) (v := ?_) rfl (by kernel_rfl) (by kernel_rfl) (by kernel_rfl) (by kernel_rfl) (fun _ _ _ h => h) (Or.inl ⟨by rfl, ?_⟩) hS ?_
        rotate_left
        · intro w' hSw; have q3 := (hSw.cell (p := ⟨w.heap.size, 3, none⟩) lx).trans c3; have q4 := (hSw.cell (p := ⟨w.heap.size, 4, none⟩) lx).trans c4; go_simp; try with_reducible rfl
        try simp only [Act.put, List.setIfInBounds_toArray, List.set_cons_zero, List.set_cons_succ]
        refine wpAnyF_take (i := 14) (oi := { dst := some 6, op := Go.Op.assign (Go.Operand.tmp 40), type := 4, pos := "law.go:74", after := #[{ on := 13, ground := Go.Ground.data }, { on := 12, ground := Go.Ground.chain }, { on := 0, ground := Go.Ground.phase }, { on := 1, ground := Go.Ground.phase }, { on := 2, ground := Go.Ground.phase }, { on := 3, ground := Go.Ground.phase }, { on := 4, ground := Go.Ground.phase }, { on := 5, ground := Go.Ground.phase }, { on := 6, ground := Go.Ground.phase }, { on := 7, ground := Go.Ground.phase }, { on := 8, ground := Go.Ground.phase }, { on := 9, ground := Go.Ground.phase }, { on := 10, ground := Go.Ground.phase }, { on := 11, ground := Go.Ground.phase }, { on := 12, ground := Go.Ground.phase }, { on := 13, ground := Go.Ground.phase }], guard := none }) (v := ?_) rfl (by kernel_rfl) (by kernel_rfl) (by kernel_rfl) (by kernel_rfl) (fun _ _ _ h => h) (Or.inl ⟨by rfl, ?_⟩) hS ?_
        rotate_left
        · intro w' hSw; have q3 := (hSw.cell (p := ⟨w.heap.size, 3, none⟩) lx).trans c3; have q4 := (hSw.cell (p := ⟨w.heap.size, 4, none⟩) lx).trans c4; go_simp; try with_reducible rfl
        try simp only [Act.put, List.setIfInBounds_toArray, List.set_cons_zero, List.set_cons_succ]
        refine wpAnyF_done (by kernel_rfl) ?_ _
        go_wp2_with fail
        go_ret
        exact ⟨rfl, Chg.of _ (HB.out.trans (hS.mono HB.out.size)), .nil, ⟨rfl, rfl⟩, rfl⟩
      exact AllReadyF.nil
    exact AllReadyF.nil
  exact AllReadyF.nil

set_option maxRecDepth 100000 in
set_option maxHeartbeats 4000000 in
theorem does_L4 {b m n g : Nat} {a : Acc} {w : World} (h : AccAt w b m n a) (h2 : RefAt w g a) (ho : a.Ok) (hf : a.Fine) (hn : n < maxLen) {who to lot coins : Int} (hs : int64b lot ∧ int64b coins) :
    Calls Try.prog 19 #[.pointer (some ⟨b, 0, none⟩), .pointer (some ⟨g, 0, none⟩), .agg #[.int .i64 4, .int .i64 who, .int .i64 to, .int .i64 lot, .int .i64 coins]] w (DoesP (.pointer (some ⟨b, 0, none⟩)) (.pointer (some ⟨g, 0, none⟩)) b m g n (.live a) w) := by
  obtain ⟨U, hU⟩ : ∃ U, U = w.alloc (.cells #[.int .i64 4, .int .i64 who, .int .i64 to, .int .i64 lot, .int .i64 coins] 45) := ⟨_, rfl⟩
  have hx : Blk U w.heap.size 45 #[.int .i64 4, .int .i64 who, .int .i64 to, .int .i64 lot, .int .i64 coins] := by rw [hU]; exact Blk.new w _ _
  have hB : Below w.heap.size w U := by rw [hU]; exact (Below.refl _ _).alloc (Nat.le_refl _) _
  have c0 : U.cell? ⟨w.heap.size, 0, none⟩ = some (.int .i64 4) := hx.cell 0
  have c3 : U.cell? ⟨w.heap.size, 3, none⟩ = some (.int .i64 lot) := hx.cell 3
  have c4 : U.cell? ⟨w.heap.size, 4, none⟩ = some (.int .i64 coins) := hx.cell 4
  have lx := hx.lt
  have HU := Lib.hid hU
  have HB := Lib.hid hB
  have HX := Lib.hid hs.1
  have HV := Lib.hid hs.2
  have hlb := h.ltb
  have hlm := h.ltm
  have hlg := h2.lt
  have HA := Lib.hid (h.grow hB)
  have HR := Lib.hid (h2.grow hB)
  have HO := Lib.hid ho
  have HF := Lib.hid hf
  have HN := Lib.hid hn
  have HCB := Lib.hid (Chg.of (fun k => (Fm.live a).there = true ∧ (k = m ∨ k = b ∨ k = g)) hB)
  clear hU hx hB h h2 ho hf hn hs
  obtain ⟨en, hen⟩ : ∃ z, z = a.payE lot coins := ⟨_, rfl⟩
  have HEN := Lib.hid hen
  clear hen
  go_enter Try.func19, Try.ntmps19
  go_wp2_with fail
  rw [← HU.out]
  refine wp_region_F (Chg (fun k => k = m ∨ k = b ∨ k = g) U) [] (by kernel_rfl) ((Chg.refl _ _).grow (Below.refl _ _).drew) (fun hS => ?_)
  refine wpAnyF_take (i := 0) (oi := { dst := some 68, op := Go.Op.move (Go.Operand.tmp 0), type := 23, pos := "law.go:80", after := #[], guard := none }) (v := ?_) rfl (by kernel_rfl) (by kernel_rfl) (by kernel_rfl) (by kernel_rfl) (fun _ _ _ h => h) (Or.inl ⟨by rfl, ?_⟩) hS ?_
  rotate_left
  · intro w' hSw; have q3 := (World.cell?_of_block (a := ⟨w.heap.size, 3, none⟩) (hSw.block w.heap.size lx (by rintro (e | e | e) <;> omega))).trans c3; have q4 := (World.cell?_of_block (a := ⟨w.heap.size, 4, none⟩) (hSw.block w.heap.size lx (by rintro (e | e | e) <;> omega))).trans c4; go_simp; try with_reducible rfl
  try simp only [Act.put, List.setIfInBounds_toArray, List.set_cons_zero, List.set_cons_succ]
  refine wpAnyF_take (i := 1) (oi := { dst := some 69, op := Go.Op.fieldAddr 45 (Go.Operand.tmp 5) 3, type := 0, pos := "law.go:80", after := #[], guard := none }) (v := ?_) rfl (by kernel_rfl) (by kernel_rfl) (by kernel_rfl) (by kernel_rfl) (fun _ _ _ h => h) (Or.inl ⟨by rfl, ?_⟩) hS ?_
  rotate_left
  · intro w' hSw; have q3 := (World.cell?_of_block (a := ⟨w.heap.size, 3, none⟩) (hSw.block w.heap.size lx (by rintro (e | e | e) <;> omega))).trans c3; have q4 := (World.cell?_of_block (a := ⟨w.heap.size, 4, none⟩) (hSw.block w.heap.size lx (by rintro (e | e | e) <;> omega))).trans c4; go_simp; try with_reducible rfl
  try simp only [Act.put, List.setIfInBounds_toArray, List.set_cons_zero, List.set_cons_succ]
  refine wpAnyF_take (i := 2) (oi := { dst := some 70, op := Go.Op.load 3 (Go.Operand.tmp 69), type := 3, pos := "law.go:80", after := #[{ on := 1, ground := Go.Ground.data }], guard := none }) (v := ?_) rfl (by kernel_rfl) (by kernel_rfl) (by kernel_rfl) (by kernel_rfl) (fun _ _ _ h => h) (Or.inl ⟨by rfl, ?_⟩) hS ?_
  rotate_left
  · intro w' hSw; have q3 := (World.cell?_of_block (a := ⟨w.heap.size, 3, none⟩) (hSw.block w.heap.size lx (by rintro (e | e | e) <;> omega))).trans c3; have q4 := (World.cell?_of_block (a := ⟨w.heap.size, 4, none⟩) (hSw.block w.heap.size lx (by rintro (e | e | e) <;> omega))).trans c4; go_simp; try with_reducible rfl
  try simp only [Act.put, List.setIfInBounds_toArray, List.set_cons_zero, List.set_cons_succ]
  refine wpAnyF_take (i := 3) (oi := { dst := some 71, op := Go.Op.fieldAddr 45 (Go.Operand.tmp 5) 4, type := 0, pos := "law.go:80", after := #[], guard := none }) (v := ?_) rfl (by kernel_rfl) (by kernel_rfl) (by kernel_rfl) (by kernel_rfl) (fun _ _ _ h => h) (Or.inl ⟨by rfl, ?_⟩) hS ?_
  rotate_left
  · intro w' hSw; have q3 := (World.cell?_of_block (a := ⟨w.heap.size, 3, none⟩) (hSw.block w.heap.size lx (by rintro (e | e | e) <;> omega))).trans c3; have q4 := (World.cell?_of_block (a := ⟨w.heap.size, 4, none⟩) (hSw.block w.heap.size lx (by rintro (e | e | e) <;> omega))).trans c4; go_simp; try with_reducible rfl
  try simp only [Act.put, List.setIfInBounds_toArray, List.set_cons_zero, List.set_cons_succ]
  refine wpAnyF_take (i := 4) (oi := { dst := some 72, op := Go.Op.load 2 (Go.Operand.tmp 71), type := 2, pos := "law.go:80", after := #[{ on := 3, ground := Go.Ground.data }], guard := none }) (v := ?_) rfl (by kernel_rfl) (by kernel_rfl) (by kernel_rfl) (by kernel_rfl) (fun _ _ _ h => h) (Or.inl ⟨by rfl, ?_⟩) hS ?_
  rotate_left
  · intro w' hSw; have q3 := (World.cell?_of_block (a := ⟨w.heap.size, 3, none⟩) (hSw.block w.heap.size lx (by rintro (e | e | e) <;> omega))).trans c3; have q4 := (World.cell?_of_block (a := ⟨w.heap.size, 4, none⟩) (hSw.block w.heap.size lx (by rintro (e | e | e) <;> omega))).trans c4; go_simp; try with_reducible rfl
  try simp only [Act.put, List.setIfInBounds_toArray, List.set_cons_zero, List.set_cons_succ]
  refine wpAnyF_take (i := 7) (oi := { dst := some 75, op := Go.Op.move (Go.Operand.tmp 1), type := 37, pos := "law.go:80", after := #[], guard := none }) (v := ?_) rfl (by kernel_rfl) (by kernel_rfl) (by kernel_rfl) (by kernel_rfl) (fun _ _ _ h => h) (Or.inl ⟨by rfl, ?_⟩) hS ?_
  rotate_left
  · intro w' hSw; have q3 := (World.cell?_of_block (a := ⟨w.heap.size, 3, none⟩) (hSw.block w.heap.size lx (by rintro (e | e | e) <;> omega))).trans c3; have q4 := (World.cell?_of_block (a := ⟨w.heap.size, 4, none⟩) (hSw.block w.heap.size lx (by rintro (e | e | e) <;> omega))).trans c4; go_simp; try with_reducible rfl
  try simp only [Act.put, List.setIfInBounds_toArray, List.set_cons_zero, List.set_cons_succ]
  refine wpAnyF_take (i := 8) (oi := { dst := some 76, op := Go.Op.fieldAddr 45 (Go.Operand.tmp 5) 3, type := 0, pos := "law.go:80", after := #[], guard := none }) (v := ?_) rfl (by kernel_rfl) (by kernel_rfl) (by kernel_rfl) (by kernel_rfl) (fun _ _ _ h => h) (Or.inl ⟨by rfl, ?_⟩) hS ?_
  rotate_left
  · intro w' hSw; have q3 := (World.cell?_of_block (a := ⟨w.heap.size, 3, none⟩) (hSw.block w.heap.size lx (by rintro (e | e | e) <;> omega))).trans c3; have q4 := (World.cell?_of_block (a := ⟨w.heap.size, 4, none⟩) (hSw.block w.heap.size lx (by rintro (e | e | e) <;> omega))).trans c4; go_simp; try with_reducible rfl
  try simp only [Act.put, List.setIfInBounds_toArray, List.set_cons_zero, List.set_cons_succ]
  refine wpAnyF_take (i := 9) (oi := { dst := some 77, op := Go.Op.load 3 (Go.Operand.tmp 76), type := 3, pos := "law.go:80", after := #[{ on := 8, ground := Go.Ground.data }], guard := none }) (v := ?_) rfl (by kernel_rfl) (by kernel_rfl) (by kernel_rfl) (by kernel_rfl) (fun _ _ _ h => h) (Or.inl ⟨by rfl, ?_⟩) hS ?_
  rotate_left
  · intro w' hSw; have q3 := (World.cell?_of_block (a := ⟨w.heap.size, 3, none⟩) (hSw.block w.heap.size lx (by rintro (e | e | e) <;> omega))).trans c3; have q4 := (World.cell?_of_block (a := ⟨w.heap.size, 4, none⟩) (hSw.block w.heap.size lx (by rintro (e | e | e) <;> omega))).trans c4; go_simp; try with_reducible rfl
  try simp only [Act.put, List.setIfInBounds_toArray, List.set_cons_zero, List.set_cons_succ]
  refine wpAnyF_take (i := 10) (oi := { dst := some 78, op := Go.Op.fieldAddr 45 (Go.Operand.tmp 5) 4, type := 0, pos := "law.go:80", after := #[], guard := none }) (v := ?_) rfl (by kernel_rfl) (by kernel_rfl) (by kernel_rfl) (by kernel_rfl) (fun _ _ _ h => h) (Or.inl ⟨by rfl, ?_⟩) hS ?_
  rotate_left
  · intro w' hSw; have q3 := (World.cell?_of_block (a := ⟨w.heap.size, 3, none⟩) (hSw.block w.heap.size lx (by rintro (e | e | e) <;> omega))).trans c3; have q4 := (World.cell?_of_block (a := ⟨w.heap.size, 4, none⟩) (hSw.block w.heap.size lx (by rintro (e | e | e) <;> omega))).trans c4; go_simp; try with_reducible rfl
  try simp only [Act.put, List.setIfInBounds_toArray, List.set_cons_zero, List.set_cons_succ]
  refine wpAnyF_take (i := 11) (oi := { dst := some 79, op := Go.Op.load 2 (Go.Operand.tmp 78), type := 2, pos := "law.go:80", after := #[{ on := 10, ground := Go.Ground.data }], guard := none }) (v := ?_) rfl (by kernel_rfl) (by kernel_rfl) (by kernel_rfl) (by kernel_rfl) (fun _ _ _ h => h) (Or.inl ⟨by rfl, ?_⟩) hS ?_
  rotate_left
  · intro w' hSw; have q3 := (World.cell?_of_block (a := ⟨w.heap.size, 3, none⟩) (hSw.block w.heap.size lx (by rintro (e | e | e) <;> omega))).trans c3; have q4 := (World.cell?_of_block (a := ⟨w.heap.size, 4, none⟩) (hSw.block w.heap.size lx (by rintro (e | e | e) <;> omega))).trans c4; go_simp; try with_reducible rfl
  try simp only [Act.put, List.setIfInBounds_toArray, List.set_cons_zero, List.set_cons_succ]
  refine wpAnyF_ready (rs := [5]) (by kernel_rfl) (by simp) ?_
  refine AllReadyF.cons (o := { dst := some 73, op := Go.Op.call { callee := Go.Callee.value (Go.Operand.func 32), args := #[Go.Operand.tmp 68, Go.Operand.tmp 70, Go.Operand.tmp 72], argTypes := #[23, 3, 2] }, type := 24, pos := "law.go:80", after := #[{ on := 0, ground := Go.Ground.data }, { on := 2, ground := Go.Ground.data }, { on := 4, ground := Go.Ground.data }], guard := none }) rfl (by rfl) (fun K hK => ?_) ?_
  · go_simp
    refine (pay_one (HA.out.grow (Below.refl _ _).drew) HO.out HN.out HX.out).mono ?_
    rintro e w7 ⟨rfl, hc7, hn7, hz7⟩
    rw [← HEN.out]
    refine hK.out _ _ ?_ (fun hS => ?_)
    · exact hS.step hc7 (fun _ _ e => e.elim Or.inl (fun e => Or.inr (Or.inl e)))
    clear hK K
    try simp only [Act.put, List.setIfInBounds_toArray, List.set_cons_zero, List.set_cons_succ]
    have HA7 := Lib.hid (both hn7 hz7 : AccAt w7 b m (n + 1) (if a.payE lot coins = 0 then a.pay lot coins else a))
    have HR7 := Lib.hid ((HR.out.grow (Below.refl _ _).drew).after (X := fun _ => False) (HA.out.grow (Below.refl _ _).drew) hc7)
    clear hc7 hn7 hz7
    refine wpAnyF_ready (rs := [6]) (by kernel_rfl) (by simp) ?_
    refine AllReadyF.cons (o := { dst := some 74, op := Go.Op.call { callee := Go.Callee.value (Go.Operand.func 14), args := #[Go.Operand.tmp 73], argTypes := #[24] }, type := 3, pos := "law.go:80", after := #[{ on := 5, ground := Go.Ground.data }, { on := 5, ground := Go.Ground.chain }], guard := none }) rfl (by rfl) (fun K hK => ?_) ?_
    · go_simp
      refine (num_any _ _).mono ?_
      rintro e w8 ⟨rfl, hw8⟩
      rw [hw8]
      clear hw8
      refine hK.out _ _ ?_ (fun hS => ?_)
      · exact hS
      clear hK K
      try simp only [Act.put, List.setIfInBounds_toArray, List.set_cons_zero, List.set_cons_succ]
      refine wpAnyF_ready (rs := [12]) (by kernel_rfl) (by simp) ?_
      refine AllReadyF.cons (o := { dst := some 80, op := Go.Op.call { callee := Go.Callee.value (Go.Operand.func 47), args := #[Go.Operand.tmp 75, Go.Operand.tmp 77, Go.Operand.tmp 79], argTypes := #[37, 3, 2] }, type := 3, pos := "law.go:80", after := #[{ on := 7, ground := Go.Ground.data }, { on := 9, ground := Go.Ground.data }, { on := 11, ground := Go.Ground.data }, { on := 6, ground := Go.Ground.chain }], guard := none }) rfl (by rfl) (fun K hK => ?_) ?_
      · go_simp
        refine (refPay_live HR7.out HO.out).mono ?_
        rintro e w9 ⟨rfl, hc9, hn9, hz9⟩
        rw [← HEN.out]
        refine hK.out _ _ ?_ (fun hS => ?_)
        · exact hS.step hc9 (fun _ _ e => Or.inr (Or.inr e))
        clear hK K
        try simp only [Act.put, List.setIfInBounds_toArray, List.set_cons_zero, List.set_cons_succ]
        have HR9 := Lib.hid (both hn9 hz9 : RefAt w9 g (if a.payE lot coins = 0 then a.pay lot coins else a))
        have HA9 := Lib.hid (HA7.out.after HR7.out hc9)
        clear hc9 hn9 hz9
        refine wpAnyF_take (i := 13) (oi := { dst := some 81, op := Go.Op.binOp Go.BinOp.eql 3 (Go.Operand.tmp 74) (Go.Operand.tmp 80) 3, type := 4, pos := "law.go:80", after := #[{ on := 6, ground := Go.Ground.data }, { on := 12, ground := Go.Ground.data }], guard := none }) (v := ?_) rfl (by kernel_rfl) (by kernel_rfl) (by kernel_rfl) (by kernel_rfl) (fun _ _ _ h => h) (Or.inl ⟨by rfl, ?_⟩) hS ?_
        rotate_left
        · intro w' hSw; have q3 := (World.cell?_of_block (a := ⟨w.heap.size, 3, none⟩) (hSw.block w.heap.size lx (by rintro (e | e | e) <;> omega))).trans c3; have q4 := (World.cell?_of_block (a := ⟨w.heap.size, 4, none⟩) (hSw.block w.heap.size lx (by rintro (e | e | e) <;> omega))).trans c4; go_simp; try with_reducible rfl
        try simp only [Act.put, List.setIfInBounds_toArray, List.set_cons_zero, List.set_cons_succ]
        refine wpAnyF_take (i := 14) (oi := { dst := some 6, op := Go.Op.assign (Go.Operand.tmp 81), type := 4, pos := "law.go:80", after := #[{ on := 13, ground := Go.Ground.data }, { on := 12, ground := Go.Ground.chain }, { on := 0, ground := Go.Ground.phase }, { on := 1, ground := Go.Ground.phase }, { on := 2, ground := Go.Ground.phase }, { on := 3, ground := Go.Ground.phase }, { on := 4, ground := Go.Ground.phase }, { on := 5, ground := Go.Ground.phase }, { on := 6, ground := Go.Ground.phase }, { on := 7, ground := Go.Ground.phase }, { on := 8, ground := Go.Ground.phase }, { on := 9, ground := Go.Ground.phase }, { on := 10, ground := Go.Ground.phase }, { on := 11, ground := Go.Ground.phase }, { on := 12, ground := Go.Ground.phase }, { on := 13, ground := Go.Ground.phase }], guard := none }) (v := ?_) rfl (by kernel_rfl) (by kernel_rfl) (by kernel_rfl) (by kernel_rfl) (fun _ _ _ h => h) (Or.inl ⟨by rfl, ?_⟩) hS ?_
        rotate_left
        · intro w' hSw; have q3 := (World.cell?_of_block (a := ⟨w.heap.size, 3, none⟩) (hSw.block w.heap.size lx (by rintro (e | e | e) <;> omega))).trans c3; have q4 := (World.cell?_of_block (a := ⟨w.heap.size, 4, none⟩) (hSw.block w.heap.size lx (by rintro (e | e | e) <;> omega))).trans c4; go_simp; try with_reducible rfl
        try simp only [Act.put, List.setIfInBounds_toArray, List.set_cons_zero, List.set_cons_succ]
        refine wpAnyF_done (by kernel_rfl) ?_ _
        go_wp2_with fail
        go_ret
        have hk := both (P := fun x => x.Ok ∧ x.Fine) (E := a.payE lot coins) (a := a) (a' := a.pay lot coins) (fun _ => ⟨HO.out, HF.out⟩) (fun h => pay_keeps HO.out HF.out HX.out.2 h)
        exact ⟨rfl, HCB.out.step hS (fun _ _ e => ⟨rfl, e⟩), .live _, ⟨rfl, rfl, HA9.out, HR9.out, hk.1, hk.2⟩, rfl⟩
      exact AllReadyF.nil
    exact AllReadyF.nil
  exact AllReadyF.nil

set_option maxRecDepth 100000 in
set_option maxHeartbeats 4000000 in
theorem does_N4 {b m n g : Nat} {w : World} {who to lot coins : Int} (hs : int64b lot ∧ int64b coins) :
    Calls Try.prog 19 #[.pointer none, .pointer none, .agg #[.int .i64 4, .int .i64 who, .int .i64 to, .int .i64 lot, .int .i64 coins]] w (DoesP (.pointer none) (.pointer none) b m g n .nil w) := by
  obtain ⟨U, hU⟩ : ∃ U, U = w.alloc (.cells #[.int .i64 4, .int .i64 who, .int .i64 to, .int .i64 lot, .int .i64 coins] 45) := ⟨_, rfl⟩
  have hx : Blk U w.heap.size 45 #[.int .i64 4, .int .i64 who, .int .i64 to, .int .i64 lot, .int .i64 coins] := by rw [hU]; exact Blk.new w _ _
  have hB : Below w.heap.size w U := by rw [hU]; exact (Below.refl _ _).alloc (Nat.le_refl _) _
  have c0 : U.cell? ⟨w.heap.size, 0, none⟩ = some (.int .i64 4) := hx.cell 0
  have c3 : U.cell? ⟨w.heap.size, 3, none⟩ = some (.int .i64 lot) := hx.cell 3
  have c4 : U.cell? ⟨w.heap.size, 4, none⟩ = some (.int .i64 coins) := hx.cell 4
  have lx := hx.lt
  have HU := Lib.hid hU
  have HB := Lib.hid hB
  have HX := Lib.hid hs.1
  have HV := Lib.hid hs.2
  have HAN := Lib.hid (show AtP U (.pointer none) .nil from rfl)
  clear hU hx hB hs
  go_enter Try.func19, Try.ntmps19
  go_wp2_with fail
  rw [← HU.out]
  refine wp_region_F (Below U.heap.size U) [] (by kernel_rfl) ((Below.refl _ _).drew) (fun hS => ?_)
  refine wpAnyF_take (i := 0) (oi := { dst := some 68, op := Go.Op.move (Go.Operand.tmp 0), type := 23, pos := "law.go:80", after := #[], guard := none }) (v := ?_) rfl (by kernel_rfl) (by kernel_rfl) (by kernel_rfl) (by kernel_rfl) (fun _ _ _ h => h) (Or.inl ⟨by rfl, ?_⟩) hS ?_
  rotate_left
  · intro w' hSw; have q3 := (hSw.cell (p := ⟨w.heap.size, 3, none⟩) lx).trans c3; have q4 := (hSw.cell (p := ⟨w.heap.size, 4, none⟩) lx).trans c4; go_simp; try with_reducible rfl
  try simp only [Act.put, List.setIfInBounds_toArray, List.set_cons_zero, List.set_cons_succ]
  refine wpAnyF_take (i := 1) (oi := { dst := some 69, op := Go.Op.fieldAddr 45 (Go.Operand.tmp 5) 3, type := 0, pos := "law.go:80", after := #[], guard := none }) (v := ?_) rfl (by kernel_rfl) (by kernel_rfl) (by kernel_rfl) (by kernel_rfl) (fun _ _ _ h => h) (Or.inl ⟨by rfl, ?_⟩) hS ?_
  rotate_left
  · intro w' hSw; have q3 := (hSw.cell (p := ⟨w.heap.size, 3, none⟩) lx).trans c3; have q4 := (hSw.cell (p := ⟨w.heap.size, 4, none⟩) lx).trans c4; go_simp; try with_reducible rfl
  try simp only [Act.put, List.setIfInBounds_toArray, List.set_cons_zero, List.set_cons_succ]
  refine wpAnyF_take (i := 2) (oi := { dst := some 70, op := Go.Op.load 3 (Go.Operand.tmp 69), type := 3, pos := "law.go:80", after := #[{ on := 1, ground := Go.Ground.data }], guard := none }) (v := ?_) rfl (by kernel_rfl) (by kernel_rfl) (by kernel_rfl) (by kernel_rfl) (fun _ _ _ h => h) (Or.inl ⟨by rfl, ?_⟩) hS ?_
  rotate_left
  · intro w' hSw; have q3 := (hSw.cell (p := ⟨w.heap.size, 3, none⟩) lx).trans c3; have q4 := (hSw.cell (p := ⟨w.heap.size, 4, none⟩) lx).trans c4; go_simp; try with_reducible rfl
  try simp only [Act.put, List.setIfInBounds_toArray, List.set_cons_zero, List.set_cons_succ]
  refine wpAnyF_take (i := 3) (oi := { dst := some 71, op := Go.Op.fieldAddr 45 (Go.Operand.tmp 5) 4, type := 0, pos := "law.go:80", after := #[], guard := none }) (v := ?_) rfl (by kernel_rfl) (by kernel_rfl) (by kernel_rfl) (by kernel_rfl) (fun _ _ _ h => h) (Or.inl ⟨by rfl, ?_⟩) hS ?_
  rotate_left
  · intro w' hSw; have q3 := (hSw.cell (p := ⟨w.heap.size, 3, none⟩) lx).trans c3; have q4 := (hSw.cell (p := ⟨w.heap.size, 4, none⟩) lx).trans c4; go_simp; try with_reducible rfl
  try simp only [Act.put, List.setIfInBounds_toArray, List.set_cons_zero, List.set_cons_succ]
  refine wpAnyF_take (i := 4) (oi := { dst := some 72, op := Go.Op.load 2 (Go.Operand.tmp 71), type := 2, pos := "law.go:80", after := #[{ on := 3, ground := Go.Ground.data }], guard := none }) (v := ?_) rfl (by kernel_rfl) (by kernel_rfl) (by kernel_rfl) (by kernel_rfl) (fun _ _ _ h => h) (Or.inl ⟨by rfl, ?_⟩) hS ?_
  rotate_left
  · intro w' hSw; have q3 := (hSw.cell (p := ⟨w.heap.size, 3, none⟩) lx).trans c3; have q4 := (hSw.cell (p := ⟨w.heap.size, 4, none⟩) lx).trans c4; go_simp; try with_reducible rfl
  try simp only [Act.put, List.setIfInBounds_toArray, List.set_cons_zero, List.set_cons_succ]
  refine wpAnyF_take (i := 7) (oi := { dst := some 75, op := Go.Op.move (Go.Operand.tmp 1), type := 37, pos := "law.go:80", after := #[], guard := none }) (v := ?_) rfl (by kernel_rfl) (by kernel_rfl) (by kernel_rfl) (by kernel_rfl) (fun _ _ _ h => h) (Or.inl ⟨by rfl, ?_⟩) hS ?_
  rotate_left
  · intro w' hSw; have q3 := (hSw.cell (p := ⟨w.heap.size, 3, none⟩) lx).trans c3; have q4 := (hSw.cell (p := ⟨w.heap.size, 4, none⟩) lx).trans c4; go_simp; try with_reducible rfl
  try simp only [Act.put, List.setIfInBounds_toArray, List.set_cons_zero, List.set_cons_succ]
  refine wpAnyF_take (i := 8) (oi := { dst := some 76, op := Go.Op.fieldAddr 45 (Go.Operand.tmp 5) 3, type := 0, pos := "law.go:80", after := #[], guard := none }) (v := ?_) rfl (by kernel_rfl) (by kernel_rfl) (by kernel_rfl) (by kernel_rfl) (fun _ _ _ h => h) (Or.inl ⟨by rfl, ?_⟩) hS ?_
  rotate_left
  · intro w' hSw; have q3 := (hSw.cell (p := ⟨w.heap.size, 3, none⟩) lx).trans c3; have q4 := (hSw.cell (p := ⟨w.heap.size, 4, none⟩) lx).trans c4; go_simp; try with_reducible rfl
  try simp only [Act.put, List.setIfInBounds_toArray, List.set_cons_zero, List.set_cons_succ]
  refine wpAnyF_take (i := 9) (oi := { dst := some 77, op := Go.Op.load 3 (Go.Operand.tmp 76), type := 3, pos := "law.go:80", after := #[{ on := 8, ground := Go.Ground.data }], guard := none }) (v := ?_) rfl (by kernel_rfl) (by kernel_rfl) (by kernel_rfl) (by kernel_rfl) (fun _ _ _ h => h) (Or.inl ⟨by rfl, ?_⟩) hS ?_
  rotate_left
  · intro w' hSw; have q3 := (hSw.cell (p := ⟨w.heap.size, 3, none⟩) lx).trans c3; have q4 := (hSw.cell (p := ⟨w.heap.size, 4, none⟩) lx).trans c4; go_simp; try with_reducible rfl
  try simp only [Act.put, List.setIfInBounds_toArray, List.set_cons_zero, List.set_cons_succ]
  refine wpAnyF_take (i := 10) (oi := { dst := some 78, op := Go.Op.fieldAddr 45 (Go.Operand.tmp 5) 4, type := 0, pos := "law.go:80", after := #[], guard := none }) (v := ?_) rfl (by kernel_rfl) (by kernel_rfl) (by kernel_rfl) (by kernel_rfl) (fun _ _ _ h => h) (Or.inl ⟨by rfl, ?_⟩) hS ?_
  rotate_left
  · intro w' hSw; have q3 := (hSw.cell (p := ⟨w.heap.size, 3, none⟩) lx).trans c3; have q4 := (hSw.cell (p := ⟨w.heap.size, 4, none⟩) lx).trans c4; go_simp; try with_reducible rfl
  try simp only [Act.put, List.setIfInBounds_toArray, List.set_cons_zero, List.set_cons_succ]
  refine wpAnyF_take (i := 11) (oi := { dst := some 79, op := Go.Op.load 2 (Go.Operand.tmp 78), type := 2, pos := "law.go:80", after := #[{ on := 10, ground := Go.Ground.data }], guard := none }) (v := ?_) rfl (by kernel_rfl) (by kernel_rfl) (by kernel_rfl) (by kernel_rfl) (fun _ _ _ h => h) (Or.inl ⟨by rfl, ?_⟩) hS ?_
  rotate_left
  · intro w' hSw; have q3 := (hSw.cell (p := ⟨w.heap.size, 3, none⟩) lx).trans c3; have q4 := (hSw.cell (p := ⟨w.heap.size, 4, none⟩) lx).trans c4; go_simp; try with_reducible rfl
  try simp only [Act.put, List.setIfInBounds_toArray, List.set_cons_zero, List.set_cons_succ]
  refine wpAnyF_ready (rs := [5]) (by kernel_rfl) (by simp) ?_
  refine AllReadyF.cons (o := { dst := some 73, op := Go.Op.call { callee := Go.Callee.value (Go.Operand.func 32), args := #[Go.Operand.tmp 68, Go.Operand.tmp 70, Go.Operand.tmp 72], argTypes := #[23, 3, 2] }, type := 24, pos := "law.go:80", after := #[{ on := 0, ground := Go.Ground.data }, { on := 2, ground := Go.Ground.data }, { on := 4, ground := Go.Ground.data }], guard := none }) rfl (by rfl) (fun K hK => ?_) ?_
  · go_simp
    refine (pay_dead (HAN.out.grow hS) rfl).mono ?_
    rintro e w7 ⟨rfl, hb7⟩
    refine hK.out _ _ ?_ (fun hS => ?_)
    · exact hS.trans (hb7.mono hS.size)
    clear hK K
    try simp only [Act.put, List.setIfInBounds_toArray, List.set_cons_zero, List.set_cons_succ]
    clear hb7
    refine wpAnyF_ready (rs := [6]) (by kernel_rfl) (by simp) ?_
    refine AllReadyF.cons (o := { dst := some 74, op := Go.Op.call { callee := Go.Callee.value (Go.Operand.func 14), args := #[Go.Operand.tmp 73], argTypes := #[24] }, type := 3, pos := "law.go:80", after := #[{ on := 5, ground := Go.Ground.data }, { on := 5, ground := Go.Ground.chain }], guard := none }) rfl (by rfl) (fun K hK => ?_) ?_
    · go_simp
      refine (num_any _ _).mono ?_
      rintro e w8 ⟨rfl, hw8⟩
      rw [hw8]
      clear hw8
      refine hK.out _ _ ?_ (fun hS => ?_)
      · exact hS
      clear hK K
      try simp only [Act.put, List.setIfInBounds_toArray, List.set_cons_zero, List.set_cons_succ]
      refine wpAnyF_ready (rs := [12]) (by kernel_rfl) (by simp) ?_
      refine AllReadyF.cons (o := { dst := some 80, op := Go.Op.call { callee := Go.Callee.value (Go.Operand.func 47), args := #[Go.Operand.tmp 75, Go.Operand.tmp 77, Go.Operand.tmp 79], argTypes := #[37, 3, 2] }, type := 3, pos := "law.go:80", after := #[{ on := 7, ground := Go.Ground.data }, { on := 9, ground := Go.Ground.data }, { on := 11, ground := Go.Ground.data }, { on := 6, ground := Go.Ground.chain }], guard := none }) rfl (by rfl) (fun K hK => ?_) ?_
      · go_simp
        refine (refPay_none _ _ _).mono ?_
        rintro e w9 ⟨rfl, hw9⟩
        rw [hw9]
        clear hw9
        refine hK.out _ _ ?_ (fun hS => ?_)
        · exact hS
        clear hK K
        try simp only [Act.put, List.setIfInBounds_toArray, List.set_cons_zero, List.set_cons_succ]
        refine wpAnyF_take (i := 13) (oi := { dst := some 81, op := Go.Op.binOp Go.BinOp.eql 3 (Go.Operand.tmp 74) (Go.Operand.tmp 80) 3, type := 4, pos := "law.go:80", after := #[{ on := 6, ground := Go.Ground.data }, { on := 12, ground := Go.Ground.data }], guard := none }) (v := ?_) rfl (by kernel_rfl) (by kernel_rfl) (by kernel_rfl) (by kernel_rfl) (fun _ _ _ h => h) (Or.inl ⟨by rfl, ?_⟩) hS ?_
        rotate_left
        · intro w' hSw; have q3 := (hSw.cell (p := ⟨w.heap.size, 3, none⟩) lx).trans c3; have q4 := (hSw.cell (p := ⟨w.heap.size, 4, none⟩) lx).trans c4; go_simp; try with_reducible rfl
        try simp only [Act.put, List.setIfInBounds_toArray, List.set_cons_zero, List.set_cons_succ]
        refine wpAnyF_take (i := 14) (oi := { dst := some 6, op := Go.Op.assign (Go.Operand.tmp 81), type := 4, pos := "law.go:80", after := #[{ on := 13, ground := Go.Ground.data }, { on := 12, ground := Go.Ground.chain }, { on := 0, ground := Go.Ground.phase }, { on := 1, ground := Go.Ground.phase }, { on := 2, ground := Go.Ground.phase }, { on := 3, ground := Go.Ground.phase }, { on := 4, ground := Go.Ground.phase }, { on := 5, ground := Go.Ground.phase }, { on := 6, ground := Go.Ground.phase }, { on := 7, ground := Go.Ground.phase }, { on := 8, ground := Go.Ground.phase }, { on := 9, ground := Go.Ground.phase }, { on := 10, ground := Go.Ground.phase }, { on := 11, ground := Go.Ground.phase }, { on := 12, ground := Go.Ground.phase }, { on := 13, ground := Go.Ground.phase }], guard := none }) (v := ?_) rfl (by kernel_rfl) (by kernel_rfl) (by kernel_rfl) (by kernel_rfl) (fun _ _ _ h => h) (Or.inl ⟨by rfl, ?_⟩) hS ?_
        rotate_left
        · intro w' hSw; have q3 := (hSw.cell (p := ⟨w.heap.size, 3, none⟩) lx).trans c3; have q4 := (hSw.cell (p := ⟨w.heap.size, 4, none⟩) lx).trans c4; go_simp; try with_reducible rfl
        try simp only [Act.put, List.setIfInBounds_toArray, List.set_cons_zero, List.set_cons_succ]
        refine wpAnyF_done (by kernel_rfl) ?_ _
        go_wp2_with fail
        go_ret
        exact ⟨rfl, Chg.of _ (HB.out.trans (hS.mono HB.out.size)), .nil, ⟨rfl, rfl⟩, rfl⟩
      exact AllReadyF.nil
    exact AllReadyF.nil
  exact AllReadyF.nil

set_option maxRecDepth 100000 in
set_option maxHeartbeats 4000000 in
theorem does_L5 {b m n g : Nat} {a : Acc} {w : World} (h : AccAt w b m n a) (h2 : RefAt w g a) (ho : a.Ok) (hf : a.Fine) (hn : n < maxLen) {who to lot coins : Int} (hs : int64b lot ∧ int64b coins) :
    Calls Try.prog 19 #[.pointer (some ⟨b, 0, none⟩), .pointer (some ⟨g, 0, none⟩), .agg #[.int .i64 5, .int .i64 who, .int .i64 to, .int .i64 lot, .int .i64 coins]] w (DoesP (.pointer (some ⟨b, 0, none⟩)) (.pointer (some ⟨g, 0, none⟩)) b m g n (.live a) w) := by
  obtain ⟨U, hU⟩ : ∃ U, U = w.alloc (.cells #[.int .i64 5, .int .i64 who, .int .i64 to, .int .i64 lot, .int .i64 coins] 45) := ⟨_, rfl⟩
  have hx : Blk U w.heap.size 45 #[.int .i64 5, .int .i64 who, .int .i64 to, .int .i64 lot, .int .i64 coins] := by rw [hU]; exact Blk.new w _ _
  have hB : Below w.heap.size w U := by rw [hU]; exact (Below.refl _ _).alloc (Nat.le_refl _) _
  have c0 : U.cell? ⟨w.heap.size, 0, none⟩ = some (.int .i64 5) := hx.cell 0
  have c3 : U.cell? ⟨w.heap.size, 3, none⟩ = some (.int .i64 lot) := hx.cell 3
  have c4 : U.cell? ⟨w.heap.size, 4, none⟩ = some (.int .i64 coins) := hx.cell 4
  have lx := hx.lt
  have HU := Lib.hid hU
  have HB := Lib.hid hB
  have HX := Lib.hid hs.1
  have HV := Lib.hid hs.2
  have hlb := h.ltb
  have hlm := h.ltm
  have hlg := h2.lt
  have HA := Lib.hid (h.grow hB)
  have HR := Lib.hid (h2.grow hB)
  have HO := Lib.hid ho
  have HF := Lib.hid hf
  have HN := Lib.hid hn
  have HCB := Lib.hid (Chg.of (fun k => (Fm.live a).there = true ∧ (k = m ∨ k = b ∨ k = g)) hB)
  clear hU hx hB h h2 ho hf hn hs
  obtain ⟨en, hen⟩ : ∃ z, z = a.takeE coins := ⟨_, rfl⟩
  have HEN := Lib.hid hen
  clear hen
  go_enter Try.func19, Try.ntmps19
  go_wp2_with fail
  rw [← HU.out]
  refine wp_region_F (Chg (fun k => k = m ∨ k = b ∨ k = g) U) [] (by kernel_rfl) ((Chg.refl _ _).grow (Below.refl _ _).drew) (fun hS => ?_)
  refine wpAnyF_take (i := 0) (oi := { dst := some 84, op := Go.Op.move (Go.Operand.tmp 0), type := 23, pos := "law.go:82", after := #[], guard := none }) (v := ?_) rfl (by kernel_rfl) (by kernel_rfl) (by kernel_rfl) (by kernel_rfl) (fun _ _ _ h => h) (Or.inl ⟨by rfl, ?_⟩) hS ?_
  rotate_left
  · intro w' hSw; have q3 := (World.cell?_of_block (a := ⟨w.heap.size, 3, none⟩) (hSw.block w.heap.size lx (by rintro (e | e | e) <;> omega))).trans c3; have q4 := (World.cell?_of_block (a := ⟨w.heap.size, 4, none⟩) (hSw.block w.heap.size lx (by rintro (e | e | e) <;> omega))).trans c4; go_simp; try with_reducible rfl
  try simp only [Act.put, List.setIfInBounds_toArray, List.set_cons_zero, List.set_cons_succ]
  refine wpAnyF_take (i := 1) (oi := { dst := some 85, op := Go.Op.fieldAddr 45 (Go.Operand.tmp 5) 4, type := 0, pos := "law.go:82", after := #[], guard := none }) (v := ?_) rfl (by kernel_rfl) (by kernel_rfl) (by kernel_rfl) (by kernel_rfl) (fun _ _ _ h => h) (Or.inl ⟨by rfl, ?_⟩) hS ?_
  rotate_left
  · intro w' hSw; have q3 := (World.cell?_of_block (a := ⟨w.heap.size, 3, none⟩) (hSw.block w.heap.size lx (by rintro (e | e | e) <;> omega))).trans c3; have q4 := (World.cell?_of_block (a := ⟨w.heap.size, 4, none⟩) (hSw.block w.heap.size lx (by rintro (e | e | e) <;> omega))).trans c4; go_simp; try with_reducible rfl
  try simp only [Act.put, List.setIfInBounds_toArray, List.set_cons_zero, List.set_cons_succ]
  refine wpAnyF_take (i := 2) (oi := { dst := some 86, op := Go.Op.load 2 (Go.Operand.tmp 85), type := 2, pos := "law.go:82", after := #[{ on := 1, ground := Go.Ground.data }], guard := none }) (v := ?_) rfl (by kernel_rfl) (by kernel_rfl) (by kernel_rfl) (by kernel_rfl) (fun _ _ _ h => h) (Or.inl ⟨by rfl, ?_⟩) hS ?_
  rotate_left
  · intro w' hSw; have q3 := (World.cell?_of_block (a := ⟨w.heap.size, 3, none⟩) (hSw.block w.heap.size lx (by rintro (e | e | e) <;> omega))).trans c3; have q4 := (World.cell?_of_block (a := ⟨w.heap.size, 4, none⟩) (hSw.block w.heap.size lx (by rintro (e | e | e) <;> omega))).trans c4; go_simp; try with_reducible rfl
  try simp only [Act.put, List.setIfInBounds_toArray, List.set_cons_zero, List.set_cons_succ]
  refine wpAnyF_take (i := 5) (oi := { dst := some 89, op := Go.Op.move (Go.Operand.tmp 1), type := 37, pos := "law.go:82", after := #[], guard := none }) (v := ?_) rfl (by kernel_rfl) (by kernel_rfl) (by kernel_rfl) (by kernel_rfl) (fun _ _ _ h => h) (Or.inl ⟨by rfl, ?_⟩) hS ?_
  rotate_left
  · intro w' hSw; have q3 := (World.cell?_of_block (a := ⟨w.heap.size, 3, none⟩) (hSw.block w.heap.size lx (by rintro (e | e | e) <;> omega))).trans c3; have q4 := (World.cell?_of_block (a := ⟨w.heap.size, 4, none⟩) (hSw.block w.heap.size lx (by rintro (e | e | e) <;> omega))).trans c4; go_simp; try with_reducible rfl
  try simp only [Act.put, List.setIfInBounds_toArray, List.set_cons_zero, List.set_cons_succ]
  refine wpAnyF_take (i := 6) (oi := { dst := some 90, op := Go.Op.fieldAddr 45 (Go.Operand.tmp 5) 4, type := 0, pos := "law.go:82", after := #[], guard := none }) (v := ?_) rfl (by kernel_rfl) (by kernel_rfl) (by kernel_rfl) (by kernel_rfl) (fun _ _ _ h => h) (Or.inl ⟨by rfl, ?_⟩) hS ?_
  rotate_left
  · intro w' hSw; have q3 := (World.cell?_of_block (a := ⟨w.heap.size, 3, none⟩) (hSw.block w.heap.size lx (by rintro (e | e | e) <;> omega))).trans c3; have q4 := (World.cell?_of_block (a := ⟨w.heap.size, 4, none⟩) (hSw.block w.heap.size lx (by rintro (e | e | e) <;> omega))).trans c4; go_simp; try with_reducible rfl
  try simp only [Act.put, List.setIfInBounds_toArray, List.set_cons_zero, List.set_cons_succ]
  refine wpAnyF_take (i := 7) (oi := { dst := some 91, op := Go.Op.load 2 (Go.Operand.tmp 90), type := 2, pos := "law.go:82", after := #[{ on := 6, ground := Go.Ground.data }], guard := none }) (v := ?_) rfl (by kernel_rfl) (by kernel_rfl) (by kernel_rfl) (by kernel_rfl) (fun _ _ _ h => h) (Or.inl ⟨by rfl, ?_⟩) hS ?_
  rotate_left
  · intro w' hSw; have q3 := (World.cell?_of_block (a := ⟨w.heap.size, 3, none⟩) (hSw.block w.heap.size lx (by rintro (e | e | e) <;> omega))).trans c3; have q4 := (World.cell?_of_block (a := ⟨w.heap.size, 4, none⟩) (hSw.block w.heap.size lx (by rintro (e | e | e) <;> omega))).trans c4; go_simp; try with_reducible rfl
  try simp only [Act.put, List.setIfInBounds_toArray, List.set_cons_zero, List.set_cons_succ]
  refine wpAnyF_ready (rs := [3]) (by kernel_rfl) (by simp) ?_
  refine AllReadyF.cons (o := { dst := some 87, op := Go.Op.call { callee := Go.Callee.value (Go.Operand.func 48), args := #[Go.Operand.tmp 84, Go.Operand.tmp 86], argTypes := #[23, 2] }, type := 24, pos := "law.go:82", after := #[{ on := 0, ground := Go.Ground.data }, { on := 2, ground := Go.Ground.data }], guard := none }) rfl (by rfl) (fun K hK => ?_) ?_
  · go_simp
    refine (take_one (HA.out.grow (Below.refl _ _).drew) HO.out).mono ?_
    rintro e w7 ⟨rfl, hc7, hn7, hz7⟩
    rw [← HEN.out]
    refine hK.out _ _ ?_ (fun hS => ?_)
    · exact hS.step hc7 (fun _ _ e => e.elim Or.inl (fun e => Or.inr (Or.inl e)))
    clear hK K
    try simp only [Act.put, List.setIfInBounds_toArray, List.set_cons_zero, List.set_cons_succ]
    have HA7 := Lib.hid (both hn7 hz7 : AccAt w7 b m (n + 1) (if a.takeE coins = 0 then a.take coins else a))
    have HR7 := Lib.hid ((HR.out.grow (Below.refl _ _).drew).after (X := fun _ => False) (HA.out.grow (Below.refl _ _).drew) hc7)
    clear hc7 hn7 hz7
    refine wpAnyF_ready (rs := [4]) (by kernel_rfl) (by simp) ?_
    refine AllReadyF.cons (o := { dst := some 88, op := Go.Op.call { callee := Go.Callee.value (Go.Operand.func 14), args := #[Go.Operand.tmp 87], argTypes := #[24] }, type := 3, pos := "law.go:82", after := #[{ on := 3, ground := Go.Ground.data }, { on := 3, ground := Go.Ground.chain }], guard := none }) rfl (by rfl) (fun K hK => ?_) ?_
    · go_simp
      refine (num_any _ _).mono ?_
      rintro e w8 ⟨rfl, hw8⟩
      rw [hw8]
      clear hw8
      refine hK.out _ _ ?_ (fun hS => ?_)
      · exact hS
      clear hK K
      try simp only [Act.put, List.setIfInBounds_toArray, List.set_cons_zero, List.set_cons_succ]
      refine wpAnyF_ready (rs := [8]) (by kernel_rfl) (by simp) ?_
      refine AllReadyF.cons (o := { dst := some 92, op := Go.Op.call { callee := Go.Callee.value (Go.Operand.func 49), args := #[Go.Operand.tmp 89, Go.Operand.tmp 91], argTypes := #[37, 2] }, type := 3, pos := "law.go:82", after := #[{ on := 5, ground := Go.Ground.data }, { on := 7, ground := Go.Ground.data }, { on := 4, ground := Go.Ground.chain }], guard := none }) rfl (by rfl) (fun K hK => ?_) ?_
      · go_simp
        refine (refTake_live HR7.out HO.out).mono ?_
        rintro e w9 ⟨rfl, hc9, hn9, hz9⟩
        rw [← HEN.out]
        refine hK.out _ _ ?_ (fun hS => ?_)
        · exact hS.step hc9 (fun _ _ e => Or.inr (Or.inr e))
        clear hK K
        try simp only [Act.put, List.setIfInBounds_toArray, List.set_cons_zero, List.set_cons_succ]
        have HR9 := Lib.hid (both hn9 hz9 : RefAt w9 g (if a.takeE coins = 0 then a.take coins else a))
        have HA9 := Lib.hid (HA7.out.after HR7.out hc9)
        clear hc9 hn9 hz9
        refine wpAnyF_take (i := 9) (oi := { dst := some 93, op := Go.Op.binOp Go.BinOp.eql 3 (Go.Operand.tmp 88) (Go.Operand.tmp 92) 3, type := 4, pos := "law.go:82", after := #[{ on := 4, ground := Go.Ground.data }, { on := 8, ground := Go.Ground.data }], guard := none }) (v := ?_) rfl (by kernel_rfl) (by kernel_rfl) (by kernel_rfl) (by kernel_rfl) (fun _ _ _ h => h) (Or.inl ⟨by rfl, ?_⟩) hS ?_
        rotate_left
        · intro w' hSw; have q3 := (World.cell?_of_block (a := ⟨w.heap.size, 3, none⟩) (hSw.block w.heap.size lx (by rintro (e | e | e) <;> omega))).trans c3; have q4 := (World.cell?_of_block (a := ⟨w.heap.size, 4, none⟩) (hSw.block w.heap.size lx (by rintro (e | e | e) <;> omega))).trans c4; go_simp; try with_reducible rfl
        try simp only [Act.put, List.setIfInBounds_toArray, List.set_cons_zero, List.set_cons_succ]
        refine wpAnyF_take (i := 10) (oi := { dst := some 6, op := Go.Op.assign (Go.Operand.tmp 93), type := 4, pos := "law.go:82", after := #[{ on := 9, ground := Go.Ground.data }, { on := 8, ground := Go.Ground.chain }, { on := 0, ground := Go.Ground.phase }, { on := 1, ground := Go.Ground.phase }, { on := 2, ground := Go.Ground.phase }, { on := 3, ground := Go.Ground.phase }, { on := 4, ground := Go.Ground.phase }, { on := 5, ground := Go.Ground.phase }, { on := 6, ground := Go.Ground.phase }, { on := 7, ground := Go.Ground.phase }, { on := 8, ground := Go.Ground.phase }, { on := 9, ground := Go.Ground.phase }], guard := none }) (v := ?_) rfl (by kernel_rfl) (by kernel_rfl) (by kernel_rfl) (by kernel_rfl) (fun _ _ _ h => h) (Or.inl ⟨by rfl, ?_⟩) hS ?_
        rotate_left
        · intro w' hSw; have q3 := (World.cell?_of_block (a := ⟨w.heap.size, 3, none⟩) (hSw.block w.heap.size lx (by rintro (e | e | e) <;> omega))).trans c3; have q4 := (World.cell?_of_block (a := ⟨w.heap.size, 4, none⟩) (hSw.block w.heap.size lx (by rintro (e | e | e) <;> omega))).trans c4; go_simp; try with_reducible rfl
        try simp only [Act.put, List.setIfInBounds_toArray, List.set_cons_zero, List.set_cons_succ]
        refine wpAnyF_done (by kernel_rfl) ?_ _
        go_wp2_with fail
        go_ret
        have hk := both (P := fun x => x.Ok ∧ x.Fine) (E := a.takeE coins) (a := a) (a' := a.take coins) (fun _ => ⟨HO.out, HF.out⟩) (fun h => take_keeps HO.out HF.out h)
        exact ⟨rfl, HCB.out.step hS (fun _ _ e => ⟨rfl, e⟩), .live _, ⟨rfl, rfl, HA9.out, HR9.out, hk.1, hk.2⟩, rfl⟩
      exact AllReadyF.nil
    exact AllReadyF.nil
  exact AllReadyF.nil

set_option maxRecDepth 100000 in
set_option maxHeartbeats 4000000 in
theorem does_N5 {b m n g : Nat} {w : World} {who to lot coins : Int} (hs : int64b lot ∧ int64b coins) :
    Calls Try.prog 19 #[.pointer none, .pointer none, .agg #[.int .i64 5, .int .i64 who, .int .i64 to, .int .i64 lot, .int .i64 coins]] w (DoesP (.pointer none) (.pointer none) b m g n .nil w) := by
  obtain ⟨U, hU⟩ : ∃ U, U = w.alloc (.cells #[.int .i64 5, .int .i64 who, .int .i64 to, .int .i64 lot, .int .i64 coins] 45) := ⟨_, rfl⟩
  have hx : Blk U w.heap.size 45 #[.int .i64 5, .int .i64 who, .int .i64 to, .int .i64 lot, .int .i64 coins] := by rw [hU]; exact Blk.new w _ _
  have hB : Below w.heap.size w U := by rw [hU]; exact (Below.refl _ _).alloc (Nat.le_refl _) _
  have c0 : U.cell? ⟨w.heap.size, 0, none⟩ = some (.int .i64 5) := hx.cell 0
  have c3 : U.cell? ⟨w.heap.size, 3, none⟩ = some (.int .i64 lot) := hx.cell 3
  have c4 : U.cell? ⟨w.heap.size, 4, none⟩ = some (.int .i64 coins) := hx.cell 4
  have lx := hx.lt
  have HU := Lib.hid hU
  have HB := Lib.hid hB
  have HX := Lib.hid hs.1
  have HV := Lib.hid hs.2
  have HAN := Lib.hid (show AtP U (.pointer none) .nil from rfl)
  clear hU hx hB hs
  go_enter Try.func19, Try.ntmps19
  go_wp2_with fail
  rw [← HU.out]
  refine wp_region_F (Below U.heap.size U) [] (by kernel_rfl) ((Below.refl _ _).drew) (fun hS => ?_)
  refine wpAnyF_take (i := 0) (oi := { dst := some 84, op := Go.Op.move (Go.Operand.tmp 0), type := 23, pos := "law.go:82", after := #[], guard := none }) (v := ?_) rfl (by kernel_rfl) (by kernel_rfl) (by kernel_rfl) (by kernel_rfl) (fun _ _ _ h => h) (Or.inl ⟨by rfl, ?_⟩) hS ?_
  rotate_left
  · intro w' hSw; have q3 := (hSw.cell (p := ⟨w.heap.size, 3, none⟩) lx).trans c3; have q4 := (hSw.cell (p := ⟨w.heap.size, 4, none⟩) lx).trans c4; go_simp; try with_reducible rfl
  try simp only [Act.put, List.setIfInBounds_toArray, List.set_cons_zero, List.set_cons_succ]
  refine wpAnyF_take (i := 1) (oi := { dst := some 85, op := Go.Op.fieldAddr 45 (Go.Operand.tmp 5) 4, type := 0, pos := "law.go:82", after := #[], guard := none }) (v := ?_) rfl (by kernel_rfl) (by kernel_rfl) (by kernel_rfl) (by kernel_rfl) (fun _ _ _ h => h) (Or.inl ⟨by rfl, ?_⟩) hS ?_
  rotate_left
  · intro w' hSw; have q3 := (hSw.cell (p := ⟨w.heap.size, 3, none⟩) lx).trans c3; have q4 := (hSw.cell (p := ⟨w.heap.size, 4, none⟩) lx).trans c4; go_simp; try with_reducible rfl
  try simp only [Act.put, List.setIfInBounds_toArray, List.set_cons_zero, List.set_cons_succ]
  refine wpAnyF_take (i := 2) (oi := { dst := some 86, op := Go.Op.load 2 (Go.Operand.tmp 85), type := 2, pos := "law.go:82", after := #[{ on := 1, ground := Go.Ground.data }], guard := none }) (v := ?_) rfl (by kernel_rfl) (by kernel_rfl) (by kernel_rfl) (by kernel_rfl) (fun _ _ _ h => h) (Or.inl ⟨by rfl, ?_⟩) hS ?_
  rotate_left
  · intro w' hSw; have q3 := (hSw.cell (p := ⟨w.heap.size, 3, none⟩) lx).trans c3; have q4 := (hSw.cell (p := ⟨w.heap.size, 4, none⟩) lx).trans c4; go_simp; try with_reducible rfl
  try simp only [Act.put, List.setIfInBounds_toArray, List.set_cons_zero, List.set_cons_succ]
  refine wpAnyF_take (i := 5) (oi := { dst := some 89, op := Go.Op.move (Go.Operand.tmp 1), type := 37, pos := "law.go:82", after := #[], guard := none }) (v := ?_) rfl (by kernel_rfl) (by kernel_rfl) (by kernel_rfl) (by kernel_rfl) (fun _ _ _ h => h) (Or.inl ⟨by rfl, ?_⟩) hS ?_
  rotate_left
  · intro w' hSw; have q3 := (hSw.cell (p := ⟨w.heap.size, 3, none⟩) lx).trans c3; have q4 := (hSw.cell (p := ⟨w.heap.size, 4, none⟩) lx).trans c4; go_simp; try with_reducible rfl
  try simp only [Act.put, List.setIfInBounds_toArray, List.set_cons_zero, List.set_cons_succ]
  refine wpAnyF_take (i := 6) (oi := { dst := some 90, op := Go.Op.fieldAddr 45 (Go.Operand.tmp 5) 4, type := 0, pos := "law.go:82", after := #[], guard := none }) (v := ?_) rfl (by kernel_rfl) (by kernel_rfl) (by kernel_rfl) (by kernel_rfl) (fun _ _ _ h => h) (Or.inl ⟨by rfl, ?_⟩) hS ?_
  rotate_left
  · intro w' hSw; have q3 := (hSw.cell (p := ⟨w.heap.size, 3, none⟩) lx).trans c3; have q4 := (hSw.cell (p := ⟨w.heap.size, 4, none⟩) lx).trans c4; go_simp; try with_reducible rfl
  try simp only [Act.put, List.setIfInBounds_toArray, List.set_cons_zero, List.set_cons_succ]
  refine wpAnyF_take (i := 7) (oi := { dst := some 91, op := Go.Op.load 2 (Go.Operand.tmp 90), type := 2, pos := "law.go:82", after := #[{ on := 6, ground := Go.Ground.data }], guard := none }) (v := ?_) rfl (by kernel_rfl) (by kernel_rfl) (by kernel_rfl) (by kernel_rfl) (fun _ _ _ h => h) (Or.inl ⟨by rfl, ?_⟩) hS ?_
  rotate_left
  · intro w' hSw; have q3 := (hSw.cell (p := ⟨w.heap.size, 3, none⟩) lx).trans c3; have q4 := (hSw.cell (p := ⟨w.heap.size, 4, none⟩) lx).trans c4; go_simp; try with_reducible rfl
  try simp only [Act.put, List.setIfInBounds_toArray, List.set_cons_zero, List.set_cons_succ]
  refine wpAnyF_ready (rs := [3]) (by kernel_rfl) (by simp) ?_
  refine AllReadyF.cons (o := { dst := some 87, op := Go.Op.call { callee := Go.Callee.value (Go.Operand.func 48), args := #[Go.Operand.tmp 84, Go.Operand.tmp 86], argTypes := #[23, 2] }, type := 24, pos := "law.go:82", after := #[{ on := 0, ground := Go.Ground.data }, { on := 2, ground := Go.Ground.data }], guard := none }) rfl (by rfl) (fun K hK => ?_) ?_
  · go_simp
    refine (take_dead (HAN.out.grow hS) rfl).mono ?_
    rintro e w7 ⟨rfl, hb7⟩
    refine hK.out _ _ ?_ (fun hS => ?_)
    · exact hS.trans (hb7.mono hS.size)
    clear hK K
    try simp only [Act.put, List.setIfInBounds_toArray, List.set_cons_zero, List.set_cons_succ]
    clear hb7
    refine wpAnyF_ready (rs := [4]) (by kernel_rfl) (by simp) ?_
    refine AllReadyF.cons (o := { dst := some 88, op := Go.Op.call { callee := Go.Callee.value (Go.Operand.func 14), args := #[Go.Operand.tmp 87], argTypes := #[24] }, type := 3, pos := "law.go:82", after := #[{ on := 3, ground := Go.Ground.data }, { on := 3, ground := Go.Ground.chain }], guard := none }) rfl (by rfl) (fun K hK => ?_) ?_
    · go_simp
      refine (num_any _ _).mono ?_
      rintro e w8 ⟨rfl, hw8⟩
      rw [hw8]
      clear hw8
      refine hK.out _ _ ?_ (fun hS => ?_)
      · exact hS
      clear hK K
      try simp only [Act.put, List.setIfInBounds_toArray, List.set_cons_zero, List.set_cons_succ]
      refine wpAnyF_ready (rs := [8]) (by kernel_rfl) (by simp) ?_
      refine AllReadyF.cons (o := { dst := some 92, op := Go.Op.call { callee := Go.Callee.value (Go.Operand.func 49), args := #[Go.Operand.tmp 89, Go.Operand.tmp 91], argTypes := #[37, 2] }, type := 3, pos := "law.go:82", after := #[{ on := 5, ground := Go.Ground.data }, { on := 7, ground := Go.Ground.data }, { on := 4, ground := Go.Ground.chain }], guard := none }) rfl (by rfl) (fun K hK => ?_) ?_
      · go_simp
        refine (refTake_none 0 _ _).mono ?_
        rintro e w9 ⟨rfl, hw9⟩
        rw [hw9]
        clear hw9
        refine hK.out _ _ ?_ (fun hS => ?_)
        · exact hS
        clear hK K
        try simp only [Act.put, List.setIfInBounds_toArray, List.set_cons_zero, List.set_cons_succ]
        refine wpAnyF_take (i := 9) (oi := { dst := some 93, op := Go.Op.binOp Go.BinOp.eql 3 (Go.Operand.tmp 88) (Go.Operand.tmp 92) 3, type := 4, pos := "law.go:82", after := #[{ on := 4, ground := Go.Ground.data }, { on := 8, ground := Go.Ground.data }], guard := none }) (v := ?_) rfl (by kernel_rfl) (by kernel_rfl) (by kernel_rfl) (by kernel_rfl) (fun _ _ _ h => h) (Or.inl ⟨by rfl, ?_⟩) hS ?_
        rotate_left
        · intro w' hSw; have q3 := (hSw.cell (p := ⟨w.heap.size, 3, none⟩) lx).trans c3; have q4 := (hSw.cell (p := ⟨w.heap.size, 4, none⟩) lx).trans c4; go_simp; try with_reducible rfl
        try simp only [Act.put, List.setIfInBounds_toArray, List.set_cons_zero, List.set_cons_succ]
        refine wpAnyF_take (i := 10) (oi := { dst := some 6, op := Go.Op.assign (Go.Operand.tmp 93), type := 4, pos := "law.go:82", after := #[{ on := 9, ground := Go.Ground.data }, { on := 8, ground := Go.Ground.chain }, { on := 0, ground := Go.Ground.phase }, { on := 1, ground := Go.Ground.phase }, { on := 2, ground := Go.Ground.phase }, { on := 3, ground := Go.Ground.phase }, { on := 4, ground := Go.Ground.phase }, { on := 5, ground := Go.Ground.phase }, { on := 6, ground := Go.Ground.phase }, { on := 7, ground := Go.Ground.phase }, { on := 8, ground := Go.Ground.phase }, { on := 9, ground := Go.Ground.phase }], guard := none }) (v := ?_) rfl (by kernel_rfl) (by kernel_rfl) (by kernel_rfl) (by kernel_rfl) (fun _ _ _ h => h) (Or.inl ⟨by rfl, ?_⟩) hS ?_
        rotate_left
        · intro w' hSw; have q3 := (hSw.cell (p := ⟨w.heap.size, 3, none⟩) lx).trans c3; have q4 := (hSw.cell (p := ⟨w.heap.size, 4, none⟩) lx).trans c4; go_simp; try with_reducible rfl
        try simp only [Act.put, List.setIfInBounds_toArray, List.set_cons_zero, List.set_cons_succ]
        refine wpAnyF_done (by kernel_rfl) ?_ _
        go_wp2_with fail
        go_ret
        exact ⟨rfl, Chg.of _ (HB.out.trans (hS.mono HB.out.size)), .nil, ⟨rfl, rfl⟩, rfl⟩
      exact AllReadyF.nil
    exact AllReadyF.nil
  exact AllReadyF.nil

set_option maxRecDepth 100000 in
set_option maxHeartbeats 4000000 in
theorem does_L3 {b m n g : Nat} {a : Acc} {w : World} (h : AccAt w b m n a) (h2 : RefAt w g a) (ho : a.Ok) (hf : a.Fine) (hn : n < maxLen) {who to lot coins : Int} (hs : int64b lot ∧ int64b coins) :
    Calls Try.prog 19 #[.pointer (some ⟨b, 0, none⟩), .pointer (some ⟨g, 0, none⟩), .agg #[.int .i64 3, .int .i64 who, .int .i64 to, .int .i64 lot, .int .i64 coins]] w (DoesP (.pointer (some ⟨b, 0, none⟩)) (.pointer (some ⟨g, 0, none⟩)) b m g n (.live a) w) := by
  obtain ⟨U, hU⟩ : ∃ U, U = w.alloc (.cells #[.int .i64 3, .int .i64 who, .int .i64 to, .int .i64 lot, .int .i64 coins] 45) := ⟨_, rfl⟩
  have hx : Blk U w.heap.size 45 #[.int .i64 3, .int .i64 who, .int .i64 to, .int .i64 lot, .int .i64 coins] := by rw [hU]; exact Blk.new w _ _
  have hB : Below w.heap.size w U := by rw [hU]; exact (Below.refl _ _).alloc (Nat.le_refl _) _
  have c0 : U.cell? ⟨w.heap.size, 0, none⟩ = some (.int .i64 3) := hx.cell 0
  have c3 : U.cell? ⟨w.heap.size, 3, none⟩ = some (.int .i64 lot) := hx.cell 3
  have c4 : U.cell? ⟨w.heap.size, 4, none⟩ = some (.int .i64 coins) := hx.cell 4
  have lx := hx.lt
  have HU := Lib.hid hU
  have HB := Lib.hid hB
  have HX := Lib.hid hs.1
  have HV := Lib.hid hs.2
  have hlb := h.ltb
  have hlm := h.ltm
  have hlg := h2.lt
  have HA := Lib.hid (h.grow hB)
  have HR := Lib.hid (h2.grow hB)
  have HO := Lib.hid ho
  have HF := Lib.hid hf
  have HN := Lib.hid hn
  have HCB := Lib.hid (Chg.of (fun k => (Fm.live a).there = true ∧ (k = m ∨ k = b ∨ k = g)) hB)
  clear hU hx hB h h2 ho hf hn hs
  obtain ⟨en, hen⟩ : ∃ z, z = relE lot := ⟨_, rfl⟩
  have HEN := Lib.hid hen
  obtain ⟨at_, hat⟩ : ∃ z, z = atM a.M lot := ⟨_, rfl⟩
  have HAT := Lib.hid hat
  clear hen hat
  go_enter Try.func19, Try.ntmps19
  go_wp2_with fail
  rw [← HU.out]
  refine (release_one HA.out HN.out HX.out).mono ?_
  rintro e w7 ⟨rfl, hc7, hn7, hz7⟩
  rw [← HEN.out, ← HAT.out]
  have HA7 := Lib.hid (both hn7 hz7 : AccAt w7 b m (n + 1) (if relE lot = 0 then a.set lot 0 else a))
  have HR7 := Lib.hid (HR.out.after (X := fun _ => False) HA.out hc7)
  have HC7 := Lib.hid (HCB.out.step hc7 (fun k _ e => ⟨rfl, e.elim Or.inl (fun e => Or.inr (Or.inl e))⟩))
  have q3 : w7.cell? ⟨w.heap.size, 3, none⟩ = some (.int .i64 lot) := (World.cell?_of_block (a := ⟨w.heap.size, 3, none⟩) (hc7.block w.heap.size lx (by rintro (e | e) <;> omega))).trans c3
  clear hc7 hn7 hz7
  go_wp2_with fail
  refine (refRelease_live HR7.out HO.out).mono ?_
  rintro e w9 ⟨rfl, hc9, hn9, hz9⟩
  rw [← HEN.out, ← HAT.out]
  have HR9 := Lib.hid (both hn9 hz9 : RefAt w9 g (if relE lot = 0 then a.set lot 0 else a))
  have HA9 := Lib.hid (HA7.out.after HR7.out hc9)
  have HC9 := Lib.hid (HC7.out.step hc9 (fun k _ e => ⟨rfl, Or.inr (Or.inr e)⟩))
  clear hc9 hn9 hz9
  go_wp2_with fail
  refine (num_any _ _).mono ?_
  rintro e w8 ⟨rfl, hw8⟩
  rw [hw8]
  clear hw8
  go_wp2_with fail
  go_ret
  have hk := both (P := fun x => x.Ok ∧ x.Fine) (E := relE lot) (a := a) (a' := a.set lot 0) (fun _ => ⟨HO.out, HF.out⟩) (fun h => release_keeps HO.out HF.out (by unfold relE at h; split at h <;> omega) HX.out.2)
  exact ⟨rfl, HC9.out, .live _, ⟨rfl, rfl, HA9.out, HR9.out, hk.1, hk.2⟩, rfl⟩

set_option maxRecDepth 100000 in
set_option maxHeartbeats 4000000 in
theorem does_N3 {b m n g : Nat} {w : World} {who to lot coins : Int} (hs : int64b lot ∧ int64b coins) :
    Calls Try.prog 19 #[.pointer none, .pointer none, .agg #[.int .i64 3, .int .i64 who, .int .i64 to, .int .i64 lot, .int .i64 coins]] w (DoesP (.pointer none) (.pointer none) b m g n .nil w) := by
  obtain ⟨U, hU⟩ : ∃ U, U = w.alloc (.cells #[.int .i64 3, .int .i64 who, .int .i64 to, .int .i64 lot, .int .i64 coins] 45) := ⟨_, rfl⟩
  have hx : Blk U w.heap.size 45 #[.int .i64 3, .int .i64 who, .int .i64 to, .int .i64 lot, .int .i64 coins] := by rw [hU]; exact Blk.new w _ _
  have hB : Below w.heap.size w U := by rw [hU]; exact (Below.refl _ _).alloc (Nat.le_refl _) _
  have c0 : U.cell? ⟨w.heap.size, 0, none⟩ = some (.int .i64 3) := hx.cell 0
  have c3 : U.cell? ⟨w.heap.size, 3, none⟩ = some (.int .i64 lot) := hx.cell 3
  have c4 : U.cell? ⟨w.heap.size, 4, none⟩ = some (.int .i64 coins) := hx.cell 4
  have lx := hx.lt
  have HU := Lib.hid hU
  have HB := Lib.hid hB
  have HX := Lib.hid hs.1
  have HV := Lib.hid hs.2
  have HAN := Lib.hid (show AtP U (.pointer none) .nil from rfl)
  clear hU hx hB hs
  go_enter Try.func19, Try.ntmps19
  go_wp2_with fail
  rw [← HU.out]
  refine (release_dead HAN.out rfl HX.out).mono ?_
  rintro e w7 ⟨rfl, hb7⟩
  have HB7 := Lib.hid (HB.out.trans (hb7.mono HB.out.size))
  have q3 : w7.cell? ⟨w.heap.size, 3, none⟩ = some (.int .i64 lot) := (hb7.cell (p := ⟨w.heap.size, 3, none⟩) lx).trans c3
  clear hb7
  go_wp2_with fail
  refine (refRelease_none lot 0 _).mono ?_
  rintro e w9 ⟨rfl, hw9⟩
  rw [hw9]
  clear hw9
  go_wp2_with fail
  refine (num_any _ _).mono ?_
  rintro e w8 ⟨rfl, hw8⟩
  rw [hw8]
  clear hw8
  go_wp2_with fail
  go_ret
  exact ⟨rfl, Chg.of _ HB7.out, .nil, ⟨rfl, rfl⟩, rfl⟩

set_option maxRecDepth 100000 in
set_option maxHeartbeats 4000000 in
theorem does_L6 {b m n g : Nat} {a : Acc} {w : World} (h : AccAt w b m n a) (h2 : RefAt w g a) (ho : a.Ok) (hf : a.Fine) (hn : n < maxLen) {who to lot coins : Int} (hs : int64b lot ∧ int64b coins) :
    Calls Try.prog 19 #[.pointer (some ⟨b, 0, none⟩), .pointer (some ⟨g, 0, none⟩), .agg #[.int .i64 6, .int .i64 who, .int .i64 to, .int .i64 lot, .int .i64 coins]] w (DoesP (.pointer (some ⟨b, 0, none⟩)) (.pointer (some ⟨g, 0, none⟩)) b m g n (.live a) w) := by
  obtain ⟨U, hU⟩ : ∃ U, U = w.alloc (.cells #[.int .i64 6, .int .i64 who, .int .i64 to, .int .i64 lot, .int .i64 coins] 45) := ⟨_, rfl⟩
  have hx : Blk U w.heap.size 45 #[.int .i64 6, .int .i64 who, .int .i64 to, .int .i64 lot, .int .i64 coins] := by rw [hU]; exact Blk.new w _ _
  have hB : Below w.heap.size w U := by rw [hU]; exact (Below.refl _ _).alloc (Nat.le_refl _) _
  have c0 : U.cell? ⟨w.heap.size, 0, none⟩ = some (.int .i64 6) := hx.cell 0
  have c3 : U.cell? ⟨w.heap.size, 3, none⟩ = some (.int .i64 lot) := hx.cell 3
  have c4 : U.cell? ⟨w.heap.size, 4, none⟩ = some (.int .i64 coins) := hx.cell 4
  have lx := hx.lt
  have HU := Lib.hid hU
  have HB := Lib.hid hB
  have HX := Lib.hid hs.1
  have HV := Lib.hid hs.2
  have hlb := h.ltb
  have hlm := h.ltm
  have hlg := h2.lt
  have HA := Lib.hid (h.grow hB)
  have HR := Lib.hid (h2.grow hB)
  have HO := Lib.hid ho
  have HF := Lib.hid hf
  have HN := Lib.hid hn
  have HCB := Lib.hid (Chg.of (fun k => (Fm.live a).there = true ∧ (k = m ∨ k = b ∨ k = g)) hB)
  clear hU hx hB h h2 ho hf hn hs
  obtain ⟨cn, hcn⟩ : ∃ z, z = decide (a.holdE lot coins = 0) := ⟨_, rfl⟩
  have HCN := Lib.hid hcn
  clear hcn
  go_enter Try.func19, Try.ntmps19
  go_wp2_with fail
  rw [← HU.out]
  refine wp_region_F (Below U.heap.size U) [] (by kernel_rfl) ((Below.refl _ _).drew) (fun hS => ?_)
  refine wpAnyF_take (i := 0) (oi := { dst := some 96, op := Go.Op.move (Go.Operand.tmp 0), type := 23, pos := "law.go:84", after := #[], guard := none }) (v := ?_) rfl (by kernel_rfl) (by kernel_rfl) (by kernel_rfl) (by kernel_rfl) (fun _ _ _ h => h) (Or.inl ⟨by rfl, ?_⟩) hS ?_
  rotate_left
  · intro w' hSw; have q3 := (hSw.cell (p := ⟨w.heap.size, 3, none⟩) lx).trans c3; have q4 := (hSw.cell (p := ⟨w.heap.size, 4, none⟩) lx).trans c4; go_simp; try with_reducible rfl
  try simp only [Act.put, List.setIfInBounds_toArray, List.set_cons_zero, List.set_cons_succ]
  refine wpAnyF_take (i := 1) (oi := { dst := some 97, op := Go.Op.fieldAddr 45 (Go.Operand.tmp 5) 3, type := 0, pos := "law.go:84", after := #[], guard := none }) (v := ?_) rfl (by kernel_rfl) (by kernel_rfl) (by kernel_rfl) (by kernel_rfl) (fun _ _ _ h => h) (Or.inl ⟨by rfl, ?_⟩) hS ?_
  rotate_left
  · intro w' hSw; have q3 := (hSw.cell (p := ⟨w.heap.size, 3, none⟩) lx).trans c3; have q4 := (hSw.cell (p := ⟨w.heap.size, 4, none⟩) lx).trans c4; go_simp; try with_reducible rfl
  try simp only [Act.put, List.setIfInBounds_toArray, List.set_cons_zero, List.set_cons_succ]
  refine wpAnyF_take (i := 2) (oi := { dst := some 98, op := Go.Op.load 3 (Go.Operand.tmp 97), type := 3, pos := "law.go:84", after := #[{ on := 1, ground := Go.Ground.data }], guard := none }) (v := ?_) rfl (by kernel_rfl) (by kernel_rfl) (by kernel_rfl) (by kernel_rfl) (fun _ _ _ h => h) (Or.inl ⟨by rfl, ?_⟩) hS ?_
  rotate_left
  · intro w' hSw; have q3 := (hSw.cell (p := ⟨w.heap.size, 3, none⟩) lx).trans c3; have q4 := (hSw.cell (p := ⟨w.heap.size, 4, none⟩) lx).trans c4; go_simp; try with_reducible rfl
  try simp only [Act.put, List.setIfInBounds_toArray, List.set_cons_zero, List.set_cons_succ]
  refine wpAnyF_take (i := 3) (oi := { dst := some 99, op := Go.Op.fieldAddr 45 (Go.Operand.tmp 5) 4, type := 0, pos := "law.go:84", after := #[], guard := none }) (v := ?_) rfl (by kernel_rfl) (by kernel_rfl) (by kernel_rfl) (by kernel_rfl) (fun _ _ _ h => h) (Or.inl ⟨by rfl, ?_⟩) hS ?_
  rotate_left
  · intro w' hSw; have q3 := (hSw.cell (p := ⟨w.heap.size, 3, none⟩) lx).trans c3; have q4 := (hSw.cell (p := ⟨w.heap.size, 4, none⟩) lx).trans c4; go_simp; try with_reducible rfl
  try simp only [Act.put, List.setIfInBounds_toArray, List.set_cons_zero, List.set_cons_succ]
  refine wpAnyF_take (i := 4) (oi := { dst := some 100, op := Go.Op.load 2 (Go.Operand.tmp 99), type := 2, pos := "law.go:84", after := #[{ on := 3, ground := Go.Ground.data }], guard := none }) (v := ?_) rfl (by kernel_rfl) (by kernel_rfl) (by kernel_rfl) (by kernel_rfl) (fun _ _ _ h => h) (Or.inl ⟨by rfl, ?_⟩) hS ?_
  rotate_left
  · intro w' hSw; have q3 := (hSw.cell (p := ⟨w.heap.size, 3, none⟩) lx).trans c3; have q4 := (hSw.cell (p := ⟨w.heap.size, 4, none⟩) lx).trans c4; go_simp; try with_reducible rfl
  try simp only [Act.put, List.setIfInBounds_toArray, List.set_cons_zero, List.set_cons_succ]
  refine wpAnyF_take (i := 6) (oi := { dst := some 102, op := Go.Op.move (Go.Operand.tmp 1), type := 37, pos := "law.go:84", after := #[], guard := none }) (v := ?_) rfl (by kernel_rfl) (by kernel_rfl) (by kernel_rfl) (by kernel_rfl) (fun _ _ _ h => h) (Or.inl ⟨by rfl, ?_⟩) hS ?_
  rotate_left
  · intro w' hSw; have q3 := (hSw.cell (p := ⟨w.heap.size, 3, none⟩) lx).trans c3; have q4 := (hSw.cell (p := ⟨w.heap.size, 4, none⟩) lx).trans c4; go_simp; try with_reducible rfl
  try simp only [Act.put, List.setIfInBounds_toArray, List.set_cons_zero, List.set_cons_succ]
  refine wpAnyF_take (i := 7) (oi := { dst := some 103, op := Go.Op.fieldAddr 45 (Go.Operand.tmp 5) 3, type := 0, pos := "law.go:84", after := #[], guard := none }) (v := ?_) rfl (by kernel_rfl) (by kernel_rfl) (by kernel_rfl) (by kernel_rfl) (fun _ _ _ h => h) (Or.inl ⟨by rfl, ?_⟩) hS ?_
  rotate_left
  · intro w' hSw; have q3 := (hSw.cell (p := ⟨w.heap.size, 3, none⟩) lx).trans c3; have q4 := (hSw.cell (p := ⟨w.heap.size, 4, none⟩) lx).trans c4; go_simp; try with_reducible rfl
  try simp only [Act.put, List.setIfInBounds_toArray, List.set_cons_zero, List.set_cons_succ]
  refine wpAnyF_take (i := 8) (oi := { dst := some 104, op := Go.Op.load 3 (Go.Operand.tmp 103), type := 3, pos := "law.go:84", after := #[{ on := 7, ground := Go.Ground.data }], guard := none }) (v := ?_) rfl (by kernel_rfl) (by kernel_rfl) (by kernel_rfl) (by kernel_rfl) (fun _ _ _ h => h) (Or.inl ⟨by rfl, ?_⟩) hS ?_
  rotate_left
  · intro w' hSw; have q3 := (hSw.cell (p := ⟨w.heap.size, 3, none⟩) lx).trans c3; have q4 := (hSw.cell (p := ⟨w.heap.size, 4, none⟩) lx).trans c4; go_simp; try with_reducible rfl
  try simp only [Act.put, List.setIfInBounds_toArray, List.set_cons_zero, List.set_cons_succ]
  refine wpAnyF_take (i := 9) (oi := { dst := some 105, op := Go.Op.fieldAddr 45 (Go.Operand.tmp 5) 4, type := 0, pos := "law.go:84", after := #[], guard := none }) (v := ?_) rfl (by kernel_rfl) (by kernel_rfl) (by kernel_rfl) (by kernel_rfl) (fun _ _ _ h => h) (Or.inl ⟨by rfl, ?_⟩) hS ?_
  rotate_left
  · intro w' hSw; have q3 := (hSw.cell (p := ⟨w.heap.size, 3, none⟩) lx).trans c3; have q4 := (hSw.cell (p := ⟨w.heap.size, 4, none⟩) lx).trans c4; go_simp; try with_reducible rfl
  try simp only [Act.put, List.setIfInBounds_toArray, List.set_cons_zero, List.set_cons_succ]
  refine wpAnyF_take (i := 10) (oi := { dst := some 106, op := Go.Op.load 2 (Go.Operand.tmp 105), type := 2, pos := "law.go:84", after := #[{ on := 9, ground := Go.Ground.data }], guard := none }) (v := ?_) rfl (by kernel_rfl) (by kernel_rfl) (by kernel_rfl) (by kernel_rfl) (fun _ _ _ h => h) (Or.inl ⟨by rfl, ?_⟩) hS ?_
  rotate_left
  · intro w' hSw; have q3 := (hSw.cell (p := ⟨w.heap.size, 3, none⟩) lx).trans c3; have q4 := (hSw.cell (p := ⟨w.heap.size, 4, none⟩) lx).trans c4; go_simp; try with_reducible rfl
  try simp only [Act.put, List.setIfInBounds_toArray, List.set_cons_zero, List.set_cons_succ]
  refine wpAnyF_ready (rs := [5]) (by kernel_rfl) (by simp) ?_
  refine AllReadyF.cons (o := { dst := some 101, op := Go.Op.call { callee := Go.Callee.value (Go.Operand.func 27), args := #[Go.Operand.tmp 96, Go.Operand.tmp 98, Go.Operand.tmp 100], argTypes := #[23, 3, 2] }, type := 4, pos := "law.go:84", after := #[{ on := 0, ground := Go.Ground.data }, { on := 2, ground := Go.Ground.data }, { on := 4, ground := Go.Ground.data }], guard := none }) rfl (by rfl) (fun K hK => ?_) ?_
  · go_simp
    refine (can_live (HA.out.grow hS) HO.out HX.out).mono ?_
    rintro e w7 ⟨rfl, hb7⟩
    rw [← HCN.out]
    refine hK.out _ _ ?_ (fun hS => ?_)
    · exact hS.trans (hb7.mono hS.size)
    clear hK K
    try simp only [Act.put, List.setIfInBounds_toArray, List.set_cons_zero, List.set_cons_succ]
    clear hb7
    refine wpAnyF_ready (rs := [11]) (by kernel_rfl) (by simp) ?_
    refine AllReadyF.cons (o := { dst := some 107, op := Go.Op.call { callee := Go.Callee.value (Go.Operand.func 50), args := #[Go.Operand.tmp 102, Go.Operand.tmp 104, Go.Operand.tmp 106], argTypes := #[37, 3, 2] }, type := 4, pos := "law.go:84", after := #[{ on := 6, ground := Go.Ground.data }, { on := 8, ground := Go.Ground.data }, { on := 10, ground := Go.Ground.data }, { on := 5, ground := Go.Ground.chain }], guard := none }) rfl (by rfl) (fun K hK => ?_) ?_
    · go_simp
      refine (refCan_live (HR.out.grow hS) HO.out).mono ?_
      rintro e w9 ⟨rfl, hb9⟩
      rw [← HCN.out]
      refine hK.out _ _ ?_ (fun hS => ?_)
      · exact hS.trans (hb9.mono hS.size)
      clear hK K
      try simp only [Act.put, List.setIfInBounds_toArray, List.set_cons_zero, List.set_cons_succ]
      clear hb9
      refine wpAnyF_take (i := 12) (oi := { dst := some 108, op := Go.Op.binOp Go.BinOp.eql 4 (Go.Operand.tmp 101) (Go.Operand.tmp 107) 4, type := 4, pos := "law.go:84", after := #[{ on := 5, ground := Go.Ground.data }, { on := 11, ground := Go.Ground.data }], guard := none }) (v := ?_) rfl (by kernel_rfl) (by kernel_rfl) (by kernel_rfl) (by kernel_rfl) (fun _ _ _ h => h) (Or.inl ⟨by rfl, ?_⟩) hS ?_
      rotate_left
      · intro w' hSw; have q3 := (hSw.cell (p := ⟨w.heap.size, 3, none⟩) lx).trans c3; have q4 := (hSw.cell (p := ⟨w.heap.size, 4, none⟩) lx).trans c4; go_simp; try with_reducible rfl
      try simp only [Act.put, List.setIfInBounds_toArray, List.set_cons_zero, List.set_cons_succ]
      refine wpAnyF_take (i := 13) (oi := { dst := some 6, op := Go.Op.assign (Go.Operand.tmp 108), type := 4, pos := "law.go:84", after := #[{ on := 12, ground := Go.Ground.data }, { on := 11, ground := Go.Ground.chain }, { on := 0, ground := Go.Ground.phase }, { on := 1, ground := Go.Ground.phase }, { on := 2, ground := Go.Ground.phase }, { on := 3, ground := Go.Ground.phase }, { on := 4, ground := Go.Ground.phase }, { on := 5, ground := Go.Ground.phase }, { on := 6, ground := Go.Ground.phase }, { on := 7, ground := Go.Ground.phase }, { on := 8, ground := Go.Ground.phase }, { on := 9, ground := Go.Ground.phase }, { on := 10, ground := Go.Ground.phase }, { on := 11, ground := Go.Ground.phase }, { on := 12, ground := Go.Ground.phase }], guard := none }) (v := ?_) rfl (by kernel_rfl) (by kernel_rfl) (by kernel_rfl) (by kernel_rfl) (fun _ _ _ h => h) (Or.inl ⟨by rfl, ?_⟩) hS ?_
      rotate_left
      · intro w' hSw; have q3 := (hSw.cell (p := ⟨w.heap.size, 3, none⟩) lx).trans c3; have q4 := (hSw.cell (p := ⟨w.heap.size, 4, none⟩) lx).trans c4; go_simp; try with_reducible rfl
      try simp only [Act.put, List.setIfInBounds_toArray, List.set_cons_zero, List.set_cons_succ]
      refine wpAnyF_done (by kernel_rfl) ?_ _
      go_wp2_with fail
      go_ret
      have hb := HB.out.trans (hS.mono HB.out.size)
      exact ⟨rfl, Chg.of _ hb, .live a, ⟨rfl, rfl, (HA.out.grow hS).mono (Nat.le_succ _), HR.out.grow hS, HO.out, HF.out⟩, rfl⟩
    exact AllReadyF.nil
  exact AllReadyF.nil

set_option maxRecDepth 100000 in
set_option maxHeartbeats 4000000 in
theorem does_N6 {b m n g : Nat} {w : World} {who to lot coins : Int} (hs : int64b lot ∧ int64b coins) :
    Calls Try.prog 19 #[.pointer none, .pointer none, .agg #[.int .i64 6, .int .i64 who, .int .i64 to, .int .i64 lot, .int .i64 coins]] w (DoesP (.pointer none) (.pointer none) b m g n .nil w) := by
  obtain ⟨U, hU⟩ : ∃ U, U = w.alloc (.cells #[.int .i64 6, .int .i64 who, .int .i64 to, .int .i64 lot, .int .i64 coins] 45) := ⟨_, rfl⟩
  have hx : Blk U w.heap.size 45 #[.int .i64 6, .int .i64 who, .int .i64 to, .int .i64 lot, .int .i64 coins] := by rw [hU]; exact Blk.new w _ _
  have hB : Below w.heap.size w U := by rw [hU]; exact (Below.refl _ _).alloc (Nat.le_refl _) _
  have c0 : U.cell? ⟨w.heap.size, 0, none⟩ = some (.int .i64 6) := hx.cell 0
  have c3 : U.cell? ⟨w.heap.size, 3, none⟩ = some (.int .i64 lot) := hx.cell 3
  have c4 : U.cell? ⟨w.heap.size, 4, none⟩ = some (.int .i64 coins) := hx.cell 4
  have lx := hx.lt
  have HU := Lib.hid hU
  have HB := Lib.hid hB
  have HX := Lib.hid hs.1
  have HV := Lib.hid hs.2
  have HAN := Lib.hid (show AtP U (.pointer none) .nil from rfl)
  clear hU hx hB hs
  go_enter Try.func19, Try.ntmps19
  go_wp2_with fail
  rw [← HU.out]
  refine wp_region_F (Below U.heap.size U) [] (by kernel_rfl) ((Below.refl _ _).drew) (fun hS => ?_)
  refine wpAnyF_take (i := 0) (oi := { dst := some 96, op := Go.Op.move (Go.Operand.tmp 0), type := 23, pos := "law.go:84", after := #[], guard := none }) (v := ?_) rfl (by kernel_rfl) (by kernel_rfl) (by kernel_rfl) (by kernel_rfl) (fun _ _ _ h => h) (Or.inl ⟨by rfl, ?_⟩) hS ?_
  rotate_left
  · intro w' hSw; have q3 := (hSw.cell (p := ⟨w.heap.size, 3, none⟩) lx).trans c3; have q4 := (hSw.cell (p := ⟨w.heap.size, 4, none⟩) lx).trans c4; go_simp; try with_reducible rfl
  try simp only [Act.put, List.setIfInBounds_toArray, List.set_cons_zero, List.set_cons_succ]
  refine wpAnyF_take (i := 1) (oi := { dst := some 97, op := Go.Op.fieldAddr 45 (Go.Operand.tmp 5) 3, type := 0, pos := "law.go:84", after := #[], guard := none }) (v := ?_) rfl (by kernel_rfl) (by kernel_rfl) (by kernel_rfl) (by kernel_rfl) (fun _ _ _ h => h) (Or.inl ⟨by rfl, ?_⟩) hS ?_
  rotate_left
  · intro w' hSw; have q3 := (hSw.cell (p := ⟨w.heap.size, 3, none⟩) lx).trans c3; have q4 := (hSw.cell (p := ⟨w.heap.size, 4, none⟩) lx).trans c4; go_simp; try with_reducible rfl
  try simp only [Act.put, List.setIfInBounds_toArray, List.set_cons_zero, List.set_cons_succ]
  refine wpAnyF_take (i := 2) (oi := { dst := some 98, op := Go.Op.load 3 (Go.Operand.tmp 97), type := 3, pos := "law.go:84", after := #[{ on := 1, ground := Go.Ground.data }], guard := none }) (v := ?_) rfl (by kernel_rfl) (by kernel_rfl) (by kernel_rfl) (by kernel_rfl) (fun _ _ _ h => h) (Or.inl ⟨by rfl, ?_⟩) hS ?_
  rotate_left
  · intro w' hSw; have q3 := (hSw.cell (p := ⟨w.heap.size, 3, none⟩) lx).trans c3; have q4 := (hSw.cell (p := ⟨w.heap.size, 4, none⟩) lx).trans c4; go_simp; try with_reducible rfl
  try simp only [Act.put, List.setIfInBounds_toArray, List.set_cons_zero, List.set_cons_succ]
  refine wpAnyF_take (i := 3) (oi := { dst := some 99, op := Go.Op.fieldAddr 45 (Go.Operand.tmp 5) 4, type := 0, pos := "law.go:84", after := #[], guard := none }) (v := ?_) rfl (by kernel_rfl) (by kernel_rfl) (by kernel_rfl) (by kernel_rfl) (fun _ _ _ h => h) (Or.inl ⟨by rfl, ?_⟩) hS ?_
  rotate_left
  · intro w' hSw; have q3 := (hSw.cell (p := ⟨w.heap.size, 3, none⟩) lx).trans c3; have q4 := (hSw.cell (p := ⟨w.heap.size, 4, none⟩) lx).trans c4; go_simp; try with_reducible rfl
  try simp only [Act.put, List.setIfInBounds_toArray, List.set_cons_zero, List.set_cons_succ]
  refine wpAnyF_take (i := 4) (oi := { dst := some 100, op := Go.Op.load 2 (Go.Operand.tmp 99), type := 2, pos := "law.go:84", after := #[{ on := 3, ground := Go.Ground.data }], guard := none }) (v := ?_) rfl (by kernel_rfl) (by kernel_rfl) (by kernel_rfl) (by kernel_rfl) (fun _ _ _ h => h) (Or.inl ⟨by rfl, ?_⟩) hS ?_
  rotate_left
  · intro w' hSw; have q3 := (hSw.cell (p := ⟨w.heap.size, 3, none⟩) lx).trans c3; have q4 := (hSw.cell (p := ⟨w.heap.size, 4, none⟩) lx).trans c4; go_simp; try with_reducible rfl
  try simp only [Act.put, List.setIfInBounds_toArray, List.set_cons_zero, List.set_cons_succ]
  refine wpAnyF_take (i := 6) (oi := { dst := some 102, op := Go.Op.move (Go.Operand.tmp 1), type := 37, pos := "law.go:84", after := #[], guard := none }) (v := ?_) rfl (by kernel_rfl) (by kernel_rfl) (by kernel_rfl) (by kernel_rfl) (fun _ _ _ h => h) (Or.inl ⟨by rfl, ?_⟩) hS ?_
  rotate_left
  · intro w' hSw; have q3 := (hSw.cell (p := ⟨w.heap.size, 3, none⟩) lx).trans c3; have q4 := (hSw.cell (p := ⟨w.heap.size, 4, none⟩) lx).trans c4; go_simp; try with_reducible rfl
  try simp only [Act.put, List.setIfInBounds_toArray, List.set_cons_zero, List.set_cons_succ]
  refine wpAnyF_take (i := 7) (oi := { dst := some 103, op := Go.Op.fieldAddr 45 (Go.Operand.tmp 5) 3, type := 0, pos := "law.go:84", after := #[], guard := none }) (v := ?_) rfl (by kernel_rfl) (by kernel_rfl) (by kernel_rfl) (by kernel_rfl) (fun _ _ _ h => h) (Or.inl ⟨by rfl, ?_⟩) hS ?_
  rotate_left
  · intro w' hSw; have q3 := (hSw.cell (p := ⟨w.heap.size, 3, none⟩) lx).trans c3; have q4 := (hSw.cell (p := ⟨w.heap.size, 4, none⟩) lx).trans c4; go_simp; try with_reducible rfl
  try simp only [Act.put, List.setIfInBounds_toArray, List.set_cons_zero, List.set_cons_succ]
  refine wpAnyF_take (i := 8) (oi := { dst := some 104, op := Go.Op.load 3 (Go.Operand.tmp 103), type := 3, pos := "law.go:84", after := #[{ on := 7, ground := Go.Ground.data }], guard := none }) (v := ?_) rfl (by kernel_rfl) (by kernel_rfl) (by kernel_rfl) (by kernel_rfl) (fun _ _ _ h => h) (Or.inl ⟨by rfl, ?_⟩) hS ?_
  rotate_left
  · intro w' hSw; have q3 := (hSw.cell (p := ⟨w.heap.size, 3, none⟩) lx).trans c3; have q4 := (hSw.cell (p := ⟨w.heap.size, 4, none⟩) lx).trans c4; go_simp; try with_reducible rfl
  try simp only [Act.put, List.setIfInBounds_toArray, List.set_cons_zero, List.set_cons_succ]
  refine wpAnyF_take (i := 9) (oi := { dst := some 105, op := Go.Op.fieldAddr 45 (Go.Operand.tmp 5) 4, type := 0, pos := "law.go:84", after := #[], guard := none }) (v := ?_) rfl (by kernel_rfl) (by kernel_rfl) (by kernel_rfl) (by kernel_rfl) (fun _ _ _ h => h) (Or.inl ⟨by rfl, ?_⟩) hS ?_
  rotate_left
  · intro w' hSw; have q3 := (hSw.cell (p := ⟨w.heap.size, 3, none⟩) lx).trans c3; have q4 := (hSw.cell (p := ⟨w.heap.size, 4, none⟩) lx).trans c4; go_simp; try with_reducible rfl
  try simp only [Act.put, List.setIfInBounds_toArray, List.set_cons_zero, List.set_cons_succ]
  refine wpAnyF_take (i := 10) (oi := { dst := some 106, op := Go.Op.load 2 (Go.Operand.tmp 105), type := 2, pos := "law.go:84", after := #[{ on := 9, ground := Go.Ground.data }], guard := none }) (v := ?_) rfl (by kernel_rfl) (by kernel_rfl) (by kernel_rfl) (by kernel_rfl) (fun _ _ _ h => h) (Or.inl ⟨by rfl, ?_⟩) hS ?_
  rotate_left
  · intro w' hSw; have q3 := (hSw.cell (p := ⟨w.heap.size, 3, none⟩) lx).trans c3; have q4 := (hSw.cell (p := ⟨w.heap.size, 4, none⟩) lx).trans c4; go_simp; try with_reducible rfl
  try simp only [Act.put, List.setIfInBounds_toArray, List.set_cons_zero, List.set_cons_succ]
  refine wpAnyF_ready (rs := [5]) (by kernel_rfl) (by simp) ?_
  refine AllReadyF.cons (o := { dst := some 101, op := Go.Op.call { callee := Go.Callee.value (Go.Operand.func 27), args := #[Go.Operand.tmp 96, Go.Operand.tmp 98, Go.Operand.tmp 100], argTypes := #[23, 3, 2] }, type := 4, pos := "law.go:84", after := #[{ on := 0, ground := Go.Ground.data }, { on := 2, ground := Go.Ground.data }, { on := 4, ground := Go.Ground.data }], guard := none }) rfl (by rfl) (fun K hK => ?_) ?_
  · go_simp
    refine (can_dead (HAN.out.grow hS) rfl).mono ?_
    rintro e w7 ⟨rfl, hb7⟩
    refine hK.out _ _ ?_ (fun hS => ?_)
    · exact hS.trans (hb7.mono hS.size)
    clear hK K
    try simp only [Act.put, List.setIfInBounds_toArray, List.set_cons_zero, List.set_cons_succ]
    clear hb7
    refine wpAnyF_ready (rs := [11]) (by kernel_rfl) (by simp) ?_
    refine AllReadyF.cons (o := { dst := some 107, op := Go.Op.call { callee := Go.Callee.value (Go.Operand.func 50), args := #[Go.Operand.tmp 102, Go.Operand.tmp 104, Go.Operand.tmp 106], argTypes := #[37, 3, 2] }, type := 4, pos := "law.go:84", after := #[{ on := 6, ground := Go.Ground.data }, { on := 8, ground := Go.Ground.data }, { on := 10, ground := Go.Ground.data }, { on := 5, ground := Go.Ground.chain }], guard := none }) rfl (by rfl) (fun K hK => ?_) ?_
    · go_simp
      refine (refCan_none _ _ _).mono ?_
      rintro e w9 ⟨rfl, hb9⟩
      refine hK.out _ _ ?_ (fun hS => ?_)
      · rw [hb9]; exact hS
      clear hK K
      try simp only [Act.put, List.setIfInBounds_toArray, List.set_cons_zero, List.set_cons_succ]
      clear hb9
      refine wpAnyF_take (i := 12) (oi := { dst := some 108, op := Go.Op.binOp Go.BinOp.eql 4 (Go.Operand.tmp 101) (Go.Operand.tmp 107) 4, type := 4, pos := "law.go:84", after := #[{ on := 5, ground := Go.Ground.data }, { on := 11, ground := Go.Ground.data }], guard := none }) (v := ?_) rfl (by kernel_rfl) (by kernel_rfl) (by kernel_rfl) (by kernel_rfl) (fun _ _ _ h => h) (Or.inl ⟨by rfl, ?_⟩) hS ?_
      rotate_left
      · intro w' hSw; have q3 := (hSw.cell (p := ⟨w.heap.size, 3, none⟩) lx).trans c3; have q4 := (hSw.cell (p := ⟨w.heap.size, 4, none⟩) lx).trans c4; go_simp; try with_reducible rfl
      try simp only [Act.put, List.setIfInBounds_toArray, List.set_cons_zero, List.set_cons_succ]
      refine wpAnyF_take (i := 13) (oi := { dst := some 6, op := Go.Op.assign (Go.Operand.tmp 108), type := 4, pos := "law.go:84", after := #[{ on := 12, ground := Go.Ground.data }, { on := 11, ground := Go.Ground.chain }, { on := 0, ground := Go.Ground.phase }, { on := 1, ground := Go.Ground.phase }, { on := 2, ground := Go.Ground.phase }, { on := 3, ground := Go.Ground.phase }, { on := 4, ground := Go.Ground.phase }, { on := 5, ground := Go.Ground.phase }, { on := 6, ground := Go.Ground.phase }, { on := 7, ground := Go.Ground.phase }, { on := 8, ground := Go.Ground.phase }, { on := 9, ground := Go.Ground.phase }, { on := 10, ground := Go.Ground.phase }, { on := 11, ground := Go.Ground.phase }, { on := 12, ground := Go.Ground.phase }], guard := none }) (v := ?_) rfl (by kernel_rfl) (by kernel_rfl) (by kernel_rfl) (by kernel_rfl) (fun _ _ _ h => h) (Or.inl ⟨by rfl, ?_⟩) hS ?_
      rotate_left
      · intro w' hSw; have q3 := (hSw.cell (p := ⟨w.heap.size, 3, none⟩) lx).trans c3; have q4 := (hSw.cell (p := ⟨w.heap.size, 4, none⟩) lx).trans c4; go_simp; try with_reducible rfl
      try simp only [Act.put, List.setIfInBounds_toArray, List.set_cons_zero, List.set_cons_succ]
      refine wpAnyF_done (by kernel_rfl) ?_ _
      go_wp2_with fail
      go_ret
      have hb := HB.out.trans (hS.mono HB.out.size)
      exact ⟨rfl, Chg.of _ hb, .nil, ⟨rfl, rfl⟩, rfl⟩
    exact AllReadyF.nil
  exact AllReadyF.nil

set_option maxRecDepth 100000 in
set_option maxHeartbeats 4000000 in
theorem does_L9 {b m n g : Nat} {a : Acc} {w : World} (h : AccAt w b m n a) (h2 : RefAt w g a) (ho : a.Ok) (hf : a.Fine) (hn : n < maxLen) {who to lot coins : Int} (hs : int64b lot ∧ int64b coins) :
    Calls Try.prog 19 #[.pointer (some ⟨b, 0, none⟩), .pointer (some ⟨g, 0, none⟩), .agg #[.int .i64 9, .int .i64 who, .int .i64 to, .int .i64 lot, .int .i64 coins]] w (DoesP (.pointer (some ⟨b, 0, none⟩)) (.pointer (some ⟨g, 0, none⟩)) b m g n (.live a) w) := by
  obtain ⟨U, hU⟩ : ∃ U, U = w.alloc (.cells #[.int .i64 9, .int .i64 who, .int .i64 to, .int .i64 lot, .int .i64 coins] 45) := ⟨_, rfl⟩
  have hx : Blk U w.heap.size 45 #[.int .i64 9, .int .i64 who, .int .i64 to, .int .i64 lot, .int .i64 coins] := by rw [hU]; exact Blk.new w _ _
  have hB : Below w.heap.size w U := by rw [hU]; exact (Below.refl _ _).alloc (Nat.le_refl _) _
  have c0 : U.cell? ⟨w.heap.size, 0, none⟩ = some (.int .i64 9) := hx.cell 0
  have c3 : U.cell? ⟨w.heap.size, 3, none⟩ = some (.int .i64 lot) := hx.cell 3
  have c4 : U.cell? ⟨w.heap.size, 4, none⟩ = some (.int .i64 coins) := hx.cell 4
  have lx := hx.lt
  have HU := Lib.hid hU
  have HB := Lib.hid hB
  have HX := Lib.hid hs.1
  have HV := Lib.hid hs.2
  have hlb := h.ltb
  have hlm := h.ltm
  have hlg := h2.lt
  have HA := Lib.hid (h.grow hB)
  have HR := Lib.hid (h2.grow hB)
  have HO := Lib.hid ho
  have HF := Lib.hid hf
  have HN := Lib.hid hn
  have HCB := Lib.hid (Chg.of (fun k => (Fm.live a).there = true ∧ (k = m ∨ k = b ∨ k = g)) hB)
  clear hU hx hB h h2 ho hf hn hs
  go_enter Try.func19, Try.ntmps19
  go_wp2_with fail
  rw [← HU.out]
  refine (goes_any (f := .live a) ⟨_, _, _, rfl, HA.out⟩ HO.out.h (PairAt.wants (f := .live a) ⟨rfl, rfl, HA.out, HR.out, HO.out, HF.out⟩)).mono ?_
  rintro e w7 ⟨rfl, hb7⟩
  have HS := Lib.hid hb7
  clear hb7
  go_wp2_with fail
  go_ret
  exact ⟨rfl, Chg.of _ (HB.out.trans (HS.out.mono HB.out.size)), .live a, ⟨rfl, rfl, (HA.out.grow HS.out).mono (Nat.le_succ _), HR.out.grow HS.out, HO.out, HF.out⟩, rfl⟩

set_option maxRecDepth 100000 in
set_option maxHeartbeats 4000000 in
theorem does_N9 {b m n g : Nat} {w : World} {who to lot coins : Int} (hs : int64b lot ∧ int64b coins) :
    Calls Try.prog 19 #[.pointer none, .pointer none, .agg #[.int .i64 9, .int .i64 who, .int .i64 to, .int .i64 lot, .int .i64 coins]] w (DoesP (.pointer none) (.pointer none) b m g n .nil w) := by
  obtain ⟨U, hU⟩ : ∃ U, U = w.alloc (.cells #[.int .i64 9, .int .i64 who, .int .i64 to, .int .i64 lot, .int .i64 coins] 45) := ⟨_, rfl⟩
  have hx : Blk U w.heap.size 45 #[.int .i64 9, .int .i64 who, .int .i64 to, .int .i64 lot, .int .i64 coins] := by rw [hU]; exact Blk.new w _ _
  have hB : Below w.heap.size w U := by rw [hU]; exact (Below.refl _ _).alloc (Nat.le_refl _) _
  have c0 : U.cell? ⟨w.heap.size, 0, none⟩ = some (.int .i64 9) := hx.cell 0
  have c3 : U.cell? ⟨w.heap.size, 3, none⟩ = some (.int .i64 lot) := hx.cell 3
  have c4 : U.cell? ⟨w.heap.size, 4, none⟩ = some (.int .i64 coins) := hx.cell 4
  have lx := hx.lt
  have HU := Lib.hid hU
  have HB := Lib.hid hB
  have HX := Lib.hid hs.1
  have HV := Lib.hid hs.2
  have HAN := Lib.hid (show AtP U (.pointer none) .nil from rfl)
  clear hU hx hB hs
  go_enter Try.func19, Try.ntmps19
  go_wp2_with fail
  rw [← HU.out]
  refine (goes_any HAN.out (show HOk [] from Fm.Ok.h (f := .nil) trivial) (.inl ⟨rfl, rfl⟩)).mono ?_
  rintro e w7 ⟨rfl, hb7⟩
  have HS := Lib.hid hb7
  clear hb7
  go_wp2_with fail
  go_ret
  exact ⟨rfl, Chg.of _ (HB.out.trans (HS.out.mono HB.out.size)), .nil, ⟨rfl, rfl⟩, rfl⟩

set_option maxRecDepth 100000 in
set_option maxHeartbeats 4000000 in
theorem does_L0 {b m n g : Nat} {a : Acc} {w : World} (h : AccAt w b m n a) (h2 : RefAt w g a) (ho : a.Ok) (hf : a.Fine) (hn : n < maxLen) {kind who to lot coins : Int} (hs : int64b lot ∧ int64b coins) (k1 : kind ≠ 1) (k2 : kind ≠ 2) (k3 : kind ≠ 3) (k4 : kind ≠ 4) (k5 : kind ≠ 5) (k6 : kind ≠ 6) (k9 : kind ≠ 9) :
    Calls Try.prog 19 #[.pointer (some ⟨b, 0, none⟩), .pointer (some ⟨g, 0, none⟩), .agg #[.int .i64 kind, .int .i64 who, .int .i64 to, .int .i64 lot, .int .i64 coins]] w (DoesP (.pointer (some ⟨b, 0, none⟩)) (.pointer (some ⟨g, 0, none⟩)) b m g n (.live a) w) := by
  obtain ⟨U, hU⟩ : ∃ U, U = w.alloc (.cells #[.int .i64 kind, .int .i64 who, .int .i64 to, .int .i64 lot, .int .i64 coins] 45) := ⟨_, rfl⟩
  have hx : Blk U w.heap.size 45 #[.int .i64 kind, .int .i64 who, .int .i64 to, .int .i64 lot, .int .i64 coins] := by rw [hU]; exact Blk.new w _ _
  have hB : Below w.heap.size w U := by rw [hU]; exact (Below.refl _ _).alloc (Nat.le_refl _) _
  have c0 : U.cell? ⟨w.heap.size, 0, none⟩ = some (.int .i64 kind) := hx.cell 0
  have c3 : U.cell? ⟨w.heap.size, 3, none⟩ = some (.int .i64 lot) := hx.cell 3
  have c4 : U.cell? ⟨w.heap.size, 4, none⟩ = some (.int .i64 coins) := hx.cell 4
  have lx := hx.lt
  have HU := Lib.hid hU
  have HB := Lib.hid hB
  have HX := Lib.hid hs.1
  have HV := Lib.hid hs.2
  have hlb := h.ltb
  have hlm := h.ltm
  have hlg := h2.lt
  have HA := Lib.hid (h.grow hB)
  have HR := Lib.hid (h2.grow hB)
  have HO := Lib.hid ho
  have HF := Lib.hid hf
  have HN := Lib.hid hn
  have HCB := Lib.hid (Chg.of (fun k => (Fm.live a).there = true ∧ (k = m ∨ k = b ∨ k = g)) hB)
  clear hU hx hB h h2 ho hf hn hs
  have d1 : (kind == 1) = false := by simpa using k1
  have d2 : (kind == 2) = false := by simpa using k2
  have d3 : (kind == 3) = false := by simpa using k3
  have d4 : (kind == 4) = false := by simpa using k4
  have d5 : (kind == 5) = false := by simpa using k5
  have d6 : (kind == 6) = false := by simpa using k6
  have d9 : (kind == 9) = false := by simpa using k9
  clear k1 k2 k3 k4 k5 k6 k9
  go_enter Try.func19, Try.ntmps19
  go_wp2_with fail
  rw [← HU.out]
  go_ret
  exact ⟨rfl, Chg.of _ HB.out, .live a, ⟨rfl, rfl, HA.out.mono (Nat.le_succ _), HR.out, HO.out, HF.out⟩, rfl⟩

set_option maxRecDepth 100000 in
set_option maxHeartbeats 4000000 in
theorem does_N0 {b m n g : Nat} {w : World} {kind who to lot coins : Int} (hs : int64b lot ∧ int64b coins) (k1 : kind ≠ 1) (k2 : kind ≠ 2) (k3 : kind ≠ 3) (k4 : kind ≠ 4) (k5 : kind ≠ 5) (k6 : kind ≠ 6) (k9 : kind ≠ 9) :
    Calls Try.prog 19 #[.pointer none, .pointer none, .agg #[.int .i64 kind, .int .i64 who, .int .i64 to, .int .i64 lot, .int .i64 coins]] w (DoesP (.pointer none) (.pointer none) b m g n .nil w) := by
  obtain ⟨U, hU⟩ : ∃ U, U = w.alloc (.cells #[.int .i64 kind, .int .i64 who, .int .i64 to, .int .i64 lot, .int .i64 coins] 45) := ⟨_, rfl⟩
  have hx : Blk U w.heap.size 45 #[.int .i64 kind, .int .i64 who, .int .i64 to, .int .i64 lot, .int .i64 coins] := by rw [hU]; exact Blk.new w _ _
  have hB : Below w.heap.size w U := by rw [hU]; exact (Below.refl _ _).alloc (Nat.le_refl _) _
  have c0 : U.cell? ⟨w.heap.size, 0, none⟩ = some (.int .i64 kind) := hx.cell 0
  have c3 : U.cell? ⟨w.heap.size, 3, none⟩ = some (.int .i64 lot) := hx.cell 3
  have c4 : U.cell? ⟨w.heap.size, 4, none⟩ = some (.int .i64 coins) := hx.cell 4
  have lx := hx.lt
  have HU := Lib.hid hU
  have HB := Lib.hid hB
  have HX := Lib.hid hs.1
  have HV := Lib.hid hs.2
  have HAN := Lib.hid (show AtP U (.pointer none) .nil from rfl)
  clear hU hx hB hs
  have d1 : (kind == 1) = false := by simpa using k1
  have d2 : (kind == 2) = false := by simpa using k2
  have d3 : (kind == 3) = false := by simpa using k3
  have d4 : (kind == 4) = false := by simpa using k4
  have d5 : (kind == 5) = false := by simpa using k5
  have d6 : (kind == 6) = false := by simpa using k6
  have d9 : (kind == 9) = false := by simpa using k9
  clear k1 k2 k3 k4 k5 k6 k9
  go_enter Try.func19, Try.ntmps19
  go_wp2_with fail
  rw [← HU.out]
  go_ret
  exact ⟨rfl, Chg.of _ HB.out, .nil, ⟨rfl, rfl⟩, rfl⟩

theorem does_any {W : World} {tv rv : Value} {b m g n : Nat} {f : Fm} (h : PairAt W tv rv b m g n f) (hn : n < maxLen) {s : St} (hs : s.wf) :
    Calls Try.prog 19 #[tv, rv, .agg s.vals] W (DoesP tv rv b m g n f W) := by
  obtain ⟨kind, who, to, lot, coins⟩ := s
  cases f with
  | zero => exact h.elim
  | nil =>
    obtain ⟨rfl, rfl⟩ := h
    by_cases k1 : kind = 1
    · subst k1; exact does_N1 hs
    by_cases k2 : kind = 2
    · subst k2; exact does_N2 hs
    by_cases k3 : kind = 3
    · subst k3; exact does_N3 hs
    by_cases k4 : kind = 4
    · subst k4; exact does_N4 hs
    by_cases k5 : kind = 5
    · subst k5; exact does_N5 hs
    by_cases k6 : kind = 6
    · subst k6; exact does_N6 hs
    by_cases k9 : kind = 9
    · subst k9; exact does_N9 hs
    exact does_N0 hs k1 k2 k3 k4 k5 k6 k9
  | live a =>
    obtain ⟨rfl, rfl, h3, h4, h5, h6⟩ := h
    by_cases k1 : kind = 1
    · subst k1; exact does_L1 h3 h4 h5 h6 hn hs
    by_cases k2 : kind = 2
    · subst k2; exact does_L2 h3 h4 h5 h6 hn hs
    by_cases k3 : kind = 3
    · subst k3; exact does_L3 h3 h4 h5 h6 hn hs
    by_cases k4 : kind = 4
    · subst k4; exact does_L4 h3 h4 h5 h6 hn hs
    by_cases k5 : kind = 5
    · subst k5; exact does_L5 h3 h4 h5 h6 hn hs
    by_cases k6 : kind = 6
    · subst k6; exact does_L6 h3 h4 h5 h6 hn hs
    by_cases k9 : kind = 9
    · subst k9; exact does_L9 h3 h4 h5 h6 hn hs
    exact does_L0 h3 h4 h5 h6 hn hs k1 k2 k3 k4 k5 k6 k9
end Go.Proofs.Ytibhmgeckghoeaa.Ac

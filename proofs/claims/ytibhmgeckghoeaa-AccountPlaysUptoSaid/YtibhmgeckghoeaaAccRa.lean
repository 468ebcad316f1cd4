/- Account: the document's account in memory; what it tells. -/
import Derived.Test.YtibhmgeckghoeaaAccApp
namespace Go.Proofs.Ytibhmgeckghoeaa.Ac
open Go.RowKit Go.Shelf Go.Maps
open Go.Proofs.Ytibhmgeckghoeaa.Vb
attribute [local go_sem] Oper.semAt_some

/-- block b holds rows of what is held -/
def HTag (W : World) (b : Nat) : Prop := ∃ cs fz, W.heap[b]? = some (.cells cs 29 fz)
/-- a list of what is held, in a block of such rows -/
def HeldsT (W : World) (v : Value) (l : HM) : Prop := Sl W (HTag W) v l.length 2 (hcells l)
def RefAt (W : World) (g : Nat) (a : Acc) : Prop := ∃ sl, Blk W g 75 #[.int .i64 a.bud, .int .i64 a.sp, sl] ∧ HeldsT W sl a.M
section
variable {W W' : World} {g : Nat} {a : Acc} {v : Value} {l : HM}
theorem HTag.lt {b : Nat} (h : HTag W b) : b < W.heap.size := by
  obtain ⟨cs, fz, h⟩ := h
  rcases Nat.lt_or_ge b W.heap.size with h1 | h1
  · exact h1
  · rw [Array.getElem?_eq_none h1] at h; cases h
theorem Blk.notag {t : TypeId} {cs : Array Value} (h : Blk W g t cs) (ht : t ≠ 29) : ¬ HTag W g := by
  rintro ⟨cs', fz, h2⟩
  unfold Blk at h
  rw [h] at h2
  injection h2 with h2
  injection h2 with _ h2 _
  exact ht h2
theorem map_notag {H : Type} {m n : Nat} {P : Program} {k : TypeId} {R : Value → Option (DataW H × List MemPlace)} {D : DataW H} (h : W.ownsMap P k R m n D) : ¬ HTag W m := by
  rintro ⟨cs', fz, h2⟩
  obtain ⟨es, clock, h1, _⟩ := h
  rw [h1] at h2
  cases h2
theorem HeldsT.chg {X : Nat → Prop} (h : HeldsT W v l) (hc : Chg X W W') (hx : ∀ k, X k → ¬ HTag W k) : HeldsT W' v l := by
  have hb : ∀ b, HTag W b → W'.heap[b]? = W.heap[b]? := fun b ht => hc.block b ht.lt fun hX => hx b hX ht
  exact (Sl.keep h hc.size fun b _ hr => hb b hr).mono fun b _ ⟨cs, fz, hr⟩ => ⟨cs, fz, (hb b ⟨cs, fz, hr⟩).trans hr⟩
theorem HeldsT.grow (h : HeldsT W v l) (hb : Below W.heap.size W W') : HeldsT W' v l := h.chg (Chg.of (fun _ => False) hb) fun _ h => h.elim
theorem RefAt.lt (h : RefAt W g a) : g < W.heap.size := by obtain ⟨sl, h1, _⟩ := h; exact h1.lt
theorem RefAt.notag (h : RefAt W g a) : ¬ HTag W g := by obtain ⟨sl, h1, _⟩ := h; exact h1.notag (by decide)
theorem RefAt.chg {X : Nat → Prop} (h : RefAt W g a) (hc : Chg X W W') (hg : ¬ X g) (hx : ∀ k, X k → ¬ HTag W k) : RefAt W' g a := by
  obtain ⟨sl, h1, h2⟩ := h
  exact ⟨sl, h1.chg hc hg, h2.chg hc hx⟩
theorem RefAt.grow (h : RefAt W g a) (hb : Below W.heap.size W W') : RefAt W' g a := h.chg (Chg.of (fun _ => False) hb) id fun _ h => h.elim
theorem HeldsT.nil (W : World) : HeldsT W (.slice none 0 0) [] := ⟨rfl, none, 0, rfl, Nat.le_refl _, Nat.zero_le _, fun h => absurd h (by decide)⟩
theorem HeldsT.of_own {base : Nat} {v : Value} (h : W.ownsRow base 29 2 v l.length (hcells l)) : HeldsT W v l := by
  refine (Sl.of_own h).mono fun b _ hb => ?_
  rcases h.2 with ⟨hn, _⟩ | ⟨gg, cap, cur, hv, hgb, hcur, _⟩
  · rw [hn] at hb; cases hb
  · rw [hv] at hb
    injection hb with hb
    simp only at hb
    subst hb
    exact ⟨_, _, hcur⟩
theorem HeldsF.of_own {base : Nat} {v : Value} (h : W.ownsRow base 29 2 v l.length (hcells l)) : Sl W (fun b => HTag W b ∧ base ≤ b) v l.length 2 (hcells l) := by
  refine (Sl.of_own h).mono fun b _ hb => ?_
  rcases h.2 with ⟨hn, _⟩ | ⟨gg, cap, cur, hv, hgb, hcur, _⟩
  · rw [hn] at hb; cases hb
  · rw [hv] at hb
    injection hb with hb
    simp only at hb
    subst hb
    exact ⟨⟨_, _, hcur⟩, hgb⟩
theorem HeldsT.at_ {A : Option Addr} {n c k : Nat} {o : Int × Int} (h : HeldsT W (.slice A n c) l) (hk : l[k]? = some o) :
    ∃ b off, A = some ⟨b, off, none⟩ ∧ HTag W b ∧ W.cell? ⟨b, off + k * 2, none⟩ = some (.int .i64 o.1) ∧ W.cell? ⟨b, off + k * 2 + 1, none⟩ = some (.int .i64 o.2) := by
  obtain ⟨_, A', c', hv, _, _, hcs⟩ := h
  injection hv with hA _ _
  subst hA
  have hlt := (List.getElem?_eq_some_iff.1 hk).1
  obtain ⟨b, off, hA, ht, hlt2, hcc⟩ := hcs (by omega)
  exact ⟨b, off, hA, ht, hcc _ _ (hcells_fst l k o hk), hcc _ _ (hcells_snd l k o hk)⟩
theorem HeldsT.form (h : HeldsT W v l) : ∃ A c, v = .slice A l.length c := by
  obtain ⟨_, A', c', hv, _⟩ := h
  exact ⟨A', c', hv⟩
theorem HeldsT.helds (h : HeldsT W v l) (hb : ∀ p ∈ l, int64b p.1 ∧ int64b p.2) : Helds W (fun _ => True) v l := ⟨h.mono fun _ _ _ => trivial, hb⟩
end

/-- as RefAt, in blocks from lo on -/
def RefFrom (lo : Nat) (W : World) (g : Nat) (a : Acc) : Prop := lo ≤ g ∧ ∃ sl, Blk W g 75 #[.int .i64 a.bud, .int .i64 a.sp, sl] ∧ Sl W (fun b => HTag W b ∧ lo ≤ b) sl a.M.length 2 (hcells a.M)
theorem RefFrom.at_ {lo : Nat} {W : World} {g : Nat} {a : Acc} (h : RefFrom lo W g a) : RefAt W g a := by
  obtain ⟨_, sl, h1, h2⟩ := h
  exact ⟨sl, h1, h2.mono fun _ _ hb => hb.1⟩
theorem RefFrom.chg {lo : Nat} {W W' : World} {g : Nat} {a : Acc} {X : Nat → Prop} (h : RefFrom lo W g a) (hc : Chg X W W') (hx : ∀ k, X k → k < lo) : RefFrom lo W' g a := by
  obtain ⟨h0, sl, h1, h2⟩ := h
  have hb : ∀ b, HTag W b ∧ lo ≤ b → W'.heap[b]? = W.heap[b]? := fun b ht => hc.block b ht.1.lt fun hX => by have := hx b hX; omega
  refine ⟨h0, sl, h1.chg hc (fun hX => by have := hx g hX; omega), (Sl.keep h2 hc.size fun b _ hr => hb b hr).mono fun b _ hr => ?_⟩
  obtain ⟨⟨cs, fz, hr1⟩, hr2⟩ := id hr
  exact ⟨⟨cs, fz, (hb b hr).trans hr1⟩, hr2⟩
theorem RefFrom.mono {lo lo' : Nat} {W : World} {g : Nat} {a : Acc} (h : RefFrom lo W g a) (hl : lo' ≤ lo) : RefFrom lo' W g a := by
  obtain ⟨h0, sl, h1, h2⟩ := h
  exact ⟨by omega, sl, h1, h2.mono fun _ _ hb => ⟨hb.1, by omega⟩⟩
theorem RefFrom.grow {lo : Nat} {W W' : World} {g : Nat} {a : Acc} (h : RefFrom lo W g a) (hb : Below W.heap.size W W') : RefFrom lo W' g a := h.chg (Chg.of (fun _ => False) hb) fun _ h => h.elim

theorem refCoins_any (x : Int) (w : World) : Calls Try.prog 41 #[.int .i64 x] w fun e w' => e = .returned (.bool (decide (coin x))) ∧ w' = w := by
  obtain ⟨z, hz⟩ : ∃ z, z = decide (coin x) := ⟨_, rfl⟩
  rw [← hz]
  have HZ := Lib.hid hz
  clear hz
  unfold coin at HZ
  go_enter Try.func41, Try.ntmps41
  by_cases h1 : 0 ≤ x
  · by_cases h2 : x ≤ 1099511627776
    · have HE := Lib.hid (HZ.out.trans (decide_eq_true ⟨h1, h2⟩))
      go_wp2
      go_ret
      exact ⟨by rw [HE.out]; rfl, rfl⟩
    · have HE := Lib.hid (HZ.out.trans (decide_eq_false fun h => h2 h.2))
      go_wp2
      go_ret
      exact ⟨by rw [HE.out]; rfl, rfl⟩
  · have HE := Lib.hid (HZ.out.trans (decide_eq_false fun h => h1 h.1))
    go_wp2
    go_ret
    exact ⟨by rw [HE.out]; rfl, rfl⟩

set_option maxRecDepth 100000 in
set_option maxHeartbeats 2000000 in
theorem refAll_live {g : Nat} {a : Acc} {w : World} (h : RefAt w g a) (ho : a.Ok) : Calls Try.prog 52 #[.pointer (some ⟨g, 0, none⟩)] w fun e w' => e = .returned (.int .i64 (sumM a.M)) ∧ w' = w := by
  obtain ⟨sl, h1, h2⟩ := h
  obtain ⟨A, c, rfl⟩ := h2.form
  have HL := Lib.hid h2
  have HO := Lib.hid ho.h
  have hln := ho.h.len
  have k2 : w.cell? ⟨g, 2, none⟩ = some (.slice A a.M.length c) := h1.cell 2
  obtain ⟨M, hM⟩ : ∃ M, M = a.M := ⟨_, rfl⟩
  rw [← hM] at HL HO hln k2 ⊢
  clear h1 h2 ho hM
  go_enter Try.func52, Try.ntmps52
  go_wp2_with fail
  go_loopw [3, 4] (fun s i wr => ∃ k : Nat, k ≤ M.length ∧ i = .int .i64 k ∧ s = .int .i64 (sumM (M.take k)) ∧ wr = w) (fun _ i _ => M.length - (intOf i).toNat)
  case atStart => exact ⟨0, Nat.zero_le _, rfl, rfl, rfl⟩
  case round =>
    obtain ⟨k, hk, rfl, rfl, hw⟩ := hrel
    rw [hw]
    by_cases hlt : k < M.length
    · obtain ⟨o, ho⟩ : ∃ o, M[k]? = some o := ⟨_, List.getElem?_eq_getElem hlt⟩
      obtain ⟨bq, off, rfl, _, q0, q1⟩ := HL.out.at_ ho
      have hst := sum_take ho
      have hp1 := (HO.out.pre (List.take_prefix (k + 1) M))
      rw [hst] at hp1
      obtain ⟨z, hz⟩ : ∃ z, z = sumM (M.take k) := ⟨_, rfl⟩
      rw [← hz] at hst hp1 ⊢
      have HST := Lib.hid hst
      have hwr : IntKind.i64.wrap (z + o.2) = z + o.2 := IntWalk.i64_in _ (by omega)
      have e1 : (0 : Int) ≤ (k : Int) := by omega
      have e2 : (k : Int) < (M.length : Int) := by omega
      obtain ⟨ol, oc⟩ := o
      simp only at q0 q1 hwr
      clear hst hp1 hz ho
      go_wp2_with fail
      go_roundw
      case rel => exact ⟨k + 1, by omega, by go_num, by rw [HST.out], trivial⟩
      case measure => simp [intOf]; omega
    · obtain rfl : k = M.length := by omega
      rw [List.take_length]
      go_wp2_with fail
      go_ret
      exact ⟨rfl, rfl⟩

set_option maxRecDepth 100000 in
set_option maxHeartbeats 2000000 in
theorem refAt_live {g : Nat} {a : Acc} {w : World} (h : RefAt w g a) (ho : a.Ok) (x : Int) : Calls Try.prog 53 #[.pointer (some ⟨g, 0, none⟩), .int .i64 x] w fun e w' => e = .returned (.int .i64 (atM a.M x)) ∧ w' = w := by
  obtain ⟨sl, h1, h2⟩ := h
  obtain ⟨A, c, rfl⟩ := h2.form
  have HL := Lib.hid h2
  have HO := Lib.hid ho.h
  have hln := ho.h.len
  have k2 : w.cell? ⟨g, 2, none⟩ = some (.slice A a.M.length c) := h1.cell 2
  obtain ⟨M, hM⟩ : ∃ M, M = a.M := ⟨_, rfl⟩
  rw [← hM] at HL HO hln k2 ⊢
  obtain ⟨z, hz⟩ : ∃ z, z = atM M x := ⟨_, rfl⟩
  rw [← hz]
  have HZ := Lib.hid hz
  clear h1 h2 ho hM hz
  go_enter Try.func53, Try.ntmps53
  go_wp2_with fail
  go_loopw [5] (fun i wr => ∃ k : Nat, k ≤ M.length ∧ i = .int .i64 k ∧ (∀ (j : Nat) (p : Int × Int), j < k → M[j]? = some p → p.1 ≠ x) ∧ wr = w) (fun i _ => M.length - (intOf i).toNat)
  case atStart => exact ⟨0, Nat.zero_le _, rfl, fun j p hj => absurd hj (by omega), rfl⟩
  case round =>
    obtain ⟨k, hk, rfl, hne, hw⟩ := hrel
    rw [hw]
    have HNE := Lib.hid hne
    clear hne
    by_cases hlt : k < M.length
    · obtain ⟨o, ho⟩ : ∃ o, M[k]? = some o := ⟨_, List.getElem?_eq_getElem hlt⟩
      obtain ⟨bq, off, rfl, _, q0, q1⟩ := HL.out.at_ ho
      have hat := at_get HO.out.rise ho
      have e1 : (0 : Int) ≤ (k : Int) := by omega
      have e2 : (k : Int) < (M.length : Int) := by omega
      obtain ⟨ol, oc⟩ := o
      simp only at q0 q1 hat
      have HOO := Lib.hid ho
      have HAT := Lib.hid hat
      clear ho hat
      by_cases hq : ol = x
      · have hd : (ol == x) = true := by simpa using hq
        have HQ := Lib.hid hq
        clear hq
        go_wp2_with fail
        go_ret
        exact ⟨by rw [HZ.out, ← HQ.out, HAT.out]; rfl, rfl⟩
      · have hd : (ol == x) = false := by simpa using hq
        have HQ := Lib.hid hq
        clear hq
        go_wp2_with fail
        go_roundw
        case rel =>
          refine ⟨k + 1, by omega, by go_num, fun j p hj hp => ?_, trivial⟩
          rcases Nat.lt_or_ge j k with h1 | h1
          · exact HNE.out j p h1 hp
          · obtain rfl : j = k := by omega
            rw [HOO.out] at hp
            injection hp with hp
            subst hp
            exact HQ.out
        case measure => simp [intOf]; omega
    · obtain rfl : k = M.length := by omega
      have HZ0 := Lib.hid (show z = 0 from by
        rw [HZ.out]
        refine atM_none fun p hp => ?_
        obtain ⟨j, hj, rfl⟩ := List.getElem_of_mem hp
        exact HNE.out j _ hj (List.getElem?_eq_getElem hj))
      go_wp2_with fail
      go_ret
      exact ⟨by rw [HZ0.out]; rfl, rfl⟩

set_option maxRecDepth 100000 in
set_option maxHeartbeats 2000000 in
theorem refFree_live {g : Nat} {a : Acc} {w : World} (h : RefAt w g a) (ho : a.Ok) : Calls Try.prog 51 #[.pointer (some ⟨g, 0, none⟩)] w fun e w' => e = .returned (.int .i64 a.free) ∧ Below w.heap.size w w' := by
  obtain ⟨⟨b1, b2⟩, ⟨s1, s2⟩, _, _, m2⟩ := id ho
  have m1 := ho.h.nn
  have HR := Lib.hid h
  have HO := Lib.hid ho
  obtain ⟨sl, h1, h2⟩ := h
  have hf : a.free = a.bud - a.sp - sumM a.M := rfl
  have k0 : w.cell? ⟨g, 0, none⟩ = some (.int .i64 a.bud) := h1.cell 0
  have k1 : w.cell? ⟨g, 1, none⟩ = some (.int .i64 a.sp) := h1.cell 1
  obtain ⟨x, hx⟩ : ∃ z, z = a.bud := ⟨_, rfl⟩
  obtain ⟨y, hy⟩ : ∃ z, z = a.sp := ⟨_, rfl⟩
  obtain ⟨z, hz⟩ : ∃ z, z = sumM a.M := ⟨_, rfl⟩
  rw [← hx, ← hy, ← hz] at hf
  rw [← hx] at k0 b1 b2
  rw [← hy] at k1 s1 s2
  rw [← hz] at m1 m2
  have HZ := Lib.hid hz
  have HF := Lib.hid hf
  have w1 : IntKind.i64.wrap (x - y) = x - y := IntWalk.i64_in _ (by omega)
  have w2 : IntKind.i64.wrap (x - y - z) = x - y - z := IntWalk.i64_in _ (by omega)
  have lg := h1.lt
  clear ho h1 h2 hf hx hy hz b1 b2 s1 s2 m1 m2
  go_enter Try.func51, Try.ntmps51
  go_wp2_with fail
  refine wp_region_F (Below w.heap.size w) [] (by kernel_rfl) ((Below.refl _ _).drew) (fun hS => ?_)
  refine wpAnyF_take (i := 0) (oi := { dst := some 5, op := Go.Op.move (Go.Operand.tmp 0), type := 37, pos := "ref.go:66", after := #[], guard := none }) (v := ?_) rfl (by kernel_rfl) (by kernel_rfl) (by kernel_rfl) (by kernel_rfl) (fun _ _ _ h => h) (Or.inl ⟨by rfl, ?_⟩) hS ?_
  rotate_left
  · intro w' hSw; have q0 := (hSw.cell (p := ⟨g, 0, none⟩) lg).trans k0; have q1 := (hSw.cell (p := ⟨g, 1, none⟩) lg).trans k1; go_simp; try with_reducible rfl
  try simp only [Act.put, List.setIfInBounds_toArray, List.set_cons_zero, List.set_cons_succ]
  refine wpAnyF_take (i := 1) (oi := { dst := some 6, op := Go.Op.nilCheck (Go.Operand.tmp 5), type := 0, pos := "ref.go:66", after := #[{ on := 0, ground := Go.Ground.data }], guard := none }) (v := ?_) rfl (by kernel_rfl) (by kernel_rfl) (by kernel_rfl) (by kernel_rfl) (fun _ _ _ h => h) (Or.inl ⟨by rfl, ?_⟩) hS ?_
  rotate_left
  · intro w' hSw; have q0 := (hSw.cell (p := ⟨g, 0, none⟩) lg).trans k0; have q1 := (hSw.cell (p := ⟨g, 1, none⟩) lg).trans k1; go_simp; try with_reducible rfl
  try simp only [Act.put, List.setIfInBounds_toArray, List.set_cons_zero, List.set_cons_succ]
  refine wpAnyF_take (i := 2) (oi := { dst := some 7, op := Go.Op.fieldAddr 75 (Go.Operand.tmp 6) 0, type := 0, pos := "ref.go:66", after := #[{ on := 1, ground := Go.Ground.data }], guard := none }) (v := ?_) rfl (by kernel_rfl) (by kernel_rfl) (by kernel_rfl) (by kernel_rfl) (fun _ _ _ h => h) (Or.inl ⟨by rfl, ?_⟩) hS ?_
  rotate_left
  · intro w' hSw; have q0 := (hSw.cell (p := ⟨g, 0, none⟩) lg).trans k0; have q1 := (hSw.cell (p := ⟨g, 1, none⟩) lg).trans k1; go_simp; try with_reducible rfl
  try simp only [Act.put, List.setIfInBounds_toArray, List.set_cons_zero, List.set_cons_succ]
  refine wpAnyF_take (i := 3) (oi := { dst := some 8, op := Go.Op.load 2 (Go.Operand.tmp 7), type := 2, pos := "ref.go:66", after := #[{ on := 2, ground := Go.Ground.data }], guard := none }) (v := ?_) rfl (by kernel_rfl) (by kernel_rfl) (by kernel_rfl) (by kernel_rfl) (fun _ _ _ h => h) (Or.inl ⟨by rfl, ?_⟩) hS ?_
  rotate_left
  · intro w' hSw; have q0 := (hSw.cell (p := ⟨g, 0, none⟩) lg).trans k0; have q1 := (hSw.cell (p := ⟨g, 1, none⟩) lg).trans k1; go_simp; try with_reducible rfl
  try simp only [Act.put, List.setIfInBounds_toArray, List.set_cons_zero, List.set_cons_succ]
  refine wpAnyF_take (i := 4) (oi := { dst := some 9, op := Go.Op.move (Go.Operand.tmp 0), type := 37, pos := "ref.go:66", after := #[], guard := none }) (v := ?_) rfl (by kernel_rfl) (by kernel_rfl) (by kernel_rfl) (by kernel_rfl) (fun _ _ _ h => h) (Or.inl ⟨by rfl, ?_⟩) hS ?_
  rotate_left
  · intro w' hSw; have q0 := (hSw.cell (p := ⟨g, 0, none⟩) lg).trans k0; have q1 := (hSw.cell (p := ⟨g, 1, none⟩) lg).trans k1; go_simp; try with_reducible rfl
  try simp only [Act.put, List.setIfInBounds_toArray, List.set_cons_zero, List.set_cons_succ]
  refine wpAnyF_take (i := 5) (oi := { dst := some 10, op := Go.Op.nilCheck (Go.Operand.tmp 9), type := 0, pos := "ref.go:66", after := #[{ on := 4, ground := Go.Ground.data }], guard := none }) (v := ?_) rfl (by kernel_rfl) (by kernel_rfl) (by kernel_rfl) (by kernel_rfl) (fun _ _ _ h => h) (Or.inl ⟨by rfl, ?_⟩) hS ?_
  rotate_left
  · intro w' hSw; have q0 := (hSw.cell (p := ⟨g, 0, none⟩) lg).trans k0; have q1 := (hSw.cell (p := ⟨g, 1, none⟩) lg).trans k1; go_simp; try with_reducible rfl
  try simp only [Act.put, List.setIfInBounds_toArray, List.set_cons_zero, List.set_cons_succ]
  refine wpAnyF_take (i := 6) (oi := { dst := some 11, op := Go.Op.fieldAddr 75 (Go.Operand.tmp 10) 1, type := 0, pos := "ref.go:66", after := #[{ on := 5, ground := Go.Ground.data }], guard := none }) (v := ?_) rfl (by kernel_rfl) (by kernel_rfl) (by kernel_rfl) (by kernel_rfl) (fun _ _ _ h => h) (Or.inl ⟨by rfl, ?_⟩) hS ?_
  rotate_left
  · intro w' hSw; have q0 := (hSw.cell (p := ⟨g, 0, none⟩) lg).trans k0; have q1 := (hSw.cell (p := ⟨g, 1, none⟩) lg).trans k1; go_simp; try with_reducible rfl
  try simp only [Act.put, List.setIfInBounds_toArray, List.set_cons_zero, List.set_cons_succ]
  refine wpAnyF_take (i := 7) (oi := { dst := some 12, op := Go.Op.load 2 (Go.Operand.tmp 11), type := 2, pos := "ref.go:66", after := #[{ on := 6, ground := Go.Ground.data }], guard := none }) (v := ?_) rfl (by kernel_rfl) (by kernel_rfl) (by kernel_rfl) (by kernel_rfl) (fun _ _ _ h => h) (Or.inl ⟨by rfl, ?_⟩) hS ?_
  rotate_left
  · intro w' hSw; have q0 := (hSw.cell (p := ⟨g, 0, none⟩) lg).trans k0; have q1 := (hSw.cell (p := ⟨g, 1, none⟩) lg).trans k1; go_simp; try with_reducible rfl
  try simp only [Act.put, List.setIfInBounds_toArray, List.set_cons_zero, List.set_cons_succ]
  refine wpAnyF_take (i := 8) (oi := { dst := some 13, op := Go.Op.binOp Go.BinOp.sub 2 (Go.Operand.tmp 8) (Go.Operand.tmp 12) 2, type := 2, pos := "ref.go:66", after := #[{ on := 3, ground := Go.Ground.data }, { on := 7, ground := Go.Ground.data }], guard := none }) (v := ?_) rfl (by kernel_rfl) (by kernel_rfl) (by kernel_rfl) (by kernel_rfl) (fun _ _ _ h => h) (Or.inl ⟨by rfl, ?_⟩) hS ?_
  rotate_left
  · intro w' hSw; have q0 := (hSw.cell (p := ⟨g, 0, none⟩) lg).trans k0; have q1 := (hSw.cell (p := ⟨g, 1, none⟩) lg).trans k1; go_simp; try with_reducible rfl
  try simp only [Act.put, List.setIfInBounds_toArray, List.set_cons_zero, List.set_cons_succ]
  refine wpAnyF_take (i := 9) (oi := { dst := some 14, op := Go.Op.move (Go.Operand.tmp 0), type := 37, pos := "ref.go:66", after := #[], guard := none }) (v := ?_) rfl (by kernel_rfl) (by kernel_rfl) (by kernel_rfl) (by kernel_rfl) (fun _ _ _ h => h) (Or.inl ⟨by rfl, ?_⟩) hS ?_
  rotate_left
  · intro w' hSw; have q0 := (hSw.cell (p := ⟨g, 0, none⟩) lg).trans k0; have q1 := (hSw.cell (p := ⟨g, 1, none⟩) lg).trans k1; go_simp; try with_reducible rfl
  try simp only [Act.put, List.setIfInBounds_toArray, List.set_cons_zero, List.set_cons_succ]
  refine wpAnyF_ready (rs := [10]) (by kernel_rfl) (by simp) ?_
  refine AllReadyF.cons (o := { dst := some 15, op := Go.Op.call { callee := Go.Callee.value (Go.Operand.func 52), args := #[Go.Operand.tmp 14], argTypes := #[37] }, type := 2, pos := "ref.go:66", after := #[{ on := 9, ground := Go.Ground.data }], guard := none }) rfl (by rfl) (fun K hK => ?_) ?_
  · go_simp
    refine (refAll_live (HR.out.grow hS) HO.out).mono ?_
    rintro e w7 ⟨rfl, hw7⟩
    rw [hw7]
    clear hw7
    rw [← HZ.out]
    refine hK.out _ _ ?_ (fun hS => ?_)
    · exact hS
    clear hK K
    try simp only [Act.put, List.setIfInBounds_toArray, List.set_cons_zero, List.set_cons_succ]
    refine wpAnyF_take (i := 11) (oi := { dst := some 16, op := Go.Op.binOp Go.BinOp.sub 2 (Go.Operand.tmp 13) (Go.Operand.tmp 15) 2, type := 2, pos := "ref.go:66", after := #[{ on := 8, ground := Go.Ground.data }, { on := 10, ground := Go.Ground.data }], guard := none }) (v := ?_) rfl (by kernel_rfl) (by kernel_rfl) (by kernel_rfl) (by kernel_rfl) (fun _ _ _ h => h) (Or.inl ⟨by rfl, ?_⟩) hS ?_
    rotate_left
    · intro w' hSw; have q0 := (hSw.cell (p := ⟨g, 0, none⟩) lg).trans k0; have q1 := (hSw.cell (p := ⟨g, 1, none⟩) lg).trans k1; go_simp; try with_reducible rfl
    try simp only [Act.put, List.setIfInBounds_toArray, List.set_cons_zero, List.set_cons_succ]
    refine wpAnyF_take (i := 12) (oi := { dst := some 2, op := Go.Op.assign (Go.Operand.tmp 16), type := 2, pos := "ref.go:66", after := #[{ on := 11, ground := Go.Ground.data }, { on := 10, ground := Go.Ground.chain }, { on := 0, ground := Go.Ground.phase }, { on := 1, ground := Go.Ground.phase }, { on := 2, ground := Go.Ground.phase }, { on := 3, ground := Go.Ground.phase }, { on := 4, ground := Go.Ground.phase }, { on := 5, ground := Go.Ground.phase }, { on := 6, ground := Go.Ground.phase }, { on := 7, ground := Go.Ground.phase }, { on := 8, ground := Go.Ground.phase }, { on := 9, ground := Go.Ground.phase }, { on := 10, ground := Go.Ground.phase }, { on := 11, ground := Go.Ground.phase }], guard := none }) (v := ?_) rfl (by kernel_rfl) (by kernel_rfl) (by kernel_rfl) (by kernel_rfl) (fun _ _ _ h => h) (Or.inl ⟨by rfl, ?_⟩) hS ?_
    rotate_left
    · intro w' hSw; have q0 := (hSw.cell (p := ⟨g, 0, none⟩) lg).trans k0; have q1 := (hSw.cell (p := ⟨g, 1, none⟩) lg).trans k1; go_simp; try with_reducible rfl
    try simp only [Act.put, List.setIfInBounds_toArray, List.set_cons_zero, List.set_cons_succ]
    refine wpAnyF_done (by kernel_rfl) ?_ _
    go_wp2_with fail
    go_ret
    exact ⟨by rw [HF.out]; rfl, hS⟩
  exact AllReadyF.nil

theorem refCopy_live {g : Nat} {a : Acc} {w : World} (h : RefAt w g a) : Calls Try.prog 17 #[.pointer (some ⟨g, 0, none⟩)] w fun e w' => e = .returned (.pointer (some ⟨w.heap.size, 0, none⟩)) ∧ Below w.heap.size w w' ∧ RefAt w' w.heap.size a := by
  obtain ⟨sl, h1, h2⟩ := h
  obtain ⟨A, c, rfl⟩ := h2.form
  have HL := Lib.hid h2
  have k0 : w.cell? ⟨g, 0, none⟩ = some (.int .i64 a.bud) := h1.cell 0
  have k1 : w.cell? ⟨g, 1, none⟩ = some (.int .i64 a.sp) := h1.cell 1
  have k2 : w.cell? ⟨g, 2, none⟩ = some (.slice A a.M.length c) := h1.cell 2
  clear h1 h2
  go_enter Try.func17, Try.ntmps17
  go_wp2_with fail
  go_ret
  exact ⟨rfl, (Below.refl _ _).alloc (Nat.le_refl _) _, _, Blk.new w _ _, HL.out.grow ((Below.refl _ _).alloc (Nat.le_refl _) _)⟩
end Go.Proofs.Ytibhmgeckghoeaa.Ac

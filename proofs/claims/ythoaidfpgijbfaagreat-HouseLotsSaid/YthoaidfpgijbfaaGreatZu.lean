import Derived.Test.YthoaidfpgijbfaaGreatZk
import Derived.Test.YthoaidfpgijbfaaGreatZn
import Derived.Test.YthoaidfpgijbfaaGreatZa
import Derived.Test.YthoaidfpgijbfaaGreatZm
import Derived.Test.YthoaidfpgijbfaaGreatZe
namespace Go.Proofs.YthoaidfpgijbfaaGreat.Ho
open Go.RowKit
open Go.Proofs.YthoaidfpgijbfaaGreat.Vb Go.Proofs.YthoaidfpgijbfaaGreat.Ac
def runs (H : House) (l : LotS) : Prop := ¬ (l.closed = true ∨ H.now < l.put.opens ∨ l.closes ≤ H.now)
set_option maxRecDepth 100000 in
set_option maxHeartbeats 8000000 in
theorem hbid_3 {W : World} {T : Nat → Part} {h pn pc K : Nat} {va vl vb vs : Value} {H : House} {bl ba ma : Nat → Nat} {i j : Nat} {a : Acc} {l : LotS} (hat : AtIt W T h pn pc va vl vb vs K H bl ba ma i j a l) (o : OrderR) (hoi : o.bidder = i) (hoj : o.lot = j) {A : Option Addr} {c : Nat} (hr : runs H l) (hk : l.put.kind = 3) {Q : World → Int → Int → World → Prop}
    (hm : ∀ W1, Below W.heap.size W W1 → Calls Tryz.prog 278 #[.agg #[], .pointer (some ⟨h, 0, none⟩), .pointer (some ⟨bl j, 0, none⟩), .pointer (some ⟨ba i, 0, none⟩), o.agg (.slice A o.offers.length c)] W1 fun e W' => ∃ v er, e = .returned (.tuple #[.int .i64 v, .int .i64 er]) ∧ Q W1 v er W') :
    Calls Tryz.prog 35 #[.pointer (some ⟨h, 0, none⟩), o.agg (.slice A o.offers.length c)] W fun e W' => ∃ v er, e = .returned (.tuple #[.int .i64 v, .int .i64 er]) ∧ ∃ W1, Below W.heap.size W W1 ∧ Q W1 v er W' := by
  obtain ⟨W1, hW1⟩ : ∃ W1, W1 = W.alloc (.cells (o.cells (.slice A o.offers.length c)).toArray 36) := ⟨_, rfl⟩
  have hb1 : Below W.heap.size W W1 := by rw [hW1]; exact (Below.refl _ _).alloc (Nat.le_refl _) _
  have hx : Blk W1 W.heap.size 36 (o.cells (.slice A o.offers.length c)).toArray := by rw [hW1]; exact Blk.new _ _ _
  have hat1 := hat.grow hb1
  obtain ⟨v, htb, hblk, _⟩ := hat1.lots j l hat1.lot
  have l11 : W1.cell? ⟨bl j, 11, none⟩ = some (kindV l.put.kind) := hblk.cell 11
  have lb := hblk.lt
  rw [hk, show kindV 3 = .iface 187 (.agg #[]) by simp [kindV]] at l11
  have HCON := hat_lot hat1.house o (.slice A o.offers.length c) hat1.arow hat1.lrow hoi hoj (List.getElem?_eq_some_iff.1 hat1.acc).1 hat1.lot (hat1.lots j l hat1.lot)
  have HB1 := Lib.hid hb1
  obtain ⟨okind, oname, ocoins, obidder, olot, ⟨kind, opens, closes, start, step, extend, last, floor, fall, count, rule⟩, ooff, otick⟩ := o
  simp only [OrderR.agg, OrderR.cells, LotR.cells, List.cons_append, List.nil_append] at hW1 hx HCON hm ⊢
  have HX1 := Lib.hid hx
  have HCN := Lib.hid HCON
  have HR := Lib.hid hr
  have HM := Lib.hid hm
  clear hat hb1 hx hr hat1 HCON hoi hoj htb hblk hm
  go_enter Tryz.func35, Tryz.ntmps35
  go_wp2_with (refine wpList_load_row rfl 36 (.tmp 3) rfl W.heap.size rfl 36 #[.int .i64 okind, .string oname, .int .i64 ocoins, .int .i64 obidder, .int .i64 olot, .int .i64 kind, .int .i64 opens, .int .i64 closes, .int .i64 start, .int .i64 step, .int .i64 extend, .int .i64 last, .int .i64 floor, .int .i64 fall, .int .i64 count, .int .i64 rule, .slice A ooff.length c, .int .i64 otick] (0, 0) _ (by rw [← hW1]; exact HX1.out) Tryz.underlying36 rfl (by kernel_rfl) ?_)
  rw [← hW1]
  clear hW1
  refine HCN.out.mono ?_
  rintro e W2 ⟨hb2, ⟨h1, _⟩ | ⟨_, rfl⟩⟩
  · exact absurd h1 HR.out
  · have HB2 := Lib.hid (HB1.out.trans (hb2.mono HB1.out.size))
    have HX2 := Lib.hid (HX1.out.grow hb2)
    have l112 := (hb2.cell (p := ⟨bl j, 11, none⟩) lb).trans l11
    have lb2 : bl j < W2.heap.size := Nat.lt_of_lt_of_le lb hb2.size
    clear hb2 l11 lb
    go_wp2_with fail
    refine wp_region_F (Below W2.heap.size W2) [8, 9, 10, 11, 12] (by kernel_rfl) ((Below.refl _ _).drew) (fun hS => ?_)
    refine wpAnyF_takeD [1, 2, 3, 8, 9, 10, 11, 12] (i := 0) (oi := ⟨some 19, .move (.tmp 6), 135, "house.go:173", #[], none⟩) (v := ?_) rfl (by kernel_rfl) (by kernel_rfl) (by kernel_rfl) (by kernel_rfl) (fun _ _ _ h => h) (Or.inl ⟨by rfl, ?_⟩) hS ?_
    rotate_left
    · intro w' _; go_simp; try with_reducible rfl
    try simp only [Act.put, pb, pz, ps]
    refine wpAnyF_takeD [2, 3, 8, 9, 10, 11, 12] (i := 1) (oi := ⟨some 20, .nilCheck (.tmp 19), 0, "house.go:173", #[⟨0, .data⟩], none⟩) (v := ?_) rfl (by kernel_rfl) (by kernel_rfl) (by kernel_rfl) (by kernel_rfl) (fun _ _ _ h => h) (Or.inl ⟨by rfl, ?_⟩) hS ?_
    rotate_left
    · intro w' _; go_simp; try with_reducible rfl
    try simp only [Act.put, pb, pz, ps]
    refine wpAnyF_takeD [3, 8, 9, 10, 11, 12] (i := 2) (oi := ⟨some 21, .fieldAddr 137 (.tmp 20) 1, 0, "house.go:173", #[⟨1, .data⟩], none⟩) (v := ?_) rfl (by kernel_rfl) (by kernel_rfl) (by kernel_rfl) (by kernel_rfl) (fun _ _ _ h => h) (Or.inl ⟨by rfl, ?_⟩) hS ?_
    rotate_left
    · intro w' _; go_simp; try with_reducible rfl
    try simp only [Act.put, pb, pz, ps]
    refine wpAnyF_takeD [8, 9, 10, 11, 12] (i := 3) (oi := ⟨some 22, .load 112 (.tmp 21), 112, "house.go:173", #[⟨2, .data⟩], none⟩) (v := ?_) rfl (by kernel_rfl) (by kernel_rfl) (by kernel_rfl) (by kernel_rfl) (fun _ _ _ h => h) (Or.inl ⟨by rfl, ?_⟩) hS ?_
    rotate_left
    · intro w' hSw; have q11 := (hSw.cell (p := ⟨bl j, 11, none⟩) lb2).trans l112; go_simp; try with_reducible rfl
    try simp only [Act.put, pb, pz, ps]
    refine wpAnyF_takeD [8, 9, 10, 11, 12] (i := 4) (oi := ⟨some 23, .move (.tmp 0), 23, "house.go:173", #[], none⟩) (v := ?_) rfl (by kernel_rfl) (by kernel_rfl) (by kernel_rfl) (by kernel_rfl) (fun _ _ _ h => h) (Or.inl ⟨by rfl, ?_⟩) hS ?_
    rotate_left
    · intro w' _; go_simp; try with_reducible rfl
    try simp only [Act.put, pb, pz, ps]
    refine wpAnyF_takeD [8, 9, 10, 11, 12] (i := 5) (oi := ⟨some 24, .move (.tmp 6), 135, "house.go:173", #[], none⟩) (v := ?_) rfl (by kernel_rfl) (by kernel_rfl) (by kernel_rfl) (by kernel_rfl) (fun _ _ _ h => h) (Or.inl ⟨by rfl, ?_⟩) hS ?_
    rotate_left
    · intro w' _; go_simp; try with_reducible rfl
    try simp only [Act.put, pb, pz, ps]
    refine wpAnyF_takeD [8, 9, 10, 11, 12] (i := 6) (oi := ⟨some 25, .move (.tmp 7), 133, "house.go:173", #[], none⟩) (v := ?_) rfl (by kernel_rfl) (by kernel_rfl) (by kernel_rfl) (by kernel_rfl) (fun _ _ _ h => h) (Or.inl ⟨by rfl, ?_⟩) hS ?_
    rotate_left
    · intro w' _; go_simp; try with_reducible rfl
    try simp only [Act.put, pb, pz, ps]
    refine wpAnyF_takeD [8, 9, 10, 11, 12] (i := 7) (oi := ⟨some 26, .load 36 (.tmp 3), 36, "house.go:173", #[], none⟩) (v := ?_) rfl (by kernel_rfl) (by kernel_rfl) (by kernel_rfl) (by kernel_rfl) (fun _ _ _ h => h) (Or.inl ⟨by rfl, ?_⟩) hS ?_
    rotate_left
    · intro w' hSw; refine Eq.trans (exec_load_row 36 (.tmp 3) (by rfl) W.heap.size (by rfl) 36 #[.int .i64 okind, .string oname, .int .i64 ocoins, .int .i64 obidder, .int .i64 olot, .int .i64 kind, .int .i64 opens, .int .i64 closes, .int .i64 start, .int .i64 step, .int .i64 extend, .int .i64 last, .int .i64 floor, .int .i64 fall, .int .i64 count, .int .i64 rule, .slice A ooff.length c, .int .i64 otick] (0, 0) _ (HX2.out.grow hSw) Tryz.underlying36 rfl (by kernel_rfl)) ?_; with_reducible rfl
    try simp only [Act.put, pb, pz, ps]
    refine wpAnyF_ready (rs := [8]) (by kernel_rfl) (by simp) ?_
    refine AllReadyF.fin (o := ⟨some 27, .call { callee := .invoke (.tmp 22) "gavel/house.bid", args := #[.tmp 23, .tmp 24, .tmp 25, .tmp 26], argTypes := #[23, 135, 133, 36] }, 97, "house.go:173", #[⟨3, .data⟩, ⟨4, .data⟩, ⟨5, .data⟩, ⟨6, .data⟩, ⟨7, .data⟩], none⟩) rfl (by rfl) (fun K hK => ?_) ?_
    · go_wp2_with fail
      refine (HM.out W2.drew HB2.out.drew).mono ?_
      rintro e W3 ⟨v, er, rfl, hq⟩
      have HQ := Lib.hid hq
      clear hq
      refine hK.out _ _ ?_
      clear hK K
      try simp only [Act.put, pb, pz, ps]
      refine wpAnyF_takeW (i := 9) (oi := ⟨some 28, .extract (.tmp 27) 0, 2, "house.go:173", #[⟨8, .data⟩], none⟩) (v := ?_) rfl (by kernel_rfl) (by kernel_rfl) (by kernel_rfl) (by kernel_rfl) (fun _ _ _ h => h) (Or.inl ⟨by rfl, ?_⟩) ?_
      rotate_left
      · intro w' _; go_simp; try with_reducible rfl
      try simp only [Act.put, pb, pz, ps]
      refine wpAnyF_takeW (i := 10) (oi := ⟨some 29, .extract (.tmp 27) 1, 25, "house.go:173", #[⟨8, .data⟩], none⟩) (v := ?_) rfl (by kernel_rfl) (by kernel_rfl) (by kernel_rfl) (by kernel_rfl) (fun _ _ _ h => h) (Or.inl ⟨by rfl, ?_⟩) ?_
      rotate_left
      · intro w' _; go_simp; try with_reducible rfl
      try simp only [Act.put, pb, pz, ps]
      refine wpAnyF_takeW (i := 11) (oi := ⟨some 4, .assign (.tmp 28), 2, "house.go:173", #[⟨9, .data⟩, ⟨8, .chain⟩, ⟨0, .phase⟩, ⟨1, .phase⟩, ⟨2, .phase⟩, ⟨3, .phase⟩, ⟨4, .phase⟩, ⟨5, .phase⟩, ⟨6, .phase⟩, ⟨7, .phase⟩, ⟨8, .phase⟩, ⟨9, .phase⟩, ⟨10, .phase⟩], none⟩) (v := ?_) rfl (by kernel_rfl) (by kernel_rfl) (by kernel_rfl) (by kernel_rfl) (fun _ _ _ h => h) (Or.inl ⟨by rfl, ?_⟩) ?_
      rotate_left
      · intro w' _; go_simp; try with_reducible rfl
      try simp only [Act.put, pb, pz, ps]
      refine wpAnyF_takeW (i := 12) (oi := ⟨some 5, .assign (.tmp 29), 25, "house.go:173", #[⟨10, .data⟩, ⟨11, .chain⟩, ⟨0, .phase⟩, ⟨1, .phase⟩, ⟨2, .phase⟩, ⟨3, .phase⟩, ⟨4, .phase⟩, ⟨5, .phase⟩, ⟨6, .phase⟩, ⟨7, .phase⟩, ⟨8, .phase⟩, ⟨9, .phase⟩, ⟨10, .phase⟩, ⟨11, .phase⟩], none⟩) (v := ?_) rfl (by kernel_rfl) (by kernel_rfl) (by kernel_rfl) (by kernel_rfl) (fun _ _ _ h => h) (Or.inl ⟨by rfl, ?_⟩) ?_
      rotate_left
      · intro w' _; go_simp; try with_reducible rfl
      try simp only [Act.put, pb, pz, ps]
      refine wpAnyF_done (by kernel_rfl) ?_ _
      clear hS l112 lb2
      go_wp2_with fail
      go_ret2
      exact ⟨v, er, rfl, _, HB2.out.drew, HQ.out⟩
    exact AllReadyF.nil
end Go.Proofs.YthoaidfpgijbfaaGreat.Ho
namespace Go.Proofs.YthoaidfpgijbfaaGreat.Ac
open Go.RowKit
open Go.Proofs.YthoaidfpgijbfaaGreat.Vb
structure KeepX (X : Nat → Prop) (lo hi : Nat) (W W' : World) : Prop where
  r : KeepR lo hi W W'
  old : ∀ b, X b → W'.heap[b]? = W.heap[b]?
theorem KeepX.refl (X : Nat → Prop) (lo hi : Nat) (W : World) : KeepX X lo hi W W := ⟨KeepR.refl _ _ _, fun _ _ => rfl⟩
theorem KeepX.trans {X : Nat → Prop} {lo hi : Nat} {A B C : World} (h : KeepX X lo hi A B) (k : KeepX X lo hi B C) : KeepX X lo hi A C := ⟨h.r.trans k.r, fun b hb => (k.old b hb).trans (h.old b hb)⟩
theorem KeepX.set {X : Nat → Prop} {lo hi : Nat} (W : World) {p : Addr} (hp : p.block < lo ∨ hi ≤ p.block) (hx : ¬ X p.block) (u : Value) : KeepX X lo hi W (W.setCell p u) :=
  ⟨KeepR.set W hp u, fun b hb => Below.heap_setCell W p u b (fun e => hx (e ▸ hb))⟩
def SeqStopsX {α : Type} (F : Fence) (n : Nat) (P : Program) (g : Nat) (lb : Array Value) (encs : α → Array Value) (X : Nat → Prop) (S Sp : List α → Prop) (N : Nat) (w : World) : Prop :=
  ∀ (l : Nat) (J Jx : Nat → List α → World → Prop) (W : World), Below w.heap.size w W → (∀ hi, AbidesFrom W.heap.size (J hi)) → (∀ hi, AbidesFrom W.heap.size (Jx hi)) →
    (∀ hi pre x W1, hi ≤ W1.heap.size → J hi pre W1 → Sp (pre ++ [x]) → pre.length < N → YieldAt F (n - 1) P l (encs x) W1 fun e W' =>
      (e = .returned (.bool true) ∧ J hi (pre ++ [x]) W' ∧ KeepX X W.heap.size hi W1 W') ∨ (e = .returned (.bool false) ∧ Jx hi (pre ++ [x]) W')) →
    (∀ W0, Below W.heap.size W W0 → J W0.heap.size [] W0) →
    CallsIn F n P g (#[.func (.yield l) #[] #[]] ++ lb) W fun e W' => (∃ v, e = .returned v) ∧ ∃ hi, W.heap.size ≤ hi ∧ ((∃ xs, S xs ∧ J hi xs W') ∨ (∃ pre, Sp pre ∧ Jx hi pre W'))
variable {F : Fence} {n : Nat} {P : Program}
end Go.Proofs.YthoaidfpgijbfaaGreat.Ac
namespace Go.Proofs.YthoaidfpgijbfaaGreat.Ac
open Go.RowKit
open Go.Proofs.YthoaidfpgijbfaaGreat.Vb
variable {F : Fence} {n : Nat} {P : Program}
end Go.Proofs.YthoaidfpgijbfaaGreat.Ac
namespace Go.Proofs.YthoaidfpgijbfaaGreat.Ho
open Go.RowKit Go.Shelf
open Go.Proofs.YthoaidfpgijbfaaGreat.Vb Go.Proofs.YthoaidfpgijbfaaGreat.Ac
attribute [local go_sem] Oper.semAt_some
theorem RowAt.same {W W' : World} {R : Nat → Prop} {e : TypeId} {sz n : Nat} {v : Value} {xs : List Value} (h : RowAt W R e sz v n xs) (hs : ∀ b, v.ownBlock = some b → W'.heap[b]? = W.heap[b]?) : RowAt W' R e sz v n xs := by
  refine ⟨⟨h.own.1, ?_⟩, h.blk⟩
  rcases h.own.2 with h2 | ⟨g, cap, cur, hv, hb, hg, r⟩
  · exact .inl h2
  · exact .inr ⟨g, cap, cur, hv, hb, (hs g (by rw [hv]; rfl)).trans hg, r⟩
theorem saleCells_one (ss : List SaleR) : ∀ u ∈ ss.flatMap SaleR.cells, u.oneCell' = true := by
  intro u hu
  obtain ⟨s, _, hs⟩ := List.mem_flatMap.1 hu
  unfold SaleR.cells at hs
  simp at hs
  rcases hs with rfl | rfl | rfl | rfl | rfl | rfl | rfl <;> rfl
set_option maxHeartbeats 400000 in
theorem clone_sales (ss : List SaleR) (v : Value) (R : Nat → Prop) (w : World) (hl : Sl w R v ss.length 7 (ss.flatMap SaleR.cells)) (hb : ss.length ≤ 1000000) :
    Calls Tryz.prog 41 #[v] w fun e w' => ∃ A' cap', e = .returned (.slice A' ss.length cap') ∧ RowAt w' (fun b => w.heap.size ≤ b) 44 7 (.slice A' ss.length cap') ss.length (ss.flatMap SaleR.cells) ∧ Below w.heap.size w w' := by
  have h1 := saleCells_one ss
  obtain ⟨xs, hxs⟩ : ∃ xs, xs = ss.flatMap SaleR.cells := ⟨_, rfl⟩
  obtain ⟨n, hn⟩ : ∃ n, n = ss.length := ⟨_, rfl⟩
  rw [← hxs] at hl h1 ⊢
  rw [← hn] at hl hb ⊢
  obtain ⟨hlen, A, cap, rfl, hncap, hcap, hcells⟩ := id hl
  have HS := Lib.hid hl
  clear hl hcells hxs hn
  have hq := fun (W : World) (a : Option Addr) => Lib.run_eql_slice_nil (P := Tryz.prog) W 38 44 a n cap 0 0 Tryz.underlying38
  cases A with
  | none =>
    have hn : n = 0 := by
      obtain ⟨_, A, c, h, _, _, hc⟩ := HS.out
      injection h with hA _ _
      subst hA
      rcases Nat.eq_zero_or_pos n with h0 | h0
      · exact h0
      · obtain ⟨b, off, h, _⟩ := hc h0
        cases h
    subst hn
    have hx : xs = [] := List.eq_nil_of_length_eq_zero (by simpa using hlen)
    subst hx
    go_enter Tryz.func41, Tryz.ntmps41
    go_wp2
    go_ret
    exact ⟨none, 0, rfl, RowAt.nil, Below.refl _ _⟩
  | some ad =>
    clear hlen
    go_enter Tryz.func41, Tryz.ntmps41
    go_wp2_with (at_builtin; refine wpList_app _ rfl (.tmp 5) (.tmp 6) et_sales rfl w.heap.size (.slice (some ⟨w.heap.size, 0, none⟩) 0 0) 0 [] rfl (World.ownsRow_lit w #[] 0 (Nat.le_refl _) (Nat.zero_le _) rfl) R _ n xs rfl (HS.out.alloc _) h1 (by omega) (by unfold maxLen; omega) (by simp) ?_; intro A' cap' w1 hown hg hloc)
    go_ret
    have hown2 : w1.ownsRow w.heap.size 44 7 (.slice A' n cap') n xs := by simpa using hown
    refine ⟨A', cap', by simp, ⟨own_mono hown2 (Nat.zero_le _), fun b hb => (hown2.lt b hb).1⟩, ((Below.refl _ _).alloc (Nat.le_refl _) _).grown hg (by simp) (by simp [Value.ownBlock])⟩
theorem hsales_any {W : World} {T : Nat → Part} {h K : Nat} {H : House} (hH : HouseIn W T h K H) (hl : H.sales.length ≤ 1000000) :
    Calls Tryz.prog 11 #[.pointer (some ⟨h, 0, none⟩)] W fun e W' => ∃ A c, e = .returned (.slice A H.sales.length c) ∧ RowAt W' (fun b => W.heap.size ≤ b) 44 7 (.slice A H.sales.length c) H.sales.length (H.sales.flatMap SaleR.cells) ∧ Below W.heap.size W W' := by
  obtain ⟨pn, pc, va, vl, vb, vs, hA⟩ := id hH
  have c5 := hA.cells.2.2.2.2.2.1
  have HCL := Lib.hid (clone_sales H.sales vs _ W hA.sales.sl hl)
  have HH := Lib.hid hH
  obtain ⟨A, c, hv⟩ := hA.sales.form
  subst hv
  clear hH hA
  go_enter Tryz.func11, Tryz.ntmps11
  go_wp2_with fail
  refine (hnone_any HH.out).mono ?_
  rintro e W2 ⟨rfl, rfl⟩
  go_wp2_with fail
  refine HCL.out.mono ?_
  rintro e W3 ⟨A', c', rfl, hr, hb⟩
  have HR := Lib.hid hr
  clear hr
  go_wp2_with fail
  go_ret
  exact ⟨A', c', rfl, HR.out, hb⟩
def salesL (n : Nat) (ss : List SaleR) : List (Int × SaleR) := (ss.mapIdx fun i s => ((i : Int), s)).drop n
theorem salesL_len (n : Nat) (ss : List SaleR) : (salesL n ss).length = ss.length - n := by simp [salesL]
theorem salesL_at {n j : Nat} {ss : List SaleR} {s : SaleR} (h : ss[n + j]? = some s) : (salesL n ss)[j]? = some (((n + j : Nat) : Int), s) := by
  unfold salesL
  rw [List.getElem?_drop, List.getElem?_mapIdx, h]
  rfl
def salesV (g gl : Nat) : Value := .func (.func 110) #[] #[.pointer (some ⟨g, 0, none⟩), .pointer (some ⟨gl, 0, none⟩)]
def SalesX (g gl : Nat) (v : Value) : Nat → Prop := fun b => b = g ∨ b = gl ∨ v.ownBlock = some b
structure SFAt (W : World) (lo g gl n : Nat) (v : Value) (ss : List SaleR) : Prop where
  num : Ac.Blk W g 3 #[.int .i64 n]
  box : Ac.Blk W gl 38 #[v]
  row : RowAt W (fun b => lo ≤ b) 44 7 v ss.length (ss.flatMap SaleR.cells)
section
variable {W W' : World} {lo g gl n : Nat} {v : Value} {ss : List SaleR}
theorem SFAt.same (h : SFAt W lo g gl n v ss) (hs : ∀ b, SalesX g gl v b → W'.heap[b]? = W.heap[b]?) : SFAt W' lo g gl n v ss :=
  ⟨(hs g (.inl rfl)).trans h.num, (hs gl (.inr (.inl rfl))).trans h.box, h.row.same fun b hb => hs b (.inr (.inr hb))⟩
theorem SFAt.x_lt (h : SFAt W lo g gl n v ss) {b : Nat} (hb : SalesX g gl v b) : b < W.heap.size := by
  rcases hb with rfl | rfl | hb
  · exact h.num.lt
  · exact h.box.lt
  · exact h.row.lt hb
theorem SFAt.grow (h : SFAt W lo g gl n v ss) (hb : Below W.heap.size W W') : SFAt W' lo g gl n v ss := h.same fun b hx => hb.block b (h.x_lt hx)
end
theorem salesFrom_any {W : World} {T : Nat → Part} {h K : Nat} {H : House} (hH : HouseIn W T h K H) (hl : H.sales.length ≤ 1000000) {x : Int} (hx : x ≤ 9223372036854775807) :
    Calls Tryz.prog 59 #[.pointer (some ⟨h, 0, none⟩), .int .i64 x] W fun e W' => ∃ g gl v, e = .returned (salesV g gl) ∧ SFAt W' W.heap.size g gl (max x 0).toNat v H.sales ∧ W.heap.size ≤ g ∧ W.heap.size ≤ gl ∧ Below W.heap.size W W' := by
  obtain ⟨n, hn⟩ : ∃ n : Nat, max x 0 = n := ⟨(max x 0).toNat, by omega⟩
  rw [hn, Int.toNat_natCast]
  have hb1 : Below W.heap.size W (W.alloc (.cells #[.int .i64 n] 3)) := (Below.refl _ _).alloc (Nat.le_refl _) _
  obtain ⟨W1, hW1⟩ : ∃ W1, W1 = W.alloc (.cells #[.int .i64 n] 3) := ⟨_, rfl⟩
  rw [← hW1] at hb1
  have HS := Lib.hid (hsales_any (hH.grow hb1) hl)
  have HB1 := Lib.hid hb1
  have HX1 := Lib.hid (show Ac.Blk W1 W.heap.size 3 #[.int .i64 n] by rw [hW1]; exact Blk.new _ _ _)
  clear hH hb1
  go_enter Tryz.func59, Tryz.ntmps59
  go_wp2_with fail
  rw [← hW1]
  clear hW1
  refine HS.out.mono ?_
  rintro e W2 ⟨A, c, rfl, hr, hb2⟩
  have HR := Lib.hid hr
  have HX2 := Lib.hid (HX1.out.grow hb2)
  have HB2 := Lib.hid (HB1.out.trans (hb2.mono HB1.out.size))
  have hsz := HB1.out.size
  clear hr hb2
  go_wp2_with fail
  go_ret
  refine ⟨_, _, .slice A H.sales.length c, rfl, ⟨HX2.out.alloc _, Blk.new _ _ _, (HR.out.grow ((Below.refl _ _).alloc (Nat.le_refl _) _)).mono fun b _ hb => by omega⟩, Nat.le_refl _, HB2.out.size, HB2.out.alloc HB2.out.size _⟩
abbrev SaleR.agg (s : SaleR) : Value := .agg #[.int .i64 s.number, .int .i64 s.lot, .int .i64 s.bidder, .int .i64 s.coins, .int .u32 s.goods, .int .i64 s.count, .int .i64 s.tick]
set_option maxRecDepth 100000 in
set_option maxHeartbeats 2000000 in
theorem sf1_in (nn : Nat) (hn : 1 ≤ nn) (l lo g gl n : Nat) (v : Value) (ss : List SaleR) (hl : ss.length ≤ 1000000) (J Jx : Nat → List (Int × SaleR) → World → Prop) (W : World) (hv : SFAt W lo g gl n v ss)
    (hY : ∀ hi pre x W1, hi ≤ W1.heap.size → J hi pre W1 → pre ++ [x] <+: salesL n ss → pre.length < (salesL n ss).length → YieldAt Fence.wide (nn - 1) Tryz.prog l #[.int .i64 x.1, x.2.agg] W1 fun e W' =>
      (e = .returned (.bool true) ∧ J hi (pre ++ [x]) W' ∧ KeepX (SalesX g gl v) W.heap.size hi W1 W') ∨ (e = .returned (.bool false) ∧ Jx hi (pre ++ [x]) W'))
    (h0 : ∀ W0, Below W.heap.size W W0 → J W0.heap.size [] W0) :
    CallsIn Fence.wide nn Tryz.prog 110 #[.func (.yield l) #[] #[], .pointer (some ⟨g, 0, none⟩), .pointer (some ⟨gl, 0, none⟩)] W fun e W' => (∃ v, e = .returned v) ∧
      ∃ hi, W.heap.size ≤ hi ∧ ((∃ xs, xs = salesL n ss ∧ J hi xs W') ∨ (∃ pre, pre <+: salesL n ss ∧ Jx hi pre W')) := by
  refine callsIn_of_wp Tryz.func110 rfl trivial ?_ rfl
  have g0 : W.cell? ⟨g, 0, none⟩ = some (.int .i64 n) := hv.num.cell 0
  obtain ⟨A, cp, hvv⟩ := hv.row.form
  obtain ⟨m, hm⟩ : ∃ m, m = ss.length := ⟨_, rfl⟩
  have HV := Lib.hid hv
  have HY := Lib.hid hY
  have H0 := Lib.hid h0
  have HM := Lib.hid hm
  have HVV := Lib.hid hvv
  have HLL := Lib.hid (salesL_len n ss)
  clear hY h0 hv hm hvv
  simp only [Tryz.ntmps110, List.size_toArray, List.length_cons, List.length_nil, Nat.reduceAdd, Nat.reduceSub, Array.replicate_succ, Array.replicate_zero, List.push_toArray, List.append_toArray, List.nil_append, List.cons_append]
  gi_wp2
  clear g0
  gi_loopw [4] (fun i wr => ∃ k j : Nat, k = n + j ∧ j ≤ (salesL n ss).length ∧ i = .int .i64 k ∧ J W.heap.size ((salesL n ss).take j) wr ∧ KeepX (SalesX g gl v) W.heap.size W.heap.size W wr) (fun i _ => n + m - (intOf i).toNat)
  case atStart => exact ⟨n, 0, rfl, Nat.zero_le _, rfl, H0.out W (Below.refl _ _), KeepX.refl _ _ _ _⟩
  case round =>
    obtain ⟨k, j, hk, hj, rfl, hJs, hnx⟩ := hrel
    have hvr := HV.out.same (W' := wr) hnx.old
    have HJ := Lib.hid hJs
    have HNX := Lib.hid hnx
    have hsz := hnx.r.size
    have l0 : wr.cell? ⟨gl, 0, none⟩ = some (.slice A m cp) := by have := hvr.box.cell 0; rw [HVV.out, ← HM.out] at this; exact this
    clear hJs hnx
    have HK := Lib.hid hk
    have HJL := Lib.hid hj
    by_cases hlt : k < m
    · obtain ⟨s, hs⟩ : ∃ s, ss[n + j]? = some s := ⟨_, List.getElem?_eq_getElem (by rw [← HM.out]; omega)⟩
      have hjl : j < (salesL n ss).length := by rw [HLL.out, ← HM.out]; omega
      have hp := salesL_at hs
      have hro := hvr.row
      rw [HVV.out, ← HM.out] at hro
      obtain ⟨b, off, rfl, _, hbl, hcs⟩ := sl_sale (A := A) (n := m) (c := cp) hro.sl hs (by omega)
      have c0 : wr.cell? ⟨b, off + k * 7, none⟩ = some (.int .i64 s.number) := by rw [hk]; exact hcs 0 _ rfl
      have c1 : wr.cell? ⟨b, off + k * 7 + 1, none⟩ = some (.int .i64 s.lot) := by rw [hk]; exact hcs 1 _ rfl
      have c2 : wr.cell? ⟨b, off + k * 7 + 2, none⟩ = some (.int .i64 s.bidder) := by rw [hk]; exact hcs 2 _ rfl
      have c3 : wr.cell? ⟨b, off + k * 7 + 3, none⟩ = some (.int .i64 s.coins) := by rw [hk]; exact hcs 3 _ rfl
      have c4 : wr.cell? ⟨b, off + k * 7 + 4, none⟩ = some (.int .u32 s.goods) := by rw [hk]; exact hcs 4 _ rfl
      have c5 : wr.cell? ⟨b, off + k * 7 + 5, none⟩ = some (.int .i64 s.count) := by rw [hk]; exact hcs 5 _ rfl
      have c6 : wr.cell? ⟨b, off + k * 7 + 6, none⟩ = some (.int .i64 s.tick) := by rw [hk]; exact hcs 6 _ rfl
      have hsu : (salesL n ss).take (j + 1) = (salesL n ss).take j ++ [((k : Int), s)] := by rw [List.take_add_one, hp, hk]; rfl
      have hlj : ((salesL n ss).take j).length < (salesL n ss).length := by rw [List.length_take]; omega
      have HSU := Lib.hid hsu
      obtain ⟨fn, tmps, assign, body, hy, hRR⟩ := HY.out W.heap.size _ ((k : Int), s) wr hsz HJ.out (by rw [← hsu]; exact List.take_prefix _ _) hlj
      obtain ⟨sn, sl, sb, sc, sg, sct, st⟩ := s
      dsimp only [SaleR.agg] at hy c0 c1 c2 c3 c4 c5 c6
      have HRR := Lib.hid hRR
      have e0 : (0 : Int) ≤ (k : Int) := by omega
      have e1 : (k : Int) < (m : Int) := by omega
      have hwr : IntKind.i64.wrap ((k : Int) + 1) = (k : Int) + 1 := IntWalk.i64_in _ (by have := HM.out; omega)
      have HMB := Lib.hid (show j < (salesL n ss).length from hjl)
      clear hs hp hsu hlj hRR hro hvr hcs hk hj hjl
      gi_wp2
      refine HRR.out.mono ?_
      rintro e W3 (⟨rfl, hJ3, hk3⟩ | ⟨rfl, hJx3⟩)
      · gi_wp2
        go_roundw
        case rel => exact ⟨k + 1, j + 1, by have := HK.out; omega, HMB.out, by go_num, by rw [HSU.out]; exact hJ3, HNX.out.trans hk3⟩
        case measure => simp [intOf]; omega
      · gi_wp2
        refine bodyPost_ret (results_none rfl _ _ _) rfl ?_
        exact ⟨⟨_, rfl⟩, W.heap.size, Nat.le_refl _, .inr ⟨_, by rw [← HSU.out]; exact List.take_prefix _ _, hJx3⟩⟩
    · have hjj : j = (salesL n ss).length := by have := HLL.out; have := HM.out; omega
      clear hvr hk hj
      have e1 : ¬ (k : Int) < (m : Int) := by omega
      have HJJ := Lib.hid hjj
      clear hjj
      gi_wp2
      go_end0
      have := HJ.out
      rw [HJJ.out, List.take_of_length_le (Nat.le_refl _)] at this
      exact ⟨⟨_, rfl⟩, W.heap.size, Nat.le_refl _, .inl this⟩
theorem sf1_stops (nn : Nat) (hn : 1 ≤ nn) (lo g gl n : Nat) (v : Value) (ss : List SaleR) (hl : ss.length ≤ 1000000) (w : World) (hv : SFAt w lo g gl n v ss) :
    SeqStopsX Fence.wide nn Tryz.prog 110 #[.pointer (some ⟨g, 0, none⟩), .pointer (some ⟨gl, 0, none⟩)] (fun x : Int × SaleR => #[Value.int .i64 x.1, x.2.agg]) (SalesX g gl v) (fun ys => ys = salesL n ss) (fun pre => pre <+: salesL n ss) (salesL n ss).length w := fun l J Jx W hW _ _ hY h0 =>
  sf1_in nn hn l lo g gl n v ss hl J Jx W (hv.grow hW) hY h0
end Go.Proofs.YthoaidfpgijbfaaGreat.Ho
namespace Go.Proofs.YthoaidfpgijbfaaGreat.Ac
open Go.RowKit
open Go.Proofs.YthoaidfpgijbfaaGreat.Vb
variable {F : Fence} {n : Nat} {P : Program}
theorem wpIn_rangeFunc_A {α : Type} {g : Operand} {ps : Array Tmp} {assign body : Code} {Q : Exit → Act → World → Prop} {a : Act} {w : World}
    (hro : F.round = none) (h1 : 1 ≤ n) {gf : Nat} {lb : Array Value} (hg : a.eval g = .func (.func gf) #[] lb) (hFg : F.fn gf) (eg : ∀ args w, (callFunc gf args).run P w = .ok (.enter gf args) w)
    {encs : α → Array Value} {X : Nat → Prop} {S Sp : List α → Prop} {N : Nat} {w0 : World} (hseq : SeqStopsX F (n - 1) P gf lb encs X S Sp N w0) (hX : ∀ b, X b → b < w0.heap.size)
    (hb0 : Below w0.heap.size w0 w) (hps : ∀ x, (encs x).size = ps.size)
    (I : Nat → List α → World → Prop) (Ix : Nat → Code → List α → World → Prop) (hI : ∀ hi, OwnFrom w.heap.size (I hi)) (hIx : ∀ hi c, OwnFrom w.heap.size (Ix hi c)) (h0 : ∀ W0, Below w.heap.size w W0 → I W0.heap.size [] W0) (ob : α → Obj) (a₁ : α → Nat → Act)
    (hassign : ∀ (l : Nat) (x : α) (W : World) (g : Nat) (K : Act → World → Prop), g = W.heap.size → K (a₁ x g) (W.alloc (ob x)) →
      assign.wpIn (F.inRound l) (n - 1 - 1) P (Exit.then K (fun _ _ _ => False)) { tmps := (ps.zip (encs x)).foldl (fun t (p, v) => t.setIfInBounds p v) a.tmps, defers := [] } W)
    (hbody : ∀ (hi l g : Nat) (pre : List α) (x : α) (W : World), hi ≤ g → w.heap.size + 2 ≤ g → W.heap[g]? = some (ob x) → I hi pre W → Sp (pre ++ [x]) → pre.length < N → body.wpIn (F.inRound l) (n - 1 - 1) P (ownPostK (KeepX X (w.heap.size + 2) hi) (I hi) (Ix hi) (pre ++ [x]) W) (a₁ x g) W)
    (hdone : ∀ (hi D : Nat) (xs : List α) (W : World), w.heap.size ≤ D → S xs → I hi xs W → W.heap[D]? = some (.deferred (some [])) → Q .normal { a with defers := { target := .collected D, args := #[] } :: a.defers } W)
    (hstop : ∀ (hi D : Nat) (c : Code) (pre : List α) (W : World), w.heap.size ≤ D → Sp pre → Ix hi c pre W → W.heap[D]? = some (.deferred (some [])) → c.wpIn F n P Q { a with defers := { target := .collected D, args := #[] } :: a.defers } W) :
    (Code.rangeFunc g ps assign body).wpIn F n P Q a w := by
  refine wpIn_rangeFunc fun fn hfn => ?_
  rw [hro]
  obtain ⟨L, hL⟩ : ∃ L : LoopState → Option Code → Loop, L = fun st pe => { state := st, pending := pe, fn, tmps := a.tmps, params := ps, assign, body, defers := w.heap.size } := ⟨_, rfl⟩
  obtain ⟨U, hU⟩ : ∃ U, U = (w.alloc (.deferred (some []))).alloc (.loop (L .ready none)) := ⟨_, rfl⟩
  have hRU : RecAt U w.heap.size (L .ready none) := by
    subst hU
    constructor
    · have := World.alloc_heap_new (w.alloc (.deferred (some []))) (.loop (L .ready none))
      rwa [World.size_alloc] at this
    · exact (Below.heap_alloc _ _ _ (by simp)).trans (World.alloc_heap_new w _)
  have hsU : U.heap.size = w.heap.size + 2 := by rw [hU]; simp
  have hwU : Below w.heap.size w U := by subst hU; exact (((Below.refl _ w).alloc (Nat.le_refl _) _).alloc (by simp) _)
  have hBU : Below w0.heap.size w0 U := hb0.trans (hwU.mono hb0.size)
  have recB : ∀ W0, Below U.heap.size U W0 → RecAt W0 w.heap.size (L .ready none) := fun W0 h => ⟨(h.block _ (by omega)).trans hRU.1, (h.block _ (by omega)).trans hRU.2⟩
  refine ⟨w.heap.size + 1, [{ target := .collected w.heap.size, args := #[] }], U, { target := .fn (.func gf) lb, args := #[.func (.yield (w.heap.size + 1)) #[] #[]] }, U, gf, #[.func (.yield (w.heap.size + 1)) #[] #[]] ++ lb, U, ?_, ?_, ?_, ?_, fun _ => h1, ?_⟩
  · rw [hU, hL]
    exact run_enterLoop_outer _ _ _ _ _
  · simp only [resolve, hg]
    simp [go_sem]
  · intro f' hf'
    simp [Target.leads] at hf'
    subst hf'
    exact hFg
  · simp [invoke, go_sem, eg]
  · have toCells : ∀ {A : World} {row : Option Nat}, (∀ r, row = some r → U.heap.size ≤ r ∧ ∃ o : Obj, A.heap[r]? = some o ∧ o.isWalk = true) → ∀ r, row = some r → w.heap.size ≤ r ∧ ∃ o : Obj, A.heap[r]? = some o ∧ o.isCells = false := by
      intro A row hr r e
      obtain ⟨h1, o, h2, h3⟩ := hr r e
      exact ⟨by omega, o, h2, Obj.not_cells_of_walk h3⟩
    refine (hseq (w.heap.size + 1) (fun hi pre W => I hi pre W ∧ RecAt W w.heap.size (L .ready none)) (fun hi pre W => ∃ c, Ix hi c pre W ∧ RecAt W w.heap.size (L .done (some c))) U hBU ?_ ?_ ?_ (fun W0 hW0 => ⟨h0 W0 (hwU.trans (hW0.mono (by omega))), recB W0 hW0⟩)).mono ?_
    · exact fun hi s A B row hs hg' hr => ⟨hI hi s A B row hs.1 hg' (toCells hr), hs.2.abides hg' fun r e => (hr r e).2⟩
    · rintro hi s A B row ⟨c, hc, hrec⟩ hg' hr
      exact ⟨c, hIx hi c s A B row hc hg' (toCells hr), hrec.abides hg' fun r e => (hr r e).2⟩
    · rintro hi pre x W hhi ⟨hi0, hrec⟩ hsp hlen
      have hready : (L .ready none).state = .ready := by rw [hL]
      have hy := run_yield (P := P) (args := encs x) hrec.1 (by rw [hL]; exact hps x)
      rw [hL] at hy
      have hwlt : w.heap.size + 1 < W.heap.size := (Array.getElem?_eq_some_iff.1 hrec.1).1
      obtain ⟨V, hV⟩ : ∃ V, V = W.alloc (ob x) := ⟨_, rfl⟩
      have hbV : Below W.heap.size W V := by rw [hV]; exact (Below.refl _ _).alloc (Nat.le_refl _) _
      have hgV : V.heap[W.heap.size]? = some (ob x) := by rw [hV]; exact World.alloc_heap_new W _
      have hrecV : RecAt V w.heap.size (L .ready none) := ⟨(hbV.block _ hwlt).trans hrec.1, (hbV.block _ (by omega)).trans hrec.2⟩
      have hiV : I hi pre V := by rw [hV]; exact (hI hi).alloc _ hi0
      refine ⟨fn, _, assign, body, hy, roundIn_of_wpIn hfn (hassign _ x W _ _ rfl ?_)⟩
      rw [← hV]
      refine ⟨_, run_beginRound hrecV.1 hready, ?_⟩
      have hbusy : RecAt (V.putObj (w.heap.size + 1) (.loop { L .ready none with state := .busy })) w.heap.size { L .ready none with state := .busy } := hrecV.put
      have kb : ∀ (V : World) (o : Obj), KeepX X U.heap.size hi V (V.putObj (w.heap.size + 1) o) := fun V o => ⟨⟨by simp, fun i h1 _ => World.putObj_heap_other (by omega)⟩, fun b hb => World.putObj_heap_other (by have := hX b hb; have := hb0.size; omega)⟩
      have kV : KeepX X U.heap.size hi W V := ⟨⟨hbV.size, fun i _ h2 => hbV.block i (by omega)⟩, fun b hb => hbV.block b (by have := hX b hb; have := hb0.size; omega)⟩
      refine wpIn_mono (hbody hi _ W.heap.size pre x _ hhi (by omega) ((World.putObj_heap_other (by omega)).trans hgV) ((hI hi).putObj _ hiV (by omega) hrecV.1 rfl) hsp hlen) ?_
      have shut : ∀ (jump : Option Code) (W3 : World), KeepsOthers (V.putObj (w.heap.size + 1) (.loop { L .ready none with state := .busy })) W3 →
          (Instr.endRound (w.heap.size + 1) jump).run P W3 = .ok (.bool jump.isNone) (W3.putObj (w.heap.size + 1) (.loop (L (if jump.isNone then .ready else .done) jump))) ∧
          RecAt W3 w.heap.size { L .ready none with state := .busy } ∧ RecAt (W3.putObj (w.heap.size + 1) (.loop (L (if jump.isNone then .ready else .done) jump))) w.heap.size (L (if jump.isNone then .ready else .done) jump) := by
        intro jump W3 hk3
        have h3 := hbusy.others hk3
        have hr := run_endRound (P := P) jump h3.1
        rw [hL] at hr h3 ⊢
        exact ⟨hr, h3, h3.put⟩
      rintro e a3 W3 hp
      cases e with
      | normal =>
        obtain ⟨hk3, hkp3, hi3⟩ := hp
        obtain ⟨hr, hb3, hn3⟩ := shut none W3 hk3
        rw [← hsU] at hkp3
        exact ⟨_, _, hr, .inl ⟨rfl, ⟨(hI hi).putObj _ hi3 (by omega) hb3.1 rfl, hn3⟩, ((kV.trans (kb _ _)).trans hkp3).trans (kb _ _)⟩⟩
      | ret =>
        obtain ⟨hr, hb3, hn3⟩ := shut (some .ret) W3 hp.1
        exact ⟨_, _, hr, .inr ⟨rfl, .ret, (hIx hi _).putObj _ hp.2 (by omega) hb3.1 rfl, hn3⟩⟩
      | exit id =>
        obtain ⟨hr, hb3, hn3⟩ := shut (some (.exit id)) W3 hp.1
        exact ⟨_, _, hr, .inr ⟨rfl, .exit id, (hIx hi _).putObj _ hp.2 (by omega) hb3.1 rfl, hn3⟩⟩
      | goto t =>
        obtain ⟨hr, hb3, hn3⟩ := shut (some (.goto t)) W3 hp.1
        exact ⟨_, _, hr, .inr ⟨rfl, .goto t, (hIx hi _).putObj _ hp.2 (by omega) hb3.1 rfl, hn3⟩⟩
      | panic ch => exact hp.elim
      | outgrown => exact hp.elim
    · have over : ∀ {st : LoopState} {pe : Option Code} {W2 : World}, st ≠ .busy → RecAt W2 w.heap.size (L st pe) → ∃ o, (Instr.endLoop (w.heap.size + 1)).run P W2 = .ok pe (W2.putObj (w.heap.size + 1) o) := by
        intro st pe W2 hst h2
        have hr := run_endLoop (P := P) h2.1 (by rw [hL]; exact hst)
        rw [hL] at hr
        exact ⟨_, hr⟩
      rintro e W2 ⟨⟨v, rfl⟩, hi, _, (⟨xs, hS, hi0, hrec⟩ | ⟨pre, hSp, c, hi0, hrec⟩)⟩
      · obtain ⟨o, hr⟩ := over (by simp) hrec
        exact ⟨none, _, hr, hdone hi _ xs _ (Nat.le_refl _) hS ((hI hi).putObj _ hi0 (by omega) hrec.1 rfl) ((World.putObj_heap_other (by omega)).trans hrec.2)⟩
      · obtain ⟨o, hr⟩ := over (by simp) hrec
        exact ⟨some c, _, hr, hstop hi _ c pre _ (Nat.le_refl _) hSp ((hIx hi c).putObj _ hi0 (by omega) hrec.1 rfl) ((World.putObj_heap_other (by omega)).trans hrec.2)⟩
end Go.Proofs.YthoaidfpgijbfaaGreat.Ac
namespace Go.Proofs.YthoaidfpgijbfaaGreat.Ho
open Go.RowKit Go.Shelf
open Go.Proofs.YthoaidfpgijbfaaGreat.Vb Go.Proofs.YthoaidfpgijbfaaGreat.Ac
attribute [local go_sem] Oper.semAt_some
def sumC : List SaleR → Int
  | [] => 0
  | s :: ss => s.coins + sumC ss
theorem sumC_append (a b : List SaleR) : sumC (a ++ b) = sumC a + sumC b := by
  induction a with
  | nil => simp [sumC]
  | cons s a ih => simp only [List.cons_append, sumC, ih]; omega
theorem sumC_bound {a : List SaleR} (h : ∀ s ∈ a, coin s.coins) : 0 ≤ sumC a ∧ sumC a ≤ 1099511627776 * a.length := by
  induction a with
  | nil => simp [sumC]
  | cons s a ih =>
    have h1 := ih fun x hx => h x (List.mem_cons_of_mem _ hx)
    have h2 := h s List.mem_cons_self
    unfold coin at h2
    simp only [sumC, List.length_cons]
    omega
theorem salesL_zero (ss : List SaleR) : (salesL 0 ss).map (·.2) = ss := by
  unfold salesL
  rw [List.drop_zero]
  apply List.ext_getElem?
  intro i
  rw [List.getElem?_map, List.getElem?_mapIdx]
  cases ss[i]? <;> rfl
set_option maxRecDepth 100000 in
set_option maxHeartbeats 4000000 in
theorem taken_any {W : World} {T : Nat → Part} {h K : Nat} {H : House} (hH : HouseIn W T h K H) (hl : H.sales.length ≤ 1000000) (hc : ∀ s ∈ H.sales, coin s.coins) :
    Calls Tryz.prog 20 #[.pointer (some ⟨h, 0, none⟩)] W fun e W' => e = .returned (.int .i64 (sumC H.sales)) ∧ Below W.heap.size W W' := by
  obtain ⟨W1, hW1⟩ : ∃ W1, W1 = W.alloc (.cells #[.int .i64 0] 2) := ⟨_, rfl⟩
  have hb1 : Below W.heap.size W W1 := by rw [hW1]; exact (Below.refl _ _).alloc (Nat.le_refl _) _
  have HS := Lib.hid (salesFrom_any (hH.grow hb1) hl (x := 0) (by omega))
  have HB1 := Lib.hid hb1
  have HX1 := Lib.hid (show Ac.Blk W1 W.heap.size 2 #[.int .i64 0] by rw [hW1]; exact Blk.new _ _ _)
  have HC := Lib.hid hc
  have HL := Lib.hid hl
  clear hH hb1 hc hl
  refine (callsIn_wide (n := 3)).1 (callsIn_of_wp_marks Tryz.func20 rfl trivial ((wpIn_wide (n := 3)).2 ?_))
  simp only [Tryz.ntmps20, List.size_toArray, List.length_cons, List.length_nil, Nat.reduceAdd, Nat.reduceSub, Array.replicate_succ, Array.replicate_zero, List.push_toArray, List.append_toArray, List.nil_append, List.cons_append]
  go_wp2_with fail
  rw [← hW1]
  clear hW1
  refine HS.out.mono ?_
  rintro e W2 ⟨g, gl, v, rfl, hsf, hg, hgl, hb2⟩
  rw [show (max (0 : Int) 0).toNat = 0 from rfl] at hsf
  have HSF := Lib.hid hsf
  have HX2 := Lib.hid (HX1.out.grow hb2)
  have HB2 := Lib.hid (HB1.out.trans (hb2.mono HB1.out.size))
  have hsz1 := HX1.out.lt
  have HNX := Lib.hid (show ¬ SalesX g gl v W.heap.size by
    rintro (e | e | e)
    · omega
    · omega
    · have := hsf.row.blk _ e; omega)
  unfold salesV
  clear hsf hb2 hg hgl
  go_wp2_with fail
  refine (wpIn_wide (n := 3)).1 ?_
  refine' wpIn_rangeFunc_A (F := Fence.wide) (n := 3) rfl (by omega) (gf := 110) (lb := #[.pointer (some ⟨g, 0, none⟩), .pointer (some ⟨gl, 0, none⟩)]) rfl trivial (enters_of Tryz.func110 (by kernel_rfl) rfl)
    (sf1_stops 2 (by omega) _ g gl 0 v H.sales HL.out W2 HSF.out) (fun b hb => HSF.out.x_lt hb) (Below.refl _ _) (fun _ => rfl)
    (fun _ pre W' => Ac.Blk W' W.heap.size 2 #[.int .i64 (sumC (pre.map (·.2)))] ∧ Below W.heap.size W W')
    (fun _ _ _ _ => False)
    (fun _ => OwnFrom.and (Own.from (fun _ _ _ _ h hg hr => h.cells hg hr) _) (ownFrom_below (Nat.le_refl _) HB2.out.size))
    (fun _ _ => fun _ _ _ _ h _ _ => h)
    (fun W0 hW0 => ⟨HX2.out.grow hW0, HB2.out.trans (hW0.mono HB2.out.size)⟩) (fun x => .cells #[.int .i64 x.2.number, .int .i64 x.2.lot, .int .i64 x.2.bidder, .int .i64 x.2.coins, .int .u32 x.2.goods, .int .i64 x.2.count, .int .i64 x.2.tick] 44 (0, 0)) _ ?assign ?body ?done ?stop
  case assign =>
    intro l x W' g' K' hg' hK'
    gi_wp2
    rw [← hg']
    exact hK'
  case body =>
    rintro hi l gs pre x W' hhi hwg hgs ⟨hI, hB⟩ hsp hlt
    have hmem : ∀ s ∈ (pre ++ [x]).map (·.2), coin s.coins := fun s hs => by
      obtain ⟨y, hy, rfl⟩ := List.mem_map.1 hs
      have h1 : y ∈ salesL 0 H.sales := hsp.subset hy
      have h2 : y.2 ∈ (salesL 0 H.sales).map (·.2) := List.mem_map.2 ⟨y, h1, rfl⟩
      rw [salesL_zero] at h2
      exact HC.out _ h2
    have hbo := sumC_bound hmem
    have hln := hsp.length_le
    rw [salesL_len] at hln
    rw [List.map_append, sumC_append] at hbo
    simp only [List.length_append, List.length_map, List.map_cons, List.map_nil, List.length_cons, List.length_nil, sumC] at hbo hln
    have hsn : sumC ((pre ++ [x]).map (·.2)) = sumC (pre.map (·.2)) + x.2.coins := by rw [List.map_append, sumC_append]; simp [sumC]
    obtain ⟨xa, ⟨sn, sl, sb, sc, sg, sct, st⟩⟩ := x
    obtain ⟨z, hz⟩ : ∃ z, z = sumC (pre.map (·.2)) := ⟨_, rfl⟩
    rw [← hz] at hI hsn hbo
    simp only at hsn hbo hgs
    have s3 : W'.cell? ⟨gs, 3, none⟩ = some (.int .i64 sc) := (show Ac.Blk W' gs _ _ from hgs).cell 3
    have p0 : W'.cell? ⟨W.heap.size, 0, none⟩ = some (.int .i64 z) := hI.cell 0
    have p1 : W'.frozen? ⟨W.heap.size, 0, none⟩ = false := hI.frozen 0
    have hwr : IntKind.i64.wrap (z + sc) = z + sc := IntWalk.i64_in _ (by have := HL.out; omega)
    have HI := Lib.hid hI
    have HSN := Lib.hid hsn
    have HBB := Lib.hid hB
    have hs0 := HB2.out.size
    clear hI hB hsp hz hsn hmem hbo hln hlt hgs
    gi_wp2
    refine ⟨KeepsOthers.setCell _ _ _, KeepX.set W' (.inl (by simp; omega)) HNX.out _, ?_, HBB.out.setCell (p := ⟨W.heap.size, 0, none⟩) (by simp) _⟩
    rw [HSN.out]
    exact HI.out.set_ 0 (.int .i64 (z + sc))
  case done =>
    rintro hi D ys W' hD hys ⟨hI, hB⟩ hK
    subst hys
    rw [salesL_zero] at hI
    have p0 : W'.cell? ⟨W.heap.size, 0, none⟩ = some (.int .i64 (sumC H.sales)) := hI.cell 0
    have HBB := Lib.hid hB
    have HK := Lib.hid hK
    have hD' : W.heap.size ≤ D := by have := HB2.out.size; omega
    clear hI hB hK
    go_wp2_with fail
    refine ⟨by simp, .inl ⟨_, _, rfl, run_takeDeferred HK.out, ?_⟩⟩
    exact ⟨.int .i64 (sumC H.sales), by simp [results, Tryz.results20, go_sem], rfl, HBB.out.trans (belowK_b (w := W) (Nat.le_refl _) W' D _ _ hD' HK.out rfl rfl)⟩
  case stop => exact fun _ _ _ _ _ _ _ h _ => h.elim
end Go.Proofs.YthoaidfpgijbfaaGreat.Ho

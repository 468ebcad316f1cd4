import Derived.Test.YthoaidfpgijbfaaGreatZi
import Derived.Test.YthoaidfpgijbfaaGreatZh
import Derived.Test.YthoaidfpgijbfaaGreatZa
import Derived.Laws.Tables
import Derived.Laws.Rows
import Derived.Deep.RegionLaw
import Derived.Lib.SliceRun
namespace Go.Proofs.YthoaidfpgijbfaaGreat.Ho
open Go.RowKit
open Go.Proofs.YthoaidfpgijbfaaGreat.Vb Go.Proofs.YthoaidfpgijbfaaGreat.Ac
theorem et_accs : ElemT Tryz.prog 87 133 1 8 := elemT_of Tryz.underlying87 (by omega) (z := .pointer none) (by kernel_rfl) rfl
def enterE (H : House) (c : Int) (s : ByteArray) : Int := if coinB c = false then 2 else addE H.names 4096 s
def enterH (H : House) (c : Int) (s : ByteArray) : House := { H with names := H.names ++ [s], accs := H.accs ++ [⟨c, 0, []⟩] }
theorem coinB_coin {c : Int} : coinB c = true ↔ coin c := by simp [coinB, coin]
theorem enter_end {W W3 W4 U : World} {T : Nat → Part} {h pn pc K n ba ma : Nat} {va vl vb vs v' : Value} {H : House} {a : Acc} {s : ByteArray} {bs ms : Nat → Nat} (H0 : HouseAt W T h pn pc va vl vb vs K H)
    (has : ∀ i a, H.accs[i]? = some a → AccAt W (bs i) (ms i) K a ∧ T (bs i) = .acc i ∧ T (ms i) = .acc i) (hn : n = H.accs.length)
    (hcN : Chg (fun b => T b = .names) W W3) (hnm : NamesAt W3 (fun b => (T b = .names ∧ b < W.heap.size) ∨ W.heap.size ≤ b) pn 4096 (H.names ++ [s])) (hb4 : Below W3.heap.size W3 W4) (hacc : AccAt W4 ba ma 0 a) (hba : W3.heap.size ≤ ba) (hma : W3.heap.size ≤ ma)
    (hrow : RowAt U (fun b => (T b = .accs ∧ b < W.heap.size) ∨ W4.heap.size ≤ b) 133 1 v' (n + 1) (ptrs bs n ++ [.pointer (some ⟨ba, 0, none⟩)])) (hcU : Chg (fun b => (T b = .accs ∨ T b = .hs) ∧ b < W.heap.size) W4 U)
    (hbU : Blk U h 92 #[.pointer (some ⟨pn, 0, none⟩), v', vl, .pointer (some ⟨pc, 0, none⟩), vb, vs]) : ∃ T', HouseIn U T' h K { H with names := H.names ++ [s], accs := H.accs ++ [a] } ∧ Moves W T U T' := by
  obtain ⟨T', hT'⟩ : ∃ T' : Nat → Part, T' = fun b => if b < W.heap.size then T b else if b < W3.heap.size then .names else if b < W4.heap.size then .acc n else if b < U.heap.size then .accs else .no := ⟨_, rfl⟩
  have hT : ∀ b, b < W.heap.size → T' b = T b := fun b hb => by rw [hT']; simp [hb]
  have hs3 := hcN.size
  have hs4 := hb4.size
  have hsU := hcU.size
  have hlb := hacc.ltb
  have hlm := hacc.ltm
  have hc3U : Chg (fun b => (T b = .accs ∨ T b = .hs) ∧ b < W.heap.size) W3 U := (Chg.of _ hb4).trans hcU
  have hcWU : Chg (fun b => T b = .names ∨ T b = .accs ∨ T b = .hs) W U := (hcN.mono fun b _ e => .inl e).step hc3U fun b _ e => .inr e.1
  refine ⟨T', ⟨pn, pc, v', vl, vb, vs, ?_⟩, hcWU.mono fun b _ e => ?_, hT⟩
  · refine ⟨(hT h H0.blk.lt).trans H0.top, hbU, ?_, ⟨fun i => if i = n then ba else bs i, fun i => if i = n then ma else ms i, ?_, fun i x hi => ?_⟩, H0.lots.step hcWU (fun b e => ?_) hT, H0.cal.step hcWU (fun b e => by rintro (k | k | k) <;> rw [e] at k <;> cases k) hT, H0.book.step hcWU (fun b e => ?_) hT, H0.sales.step hcWU (fun b e => by rintro (k | k | k) <;> rw [e] at k <;> cases k) hT, fun b hb => ?_⟩
    · refine NamesAt.mono (NamesAt.chg (R := fun b => ((T b = .names ∧ b < W.heap.size) ∨ W.heap.size ≤ b) ∧ b < W3.heap.size) (hnm.mono fun b hb hr => ⟨hr, hb⟩) hc3U fun b _ hr e => ?_) fun b _ hr => ?_
      · rcases hr.1 with k | k
        · rw [k.1] at e; rcases e.1 with e | e <;> cases e
        · have := e.2; omega
      · rcases hr.1 with k | k
        · exact (hT b k.2).trans k.1
        · rw [hT']; simp [show ¬ b < W.heap.size by omega, hr.2]
    · have h1 : (H.accs ++ [a]).length = n + 1 := by simp [hn]
      show RowAt U _ _ 1 v' (H.accs ++ [a]).length (ptrs _ (H.accs ++ [a]).length)
      rw [h1, ptrs_snoc]
      have h2 : ptrs (fun i => if i = n then ba else bs i) n = ptrs bs n := ptrs_congr fun i hi => by simp [show ¬ i = n by omega]
      rw [h2]
      simp only [if_true]
      refine ⟨hrow.own, fun b hb => ?_⟩
      have hlt := hrow.lt hb
      rcases hrow.blk b hb with k | k
      · exact (hT b k.2).trans k.1
      · rw [hT']; simp [show ¬ b < W.heap.size by omega, show ¬ b < W3.heap.size by omega, show ¬ b < W4.heap.size by omega, hlt]
    · by_cases e : i = n
      · subst e
        have hx : x = a := by
          have : (H.accs ++ [a])[i]? = some a := by simp [hn]
          rw [this] at hi; cases hi; rfl
        subst hx
        simp only [if_true]
        refine ⟨(hacc.chg hcU (fun e => by have := e.2; omega) (fun e => by have := e.2; omega)).mono (Nat.zero_le _), ?_, ?_⟩
        · rw [hT']; simp [show ¬ ba < W.heap.size by omega, show ¬ ba < W3.heap.size by omega, hlb]
        · rw [hT']; simp [show ¬ ma < W.heap.size by omega, show ¬ ma < W3.heap.size by omega, hlm]
      · simp only [if_neg e]
        have hi' : H.accs[i]? = some x := by
          have h1 := (List.getElem?_eq_some_iff.1 hi).1
          simp only [List.length_append, List.length_singleton] at h1
          rwa [List.getElem?_append_left (by omega)] at hi
        obtain ⟨k1, k2, k3⟩ := has i x hi'
        exact ⟨k1.chg hcWU (fun k => by rw [k2] at k; rcases k with k | k | k <;> cases k) (fun k => by rw [k3] at k; rcases k with k | k | k <;> cases k), (hT _ k1.ltb).trans k2, (hT _ k1.ltm).trans k3⟩
    · rcases e with e | ⟨i, e⟩ | e <;> rintro (k | k | k) <;> rw [e] at k <;> cases k
    · rcases e with e | e <;> rintro (k | k | k) <;> rw [e] at k <;> cases k
    · rw [hT']; simp [show ¬ b < W.heap.size by omega, show ¬ b < W3.heap.size by omega, show ¬ b < W4.heap.size by omega, show ¬ b < U.heap.size by omega]
  · rcases e with e | e | e <;> exact ⟨by rw [e]; simp, by rw [e]; simp⟩
theorem NamesAt.own {W : World} {R : Nat → Prop} {p : Nat} {most : Int} {ns : List ByteArray} (h : NamesAt W R p most ns) : NamesAt W (fun b => R b ∧ b < W.heap.size) p most ns := h.mono fun b hb hr => ⟨hr, hb⟩
set_option maxRecDepth 100000 in
set_option maxHeartbeats 4000000 in
theorem henter_ok {W : World} {T : Nat → Part} {h pn pc K : Nat} {va vl vb vs : Value} {H : House} (hH : HouseAt W T h pn pc va vl vb vs K H) (hlen : H.accs.length = H.names.length) (o : OrderR) (vo : Value) (he : enterE H o.coins o.name = 0) (hsm : H.names.length ≤ 4096) :
    Calls Tryz.prog 32 #[.pointer (some ⟨h, 0, none⟩), o.agg vo] W fun e W' => e = .returned (.tuple #[.int .i64 H.names.length, .int .i64 0]) ∧ ∃ T', HouseIn W' T' h K (enterH H o.coins o.name) ∧ Moves W T W' T' := by
  obtain ⟨W1, hW1⟩ : ∃ W1, W1 = W.alloc (.cells (o.cells vo).toArray 36) := ⟨_, rfl⟩
  have hb1 : Below W.heap.size W W1 := by rw [hW1]; exact (Below.refl _ _).alloc (Nat.le_refl _) _
  have hx : Blk W1 W.heap.size 36 (o.cells vo).toArray := by rw [hW1]; exact Blk.new _ _ _
  have hc : coinB o.coins = true := by
    cases h1 : coinB o.coins with
    | true => rfl
    | false => unfold enterE at he; rw [if_pos h1] at he; cases he
  have hadd : addE H.names 4096 o.name = 0 := by
    unfold enterE at he; rwa [if_neg (by rw [hc]; simp)] at he
  obtain ⟨bs, ms, hrow, has⟩ := hH.accs
  obtain ⟨A, c, hva⟩ := hrow.form
  have H0 := Lib.hid hH
  have HB1 := Lib.hid hb1
  have HX := Lib.hid hx
  have c0 := (hH.grow hb1).cells.1
  have hl := (hH.grow hb1).cells.2.2.2.2.2.2
  have HNM := Lib.hid (NamesAt.grow hH.names.own hb1)
  obtain ⟨n, hn⟩ : ∃ n, n = H.accs.length := ⟨_, rfl⟩
  have HN := Lib.hid hn
  have HROW := Lib.hid (show RowAt W (fun b => T b = .accs ∧ b < W.heap.size) 133 1 (.slice A n c) n (ptrs bs n) by rw [hn, ← hva]; exact hrow.mono fun b hb hr => ⟨hr, hb⟩)
  have HVA := Lib.hid (show va = .slice A n c by rw [hn]; exact hva)
  have HAS := Lib.hid has
  have HLE := Lib.hid hlen
  have HSM := Lib.hid hsm
  have HADD := Lib.hid hadd
  have HC := Lib.hid hc
  obtain ⟨okind, oname, ocoins, obidder, olot, ⟨kind, opens, closes, start, step, extend, last, floor, fall, count, rule⟩, ooff, otick⟩ := o
  simp only at HADD HC
  simp only [OrderR.agg, OrderR.cells, LotR.cells, List.cons_append, List.nil_append] at hW1 HX ⊢
  have x1 : W1.cell? ⟨W.heap.size, 1, none⟩ = some (.string oname) := HX.out.cell 1
  have xl := HX.out.lt
  clear hH hb1 hx hc hadd he hrow has hva hn hlen hsm
  go_enter Tryz.func32, Tryz.ntmps32
  go_wp2_with fail
  rw [← hW1]
  clear hW1
  refine (hcoins_any ocoins _).mono ?_
  rintro e W2 ⟨rfl, rfl⟩
  rw [HC.out]
  go_wp2_with fail
  refine wp_region_F (Below W2.heap.size W2) [7, 8, 9, 10, 11, 12] (by kernel_rfl) ((Below.refl _ _).drew) (fun hS => ?_)
  refine wpAnyF_takeD [1, 2, 3, 4, 7, 8, 9, 10, 11, 12] (i := 0) (oi := ⟨some 15, .move (.tmp 0), 23, "house.go:112", #[], none⟩) (v := ?_) rfl (by kernel_rfl) (by kernel_rfl) (by kernel_rfl) (by kernel_rfl) (fun _ _ _ h => h) (Or.inl ⟨by rfl, ?_⟩) hS ?_
  rotate_left
  · intro w' _; go_simp; try with_reducible rfl
  try simp only [Act.put, pb, pz, ps]
  refine wpAnyF_takeD [2, 3, 4, 7, 8, 9, 10, 11, 12] (i := 1) (oi := ⟨some 16, .nilCheck (.tmp 15), 0, "house.go:112", #[⟨0, .data⟩], none⟩) (v := ?_) rfl (by kernel_rfl) (by kernel_rfl) (by kernel_rfl) (by kernel_rfl) (fun _ _ _ h => h) (Or.inl ⟨by rfl, ?_⟩) hS ?_
  rotate_left
  · intro w' _; go_simp; try with_reducible rfl
  try simp only [Act.put, pb, pz, ps]
  refine wpAnyF_takeD [3, 4, 7, 8, 9, 10, 11, 12] (i := 2) (oi := ⟨some 17, .fieldAddr 92 (.tmp 16) 0, 0, "house.go:112", #[⟨1, .data⟩], none⟩) (v := ?_) rfl (by kernel_rfl) (by kernel_rfl) (by kernel_rfl) (by kernel_rfl) (fun _ _ _ h => h) (Or.inl ⟨by rfl, ?_⟩) hS ?_
  rotate_left
  · intro w' _; go_simp; try with_reducible rfl
  try simp only [Act.put, pb, pz, ps]
  refine wpAnyF_takeD [4, 7, 8, 9, 10, 11, 12] (i := 3) (oi := ⟨some 18, .fieldAddr 90 (.tmp 17) 0, 0, "house.go:112", #[⟨2, .data⟩], none⟩) (v := ?_) rfl (by kernel_rfl) (by kernel_rfl) (by kernel_rfl) (by kernel_rfl) (fun _ _ _ h => h) (Or.inl ⟨by rfl, ?_⟩) hS ?_
  rotate_left
  · intro w' _; go_simp; try with_reducible rfl
  try simp only [Act.put, pb, pz, ps]
  refine wpAnyF_takeD [7, 8, 9, 10, 11, 12] (i := 4) (oi := ⟨some 19, .load 81 (.tmp 18), 81, "house.go:112", #[⟨3, .data⟩], none⟩) (v := ?_) rfl (by kernel_rfl) (by kernel_rfl) (by kernel_rfl) (by kernel_rfl) (fun _ _ _ h => h) (Or.inl ⟨by rfl, ?_⟩) hS ?_
  rotate_left
  · intro w' hSw; have q0 := (hSw.cell (p := ⟨W.heap.size, 1, none⟩) xl).trans x1; have q1 := (hSw.cell (p := ⟨h, 0, none⟩) hl).trans c0; go_simp; try with_reducible rfl
  try simp only [Act.put, pb, pz, ps]
  refine wpAnyF_takeD [6, 7, 8, 9, 10, 11, 12] (i := 5) (oi := ⟨some 20, .fieldAddr 36 (.tmp 3) 1, 0, "house.go:112", #[], none⟩) (v := ?_) rfl (by kernel_rfl) (by kernel_rfl) (by kernel_rfl) (by kernel_rfl) (fun _ _ _ h => h) (Or.inl ⟨by rfl, ?_⟩) hS ?_
  rotate_left
  · intro w' _; go_simp; try with_reducible rfl
  try simp only [Act.put, pb, pz, ps]
  refine wpAnyF_takeD [7, 8, 9, 10, 11, 12] (i := 6) (oi := ⟨some 21, .load 9 (.tmp 20), 9, "house.go:112", #[⟨5, .data⟩], none⟩) (v := ?_) rfl (by kernel_rfl) (by kernel_rfl) (by kernel_rfl) (by kernel_rfl) (fun _ _ _ h => h) (Or.inl ⟨by rfl, ?_⟩) hS ?_
  rotate_left
  · intro w' hSw; have q0 := (hSw.cell (p := ⟨W.heap.size, 1, none⟩) xl).trans x1; have q1 := (hSw.cell (p := ⟨h, 0, none⟩) hl).trans c0; go_simp; try with_reducible rfl
  try simp only [Act.put, pb, pz, ps]
  refine wpAnyF_ready (rs := [7]) (by kernel_rfl) (by simp) ?_
  refine AllReadyF.fin (o := ⟨some 22, .call { callee := .value (.func 81), args := #[.tmp 19, .tmp 21], argTypes := #[81, 9] }, 162, "house.go:112", #[⟨4, .data⟩, ⟨6, .data⟩], none⟩) rfl (by rfl) (fun K hK => ?_) ?_
  · go_simp
    refine (nadd_ok (W := W2.drew) (HNM.out.grow (Below.refl _ _).drew) (s := oname) HADD.out (by have := HSM.out; omega)).mono ?_
    rintro e W3 ⟨rfl, hnm, hcN⟩
    have HNM3 := Lib.hid hnm
    have HX3 := Lib.hid (Blk.chg (HX.out.grow (Below.refl _ _).drew) hcN (fun e => by have := e.2; omega))
    have HCN := Lib.hid (show Chg (fun b => T b = .names ∧ b < W.heap.size) W W3 from ((Chg.of _ HB1.out).grow (Below.refl _ _).drew).trans hcN)
    clear hnm hcN
    refine hK.out _ _ ?_
    clear hK K
    try simp only [Act.put, pb, pz, ps]
    refine wpAnyF_takeW (i := 8) (oi := ⟨some 14, .move (.tmp 22), 162, "house.go:112", #[⟨7, .data⟩], none⟩) (v := ?_) rfl (by kernel_rfl) (by kernel_rfl) (by kernel_rfl) (by kernel_rfl) (fun _ _ _ h => h) (Or.inl ⟨by rfl, ?_⟩) ?_
    rotate_left
    · intro w' _; go_simp; try with_reducible rfl
    try simp only [Act.put, pb, pz, ps]
    refine wpAnyF_takeW (i := 9) (oi := ⟨some 23, .extract (.tmp 14) 0, 3, "house.go:112", #[⟨8, .data⟩], none⟩) (v := ?_) rfl (by kernel_rfl) (by kernel_rfl) (by kernel_rfl) (by kernel_rfl) (fun _ _ _ h => h) (Or.inl ⟨by rfl, ?_⟩) ?_
    rotate_left
    · intro w' _; go_simp; try with_reducible rfl
    try simp only [Act.put, pb, pz, ps]
    refine wpAnyF_takeW (i := 10) (oi := ⟨some 24, .extract (.tmp 14) 1, 25, "house.go:112", #[⟨8, .data⟩, ⟨11, .gcOnly .lateStores⟩], none⟩) (v := ?_) rfl (by kernel_rfl) (by kernel_rfl) (by kernel_rfl) (by kernel_rfl) (fun _ _ _ h => h) (Or.inl ⟨by rfl, ?_⟩) ?_
    rotate_left
    · intro w' _; go_simp; try with_reducible rfl
    try simp only [Act.put, pb, pz, ps]
    refine wpAnyF_takeW (i := 11) (oi := ⟨some 6, .assign (.tmp 23), 3, "house.go:112", #[⟨9, .data⟩, ⟨7, .chain⟩, ⟨0, .phase⟩, ⟨1, .phase⟩, ⟨2, .phase⟩, ⟨3, .phase⟩, ⟨4, .phase⟩, ⟨5, .phase⟩, ⟨6, .phase⟩, ⟨7, .phase⟩, ⟨8, .phase⟩, ⟨9, .phase⟩, ⟨10, .textOnly .lateStores⟩], none⟩) (v := ?_) rfl (by kernel_rfl) (by kernel_rfl) (by kernel_rfl) (by kernel_rfl) (fun _ _ _ h => h) (Or.inl ⟨by rfl, ?_⟩) ?_
    rotate_left
    · intro w' _; go_simp; try with_reducible rfl
    try simp only [Act.put, pb, pz, ps]
    refine wpAnyF_takeW (i := 12) (oi := ⟨some 7, .assign (.tmp 24), 25, "house.go:112", #[⟨10, .data⟩, ⟨11, .chain⟩, ⟨0, .phase⟩, ⟨1, .phase⟩, ⟨2, .phase⟩, ⟨3, .phase⟩, ⟨4, .phase⟩, ⟨5, .phase⟩, ⟨6, .phase⟩, ⟨7, .phase⟩, ⟨8, .phase⟩, ⟨9, .phase⟩, ⟨10, .phase⟩, ⟨11, .phase⟩], none⟩) (v := ?_) rfl (by kernel_rfl) (by kernel_rfl) (by kernel_rfl) (by kernel_rfl) (fun _ _ _ h => h) (Or.inl ⟨by rfl, ?_⟩) ?_
    rotate_left
    · intro w' _; go_simp; try with_reducible rfl
    try simp only [Act.put, pb, pz, ps]
    refine wpAnyF_done (by kernel_rfl) ?_ _
    clear hS c0 x1 xl hl
    have hs3 := HCN.out.size
    have hbh := H0.out.blk.chg HCN.out (fun e => by rw [H0.out.top] at e; cases e.1)
    have HBH3 := Lib.hid hbh
    have x2 : W3.cell? ⟨W.heap.size, 2, none⟩ = some (.int .i64 ocoins) := HX3.out.cell 2
    clear hbh hs3
    go_wp2_with fail
    refine (new_any ocoins _).mono ?_
    rintro e W4 ⟨hb4, (⟨h1, rfl⟩ | ⟨h1, rfl, hA⟩)⟩
    · exact absurd (coinB_coin.1 HC.out) h1
    · have HB4 := Lib.hid hb4
      have HA4 := Lib.hid hA
      have HBH4 := Lib.hid (HBH3.out.grow hb4)
      have y1 : W4.cell? ⟨h, 1, none⟩ = some (.slice A n c) := (HBH4.out.cell 1).trans (by rw [HVA.out]; rfl)
      have HR4 := Lib.hid ((HROW.out.chg HCN.out (fun b _ h1 h2 => by rw [h1.1] at h2; cases h2.1)).grow hb4)
      have HS4 := Lib.hid (show W.heap.size ≤ W4.heap.size from Nat.le_trans HCN.out.size hb4.size)
      have HOH := Lib.hid (show ¬ (Value.slice A n c).ownBlock = some h from fun e => by have h3 := (HROW.out.blk h e).1; rw [H0.out.top] at h3; cases h3)
      clear hb4 h1 hA x2
      go_wp2_with (at_builtin; go_must (refine wpList_row _ (.tmp 39) (.tmp 41) rfl et_accs rfl (.slice A n c) n (ptrs bs n) rfl (HR4.out.grow ((Below.refl _ _).alloc (Nat.le_refl _) _)) (.slice (some ⟨W4.heap.size, 0, none⟩) 1 1) 1 [.pointer (some ⟨W3.heap.size + 1, 0, none⟩)] rfl (Sl.lit1 (Blk.new W4 133 #[.pointer (some ⟨W3.heap.size + 1, 0, none⟩)]) rfl) (by simp [Value.oneCell']) (by have := HLE.out; have := HN.out; have := HSM.out; omega) (by have := HLE.out; have := HN.out; have := HSM.out; unfold maxLen; omega) ?_); intro A3 c3 Z hrZ hcZ; have hbZ := (HBH4.out.alloc (.cells #[.pointer (some ⟨W3.heap.size + 1, 0, none⟩)] 133)).chg hcZ HOH.out; have f1 := hbZ.frozen 1; have z1 := hbZ.cell 1; have HBZ := Lib.hid hbZ; have HRZ := Lib.hid hrZ; have HCZ := Lib.hid hcZ; clear hbZ hrZ hcZ)
      go_ret2
      obtain ⟨U, hU⟩ : ∃ U, U = Z.setCell ⟨h, 1, none⟩ (.slice A3 (n + 1) c3) := ⟨_, rfl⟩
      rw [← hU]
      refine ⟨by rw [← HLE.out, ← HN.out]; rfl, ?_⟩
      have hcU : Chg (· = h) Z U := by rw [hU]; exact Chg.set Z ⟨h, 1, none⟩ _
      have hlW : h < W.heap.size := H0.out.blk.lt
      have hrow2 := HRZ.out.chgB hcU (fun b hb e => by
        rcases HRZ.out.blk b hb with k | k
        · have := k.1; rw [e, H0.out.top] at this; cases this
        · have h1 := HS4.out; rw [World.size_alloc] at k; omega)
      exact enter_end (n := n) H0.out HAS.out HN.out (HCN.out.mono fun b _ e => e.1) (HNM3.out.mono fun b _ k => k.elim (fun k => .inl k) (fun k => .inr (Nat.le_trans HB1.out.size k))) HB4.out HA4.out (by omega) (Nat.le_refl _)
        (hrow2.mono fun b _ k => k.elim .inl (fun k => .inr (by rw [World.size_alloc] at k; omega)))
        ((((Chg.refl _ W4).grow ((Below.refl _ _).alloc (Nat.le_refl _) _)).step HCZ.out fun b _ e => ⟨.inl (HROW.out.blk b e).1, (HROW.out.blk b e).2⟩).step hcU fun b _ e => ⟨.inr (e ▸ H0.out.top), by omega⟩)
        (by rw [hU, HVA.out] at *; exact HBZ.out.set_ 1 _)
  exact AllReadyF.nil
end Go.Proofs.YthoaidfpgijbfaaGreat.Ho
namespace Go.Proofs.YthoaidfpgijbfaaGreat.Vb
open Go.RowKit
end Go.Proofs.YthoaidfpgijbfaaGreat.Vb
namespace Go.Proofs.YthoaidfpgijbfaaGreat.Vb
open Go.RowKit
def checkI (n : Int) (l : List Off) : Int := if n < 1 ∨ 10 < n then 0 else if 8 < l.length then 0 else match badAt (2 ^ n.toNat - 1) l with | some k => k | none => 0
def checkE (n : Int) (l : List Off) : Int := if n < 1 ∨ 10 < n then 2 else if 8 < l.length then 3 else match badAt (2 ^ n.toNat - 1) l with | some _ => 180 | none => 0
end Go.Proofs.YthoaidfpgijbfaaGreat.Vb
namespace Go.Proofs.YthoaidfpgijbfaaGreat.Vb
open Go.RowKit
def Buys (w : World) (R : Nat → Prop) (v : Value) (bs : List (List Off)) : Prop :=
  ∃ vs : List Value, Sl w R v bs.length 1 vs ∧ ∀ (k : Nat) (l : List Off), bs[k]? = some l → ∃ u, vs[k]? = some u ∧ Offs w R u l
def longB (l : List Off) : Bool := decide (8 < l.length)
def longAt : List (List Off) → Option Nat
  | [] => none
  | l :: bs => if longB l then some 0 else (longAt bs).map (· + 1)
def longInt (bs : List (List Off)) : Int := match longAt bs with | some k => k | none => -1
def instLoop (n : Int) : List (List Off) → Int
  | [] => 0
  | l :: bs => if checkE n l ≠ 0 then checkE n l else instLoop n bs
def instE (n : Int) (bs : List (List Off)) : Int := if n < 1 ∨ 10 < n then 2 else if 32 < bs.length ∨ bs.any longB = true then 3 else instLoop n bs
end Go.Proofs.YthoaidfpgijbfaaGreat.Vb
namespace Go.Proofs.YthoaidfpgijbfaaGreat.Vb
open Go.RowKit
end Go.Proofs.YthoaidfpgijbfaaGreat.Vb
namespace Go.Proofs.YthoaidfpgijbfaaGreat.Vb
open Go.RowKit
theorem et_off : ElemT Tryz.prog 34 106 2 16 := elemT_of Tryz.underlying34 (by omega) (z := .agg #[.int .u32 0, .int .i64 0]) (by kernel_rfl) rfl
theorem Off.all_one (l : List Off) : ∀ u ∈ Off.all l, u.oneCell' = true := by
  intro u hu
  simp only [Off.all, List.mem_flatMap] at hu
  obtain ⟨o, _, ho⟩ := hu
  simp [Off.cells] at ho
  rcases ho with rfl | rfl <;> rfl
set_option maxHeartbeats 400000 in
theorem clone_off (xs : List Value) (n : Nat) (v : Value) (R : Nat → Prop) (w : World) (hl : Sl w R v n 2 xs) (h1 : ∀ u ∈ xs, u.oneCell' = true) (hb : n * 16 ≤ 140737488355328) :
    Calls Tryz.prog 91 #[v] w fun e w' => ∃ A' cap', e = .returned (.slice A' n cap') ∧ w'.ownsRow w.heap.size 106 2 (.slice A' n cap') n xs ∧ Below w.heap.size w w' := by
  obtain ⟨hlen, A, cap, rfl, hncap, hcap, hcells⟩ := id hl
  have HS := Lib.hid hl
  clear hl hcells
  have hq := fun (W : World) (a : Option Addr) => Lib.run_eql_slice_nil (P := Tryz.prog) W 34 106 a n cap 0 0 Tryz.underlying34
  cases A with
  | none =>
    have hn : n = 0 := by
      obtain ⟨_, A, c, h, _, _, hc⟩ := HS.out
      injection h with hA _ _
      subst hA
      rcases Nat.eq_zero_or_pos n with h0 | h0
      · exact h0
      · obtain ⟨b, off, h, _⟩ := hc h0
        cases h
    subst hn
    have hx : xs = [] := List.eq_nil_of_length_eq_zero (by simpa using hlen)
    subst hx
    go_enter Tryz.func91, Tryz.ntmps91
    go_wp2
    go_ret
    exact ⟨none, 0, rfl, World.ownsRow_nil _ _ _ _, Below.refl _ _⟩
  | some ad =>
    clear hlen
    go_enter Tryz.func91, Tryz.ntmps91
    go_wp2_with (at_builtin; refine wpList_app _ rfl (.tmp 5) (.tmp 6) et_off rfl w.heap.size (.slice (some ⟨w.heap.size, 0, none⟩) 0 0) 0 [] rfl (World.ownsRow_lit w #[] 0 (Nat.le_refl _) (Nat.zero_le _) rfl) R _ n xs rfl (HS.out.alloc _) h1 (by omega) (by unfold maxLen; omega) (by simp) ?_; intro A' cap' w1 hown hg hloc)
    go_ret
    refine ⟨A', cap', by simp, by simpa using hown, ((Below.refl _ _).alloc (Nat.le_refl _) _).grown hg (by simp) (by simp [Value.ownBlock])⟩
end Go.Proofs.YthoaidfpgijbfaaGreat.Vb
namespace Go.Proofs.YthoaidfpgijbfaaGreat.Ho
open Go.RowKit
open Go.Proofs.YthoaidfpgijbfaaGreat.Vb Go.Proofs.YthoaidfpgijbfaaGreat.Ac
theorem Chg.setRow (W : World) (g : Nat) (cs : Array Value) : Chg (· = g) W (W.setRow g cs) := ⟨rfl, rfl, rfl, by simp, fun k _ hn => setRow_other W g k cs hn⟩
theorem Blk.setRow {W : World} {g : Nat} {t : TypeId} {old : Array Value} (h : Blk W g t old) (cs : Array Value) : Blk (W.setRow g cs) g t cs := setRow_heap W g old cs t (0, 0) h
set_option maxRecDepth 100000 in
set_option maxHeartbeats 4000000 in
theorem hcopied_any {W : World} {R : Nat → Prop} (o : OrderR) {vo : Value} (hO : Offs W R vo o.offers) (hn : o.offers.length ≤ 1099511627776) : Calls Tryz.prog 38 #[o.agg vo] W fun e W' =>
    ∃ A c, e = .returned (o.agg (.slice A o.offers.length c)) ∧ Offs W' (fun b => W.heap.size ≤ b) (.slice A o.offers.length c) o.offers ∧ Below W.heap.size W W' := by
  have HO := Lib.hid hO
  have HNN := Lib.hid hn
  obtain ⟨okind, oname, ocoins, obidder, olot, ⟨kind, opens, closes, start, step, extend, last, floor, fall, count, rule⟩, ooff, otick⟩ := o
  simp only at HO HNN ⊢
  simp only [OrderR.agg, OrderR.cells, LotR.cells, List.cons_append, List.nil_append]
  obtain ⟨W2, hW2⟩ : ∃ W2, W2 = (W.alloc (.cells #[.int .i64 okind, .string oname, .int .i64 ocoins, .int .i64 obidder, .int .i64 olot, .int .i64 kind, .int .i64 opens, .int .i64 closes, .int .i64 start, .int .i64 step, .int .i64 extend, .int .i64 last, .int .i64 floor, .int .i64 fall, .int .i64 count, .int .i64 rule, vo, .int .i64 otick] 36)).alloc (.cells #[.int .i64 0, .string { data := #[] }, .int .i64 0, .int .i64 0, .int .i64 0, .int .i64 0, .int .i64 0, .int .i64 0, .int .i64 0, .int .i64 0, .int .i64 0, .int .i64 0, .int .i64 0, .int .i64 0, .int .i64 0, .int .i64 0, .slice none 0 0, .int .i64 0] 36) := ⟨_, rfl⟩
  have hb2 : Below W.heap.size W W2 := by rw [hW2]; exact ((Below.refl _ _).alloc (Nat.le_refl _) _).alloc (by simp) _
  have hx : Blk W2 W.heap.size 36 #[.int .i64 okind, .string oname, .int .i64 ocoins, .int .i64 obidder, .int .i64 olot, .int .i64 kind, .int .i64 opens, .int .i64 closes, .int .i64 start, .int .i64 step, .int .i64 extend, .int .i64 last, .int .i64 floor, .int .i64 fall, .int .i64 count, .int .i64 rule, vo, .int .i64 otick] := by rw [hW2]; exact (Blk.new W _ _).alloc _
  have hy : Blk W2 (W.heap.size + 1) 36 #[.int .i64 0, .string { data := #[] }, .int .i64 0, .int .i64 0, .int .i64 0, .int .i64 0, .int .i64 0, .int .i64 0, .int .i64 0, .int .i64 0, .int .i64 0, .int .i64 0, .int .i64 0, .int .i64 0, .int .i64 0, .int .i64 0, .slice none 0 0, .int .i64 0] := by rw [hW2]; exact Blk.new' _ _ (by simp)
  have x16 : W2.cell? ⟨W.heap.size, 16, none⟩ = some vo := hx.cell 16
  have HB2 := Lib.hid hb2
  have HX := Lib.hid hx
  have HY := Lib.hid hy
  have HO2 := Lib.hid (Offs.grow HO.out hb2)
  clear hO hn hb2 hx hy
  go_enter Tryz.func38, Tryz.ntmps38
  go_wp2_with fail
  rw [← hW2]
  clear hW2
  refine (clone_off (Off.all ooff) ooff.length vo R _ HO2.out.1 (Off.all_one ooff) (by have := HNN.out; omega)).mono ?_
  rintro e W3 ⟨A, c, rfl, hown, hb3⟩
  have HOWN := Lib.hid hown
  have HX3 := Lib.hid (HX.out.grow hb3)
  have HY3 := Lib.hid (HY.out.grow hb3)
  have HB3 := Lib.hid (HB2.out.trans (hb3.mono HB2.out.size))
  have x16 : W3.cell? ⟨W.heap.size, 16, none⟩ = some vo := HX3.out.cell 16
  have f16 : W3.frozen? ⟨W.heap.size, 16, none⟩ = false := HX3.out.frozen 16
  obtain ⟨W4, hW4⟩ : ∃ W4, W4 = W3.setCell ⟨W.heap.size, 16, none⟩ (.slice A ooff.length c) := ⟨_, rfl⟩
  have hx4 : Blk W4 W.heap.size 36 #[.int .i64 okind, .string oname, .int .i64 ocoins, .int .i64 obidder, .int .i64 olot, .int .i64 kind, .int .i64 opens, .int .i64 closes, .int .i64 start, .int .i64 step, .int .i64 extend, .int .i64 last, .int .i64 floor, .int .i64 fall, .int .i64 count, .int .i64 rule, (.slice A ooff.length c), .int .i64 otick] := by rw [hW4]; exact HX3.out.set_ 16 _
  have hc4 : Chg (· = W.heap.size) W3 W4 := by rw [hW4]; exact Chg.set W3 ⟨W.heap.size, 16, none⟩ _
  have hy4 := HY3.out.chg hc4 (by omega)
  have HC4 := Lib.hid hc4
  have HW4 := Lib.hid hW4
  rw [hW4] at hx4 hy4
  have HX4 := Lib.hid hx4
  have HY4 := Lib.hid hy4
  have HOW := Lib.hid hown
  have HS3 := Lib.hid hb3.size
  clear hown hb3 hx4 hc4 hy4 hW4
  go_wp2_with (first
    | (refine wpList_load_row rfl 36 (.tmp 1) rfl W.heap.size rfl 36 #[.int .i64 okind, .string oname, .int .i64 ocoins, .int .i64 obidder, .int .i64 olot, .int .i64 kind, .int .i64 opens, .int .i64 closes, .int .i64 start, .int .i64 step, .int .i64 extend, .int .i64 last, .int .i64 floor, .int .i64 fall, .int .i64 count, .int .i64 rule, (.slice A ooff.length c), .int .i64 otick] (0, 0) _ HX4.out Tryz.underlying36 rfl (by kernel_rfl) ?_)
    | (refine wpList_store_row rfl 36 (.tmp 2) (.tmp 7) rfl (W.heap.size + 1) #[.int .i64 okind, .string oname, .int .i64 ocoins, .int .i64 obidder, .int .i64 olot, .int .i64 kind, .int .i64 opens, .int .i64 closes, .int .i64 start, .int .i64 step, .int .i64 extend, .int .i64 last, .int .i64 floor, .int .i64 fall, .int .i64 count, .int .i64 rule, (.slice A ooff.length c), .int .i64 otick] rfl rfl 36 #[.int .i64 0, .string { data := #[] }, .int .i64 0, .int .i64 0, .int .i64 0, .int .i64 0, .int .i64 0, .int .i64 0, .int .i64 0, .int .i64 0, .int .i64 0, .int .i64 0, .int .i64 0, .int .i64 0, .int .i64 0, .int .i64 0, .slice none 0 0, .int .i64 0] HY4.out (by kernel_rfl) rfl (by simp [Value.oneCell']) ?_))
  rw [← HW4.out]
  have hfin : Blk (W4.setRow (W.heap.size + 1) #[.int .i64 okind, .string oname, .int .i64 ocoins, .int .i64 obidder, .int .i64 olot, .int .i64 kind, .int .i64 opens, .int .i64 closes, .int .i64 start, .int .i64 step, .int .i64 extend, .int .i64 last, .int .i64 floor, .int .i64 fall, .int .i64 count, .int .i64 rule, (.slice A ooff.length c), .int .i64 otick]) (W.heap.size + 1) 36 #[.int .i64 okind, .string oname, .int .i64 ocoins, .int .i64 obidder, .int .i64 olot, .int .i64 kind, .int .i64 opens, .int .i64 closes, .int .i64 start, .int .i64 step, .int .i64 extend, .int .i64 last, .int .i64 floor, .int .i64 fall, .int .i64 count, .int .i64 rule, (.slice A ooff.length c), .int .i64 otick] := Blk.setRow (by have := HY4.out; rwa [← HW4.out] at this) _
  have hcf := Chg.setRow W4 (W.heap.size + 1) #[.int .i64 okind, .string oname, .int .i64 ocoins, .int .i64 obidder, .int .i64 olot, .int .i64 kind, .int .i64 opens, .int .i64 closes, .int .i64 start, .int .i64 step, .int .i64 extend, .int .i64 last, .int .i64 floor, .int .i64 fall, .int .i64 count, .int .i64 rule, (.slice A ooff.length c), .int .i64 otick]
  have hsz := HB2.out.size
  have hs2 : W.heap.size + 1 < W2.heap.size := HY.out.lt
  refine bodyPost_ret (results_cell_row rfl _ _ (W.heap.size + 1) 36 #[.int .i64 okind, .string oname, .int .i64 ocoins, .int .i64 obidder, .int .i64 olot, .int .i64 kind, .int .i64 opens, .int .i64 closes, .int .i64 start, .int .i64 step, .int .i64 extend, .int .i64 last, .int .i64 floor, .int .i64 fall, .int .i64 count, .int .i64 rule, (.slice A ooff.length c), .int .i64 otick] (0, 0) _ rfl hfin Tryz.underlying36 rfl (by kernel_rfl)) rfl ⟨A, c, rfl, ?_, ?_⟩
  · refine ⟨Sl.mono (R := fun b => (Value.slice A ooff.length c).ownBlock = some b) (Sl.keep (Sl.of_own HOW.out) (Nat.le_trans HC4.out.size hcf.size) fun b hb hr => ?_) (fun b _ hr => Nat.le_trans hsz (HOW.out.lt b hr).1), HO.out.2⟩
    have hle := (HOW.out.lt b hr).1
    rw [hcf.block b (Nat.lt_of_lt_of_le hb HC4.out.size) (by omega)]
    exact HC4.out.block b hb (by omega)
  · exact ((HB3.out.trans (HC4.out.below (B := W.heap.size) (by have := HS3.out; omega) (fun k hk e => by omega))).trans (hcf.below (B := W.heap.size) (by have := HS3.out; have := HC4.out.size; omega) (fun k hk e => by omega)))
end Go.Proofs.YthoaidfpgijbfaaGreat.Ho
namespace Go.Proofs.YthoaidfpgijbfaaGreat.Ho
open Go.RowKit
open Go.Proofs.YthoaidfpgijbfaaGreat.Vb Go.Proofs.YthoaidfpgijbfaaGreat.Ac
theorem et_order : ElemT Tryz.prog 22 36 18 168 := elemT_of Tryz.underlying22 (by omega) (z := .agg #[.int .i64 0, .string { data := #[] }, .int .i64 0, .int .i64 0, .int .i64 0, .int .i64 0, .int .i64 0, .int .i64 0, .int .i64 0, .int .i64 0, .int .i64 0, .int .i64 0, .int .i64 0, .int .i64 0, .int .i64 0, .int .i64 0, .slice none 0 0, .int .i64 0]) (by kernel_rfl) rfl
theorem exec_load_row {P : Program} {o : Oper} {a : Act} {w : World} (ty : TypeId) (x : Operand) (ho : o.op = .load ty x) (g : Nat) (hx : a.eval x = .pointer (some ⟨g, 0, none⟩)) (t : TypeId) (cs : Array Value) (fr : Nat × Nat) (d : TypeDesc) (hg : w.heap[g]? = some (.cells cs t fr))
    (hu : P.underlying ty = some d) (hd : (match d with | .struct _ | .array _ _ => true | _ => false) = true) (hi : (P.info? ty).map (·.size) = some cs.size) : (execOp a.eval o).run P w = .ok (.value (.agg cs)) w := by
  unfold execOp
  simp only [ho, hx, Instr.loadAt, Instr.sureAddr, Sem.run_bind, Sem.run_pure, Result.andThen_ok, run_loadVar_row w g t ty cs fr d hg hu hd hi]
theorem mapIdx_snoc {α β : Type} (l : List α) (x : α) (f : Nat → α → β) : (l ++ [x]).mapIdx f = l.mapIdx f ++ [f l.length x] := by simp
theorem mapIdx_congr' {α β : Type} {l : List α} {f g : Nat → α → β} (h : ∀ i x, i < l.length → f i x = g i x) : l.mapIdx f = l.mapIdx g := by
  apply List.ext_getElem?
  intro i
  simp only [List.getElem?_mapIdx]
  by_cases hi : i < l.length
  · rw [List.getElem?_eq_getElem hi]; simp [h i _ hi]
  · rw [List.getElem?_eq_none (by omega)]; rfl
theorem orderCells_snoc (os : List OrderR) (o : OrderR) (vo : Nat → Value) (v : Value) : orderCells (os ++ [o]) (fun k => if k = os.length then v else vo k) = orderCells os vo ++ o.cells v := by
  unfold orderCells
  rw [mapIdx_snoc, List.flatten_append]
  simp only [if_true, List.flatten_cons, List.flatten_nil, List.append_nil]
  congr 2
  exact mapIdx_congr' fun i x hi => by simp [show ¬ i = os.length by omega]
theorem book_end {W W5 U : World} {T : Nat → Part} {h pn pc K n : Nat} {va vl vb vs v' vc : Value} {H : House} {o : OrderR} {vo : Nat → Value} (H0 : HouseAt W T h pn pc va vl vb vs K H) (hvo : OffsAt W T vo (H.book.map (·.offers))) (hn : n = H.book.length)
    (hb5 : Below W.heap.size W W5) (hoff : Offs W5 (fun b => W.heap.size ≤ b) vc o.offers)
    (hrow : RowAt U (fun b => (T b = .book ∧ b < W.heap.size) ∨ W5.heap.size ≤ b) 36 18 v' (n + 1) (orderCells H.book vo ++ o.cells vc)) (hcU : Chg (fun b => (T b = .book ∨ T b = .hs) ∧ b < W.heap.size) W5 U)
    (hbU : Blk U h 92 #[.pointer (some ⟨pn, 0, none⟩), va, vl, .pointer (some ⟨pc, 0, none⟩), v', vs]) : ∃ T', HouseIn U T' h K { H with book := H.book ++ [o] } ∧ Moves W T U T' := by
  obtain ⟨T', hT'⟩ : ∃ T' : Nat → Part, T' = fun b => if b < W.heap.size then T b else if b < W5.heap.size then .old else if b < U.heap.size then .book else .no := ⟨_, rfl⟩
  have hT : ∀ b, b < W.heap.size → T' b = T b := fun b hb => by rw [hT']; simp [hb]
  have hs5 := hb5.size
  have hsU := hcU.size
  have hcW : Chg (fun b => T b = .book ∨ T b = .hs) W U := (Chg.of _ hb5).step hcU fun b _ e => e.1
  refine ⟨T', ⟨pn, pc, va, vl, v', vs, ?_⟩, hcW.mono fun b _ e => ?_, hT⟩
  · refine ⟨(hT h H0.blk.lt).trans H0.top, hbU, H0.names.step hcW (fun b e => by rintro (k | k) <;> rw [e] at k <;> cases k) hT, H0.accs.step hcW (fun b e => ?_) hT, H0.lots.step hcW (fun b e => ?_) hT, H0.cal.step hcW (fun b e => by rintro (k | k) <;> rw [e] at k <;> cases k) hT, ⟨fun k => if k = n then vc else vo k, ?_, fun k l hk => ?_⟩, H0.sales.step hcW (fun b e => by rintro (k | k) <;> rw [e] at k <;> cases k) hT, fun b hb => ?_⟩
    · rcases e with e | ⟨i, e⟩ <;> rintro (k | k) <;> rw [e] at k <;> cases k
    · rcases e with e | ⟨i, e⟩ | e <;> rintro (k | k) <;> rw [e] at k <;> cases k
    · show RowAt U _ _ 18 v' (H.book ++ [o]).length (orderCells (H.book ++ [o]) _)
      rw [hn, orderCells_snoc, List.length_append, List.length_singleton]
      rw [hn] at hrow
      refine ⟨hrow.own, fun b hb => ?_⟩
      have hlt := hrow.lt hb
      rcases hrow.blk b hb with k | k
      · exact (hT b k.2).trans k.1
      · rw [hT']; simp [show ¬ b < W.heap.size by omega, show ¬ b < W5.heap.size by omega, hlt]
    · by_cases e : k = n
      · subst e
        have hl : l = o.offers := by
          have : ((H.book ++ [o]).map (·.offers))[k]? = some o.offers := by simp [hn]
          have hk2 : ((H.book ++ [o]).map (·.offers))[k]? = some l := hk
          rw [this] at hk2; cases hk2; rfl
        subst hl
        simp only [if_true]
        refine Offs.mono (Offs.chg (Offs.mono (R' := fun b => W.heap.size ≤ b ∧ b < W5.heap.size) hoff fun b hb hr => ⟨hr, hb⟩) hcU fun b _ hr e => by have := e.2; omega) fun b _ hr => ?_
        rw [hT']; simp [show ¬ b < W.heap.size by omega, hr.2]
      · simp only [if_neg e]
        have hk' : (H.book.map (·.offers))[k]? = some l := by
          have hk2 : ((H.book ++ [o]).map (·.offers))[k]? = some l := hk
          have h1 := (List.getElem?_eq_some_iff.1 hk2).1
          simp only [List.length_map, List.length_append, List.length_singleton] at h1
          rw [List.map_append, List.getElem?_append_left (by simp; omega)] at hk2
          exact hk2
        have h1 := OffsAt.step (T' := T') hvo hcW (fun b e => by rintro (k | k) <;> rw [e] at k <;> cases k) hT
        exact h1 k l hk'
    · rw [hT']; simp [show ¬ b < W.heap.size by omega, show ¬ b < W5.heap.size by omega, show ¬ b < U.heap.size by omega]
  · rcases e with e | e <;> exact ⟨by rw [e]; simp, by rw [e]; simp⟩
end Go.Proofs.YthoaidfpgijbfaaGreat.Ho
namespace Go.Proofs.YthoaidfpgijbfaaGreat.Ho
open Go.RowKit
open Go.Proofs.YthoaidfpgijbfaaGreat.Vb Go.Proofs.YthoaidfpgijbfaaGreat.Ac
theorem ptrs_at {f : Nat → Nat} {n i : Nat} (h : i < n) : (ptrs f n)[i]? = some (.pointer (some ⟨f i, 0, none⟩)) := by simp [ptrs, h]
section
variable {W W' : World} {T : Nat → Part} {h pn pc K K' : Nat} {va vl vb vs : Value} {H : House}
theorem hof_err {A : Option Addr} {n c : Nat} (c1 : W.cell? ⟨h, 1, none⟩ = some (.slice A n c)) {x : Int} (hx : x < 0 ∨ (n : Int) ≤ x) : Calls Tryz.prog 60 #[.pointer (some ⟨h, 0, none⟩), .int .i64 x] W fun e W' => e = .returned (.tuple #[.pointer none, .int .i64 4]) ∧ W' = W := by
  by_cases h0 : x < 0
  · go_enter Tryz.func60, Tryz.ntmps60
    go_wp2_with fail
    go_ret2
    exact ⟨rfl, rfl⟩
  · have h1 : (n : Int) ≤ x := hx.resolve_left h0
    clear hx
    go_enter Tryz.func60, Tryz.ntmps60
    go_wp2_with fail
    go_ret2
    exact ⟨rfl, rfl⟩
theorem hof_ok {R : Nat → Prop} {n i : Nat} {f : Nat → Nat} (c1 : W.cell? ⟨h, 1, none⟩ = some va) (hrow : RowAt W R 133 1 va n (ptrs f n)) (hi : i < n) : Calls Tryz.prog 60 #[.pointer (some ⟨h, 0, none⟩), .int .i64 i] W fun e W' => e = .returned (.tuple #[.pointer (some ⟨f i, 0, none⟩), .int .i64 0]) ∧ W' = W := by
  obtain ⟨q, cap, rfl, _, _, _⟩ := hrow.ex (by omega)
  have q0 : W.cell? ⟨q, i, none⟩ = some (.pointer (some ⟨f i, 0, none⟩)) := (hrow.own.cellAt i (by omega)).trans (ptrs_at hi)
  have e1 : (0 : Int) ≤ (i : Int) := by omega
  have e2 : (i : Int) < (n : Int) := by omega
  clear hrow
  go_enter Tryz.func60, Tryz.ntmps60
  go_wp2_with fail
  go_ret2
  exact ⟨rfl, rfl⟩
theorem hlot_err (hH : HouseIn W T h K H) {x : Int} (hx : x < 0 ∨ (H.lots.length : Int) ≤ x) : Calls Tryz.prog 92 #[.pointer (some ⟨h, 0, none⟩), .int .i64 x] W fun e W' => e = .returned (.tuple #[.pointer none, .int .i64 4]) ∧ W' = W := by
  have HH := Lib.hid hH
  obtain ⟨pn, pc, va, vl, vb, vs, hA⟩ := hH
  obtain ⟨A, c, hvl⟩ := hA.lots.form
  have c2 := hA.cells.2.2.1
  rw [hvl] at c2
  obtain ⟨n, hn⟩ : ∃ n, n = H.lots.length := ⟨_, rfl⟩
  rw [← hn] at c2 hx
  clear hA hvl hn
  by_cases h0 : x < 0
  · clear hx
    go_enter Tryz.func92, Tryz.ntmps92
    go_wp2_with fail
    refine (hnone_any HH.out).mono ?_
    rintro e w1 ⟨rfl, rfl⟩
    go_wp2_with fail
    go_ret2
    exact ⟨rfl, rfl⟩
  · have h1 : (n : Int) ≤ x := hx.resolve_left h0
    clear hx
    go_enter Tryz.func92, Tryz.ntmps92
    go_wp2_with fail
    refine (hnone_any HH.out).mono ?_
    rintro e w1 ⟨rfl, rfl⟩
    go_wp2_with fail
    go_ret2
    exact ⟨rfl, rfl⟩
theorem hlot_ok (hH : HouseIn W T h K H) {i : Nat} {l : LotS} (hi : H.lots[i]? = some l) : Calls Tryz.prog 92 #[.pointer (some ⟨h, 0, none⟩), .int .i64 i] W fun e W' => (∃ b, e = .returned (.tuple #[.pointer (some ⟨b, 0, none⟩), .int .i64 0]) ∧ LotAt W T i b l) ∧ W' = W := by
  have HH := Lib.hid hH
  obtain ⟨pn, pc, va, vl, vb, vs, hA⟩ := hH
  obtain ⟨bl, hrow, hls⟩ := hA.lots
  have hl := (List.getElem?_eq_some_iff.1 hi).1
  have c2 := hA.cells.2.2.1
  obtain ⟨q, cap, rfl, _, _, _⟩ := hrow.ex (by omega)
  have q0 : W.cell? ⟨q, i, none⟩ = some (.pointer (some ⟨bl i, 0, none⟩)) := (hrow.own.cellAt i (by omega)).trans (ptrs_at hl)
  have e1 : (0 : Int) ≤ (i : Int) := by omega
  have e2 : (i : Int) < (H.lots.length : Int) := by omega
  have HL := Lib.hid (hls i l hi)
  clear hA hrow hls hi hl
  go_enter Tryz.func92, Tryz.ntmps92
  go_wp2_with fail
  refine (hnone_any HH.out).mono ?_
  rintro e w1 ⟨rfl, rfl⟩
  go_wp2_with fail
  go_ret2
  exact ⟨⟨_, rfl, HL.out⟩, rfl⟩
theorem accs_upd {acs : List Acc} {ba ma : Nat → Nat} (hrow : RowAt W (fun b => T b = .accs) 133 1 va acs.length (ptrs ba acs.length)) (has : ∀ i a, acs[i]? = some a → AccAt W (ba i) (ma i) K a ∧ T (ba i) = .acc i ∧ T (ma i) = .acc i)
    {i : Nat} {a : Acc} (hi : i < acs.length) (hK : K ≤ K') (ha : AccAt W' (ba i) (ma i) K' a) (hc : Chg (fun b => T b = .acc i) W W') : AccsAt W' T va K' (acs.set i a) := by
  refine ⟨ba, ma, ?_, fun j x hj => ?_⟩
  · rw [List.length_set]
    exact hrow.chg hc fun b _ e1 e2 => by rw [e1] at e2; cases e2
  · rw [List.getElem?_set] at hj
    by_cases e : i = j
    · subst e
      rw [if_pos rfl, if_pos hi] at hj
      cases hj
      obtain ⟨a0, ha0⟩ : ∃ a0, acs[i]? = some a0 := ⟨_, List.getElem?_eq_getElem hi⟩
      exact ⟨ha, (has i a0 ha0).2⟩
    · rw [if_neg e] at hj
      obtain ⟨h1, h2, h3⟩ := has j x hj
      exact ⟨(h1.chg hc (fun k => by rw [h2] at k; cases k; exact e rfl) (fun k => by rw [h3] at k; cases k; exact e rfl)).mono hK, h2, h3⟩
theorem house_accs (hH : HouseAt W T h pn pc va vl vb vs K H) {acs : List Acc} (hA : AccsAt W' T va K' acs) (hc : Chg (fun b => ∃ i, T b = .acc i) W W') : HouseAt W' T h pn pc va vl vb vs K' { H with accs := acs } := by
  refine ⟨hH.top, hH.blk.chg hc (fun ⟨i, k⟩ => by rw [hH.top] at k; cases k), hH.names.step hc (fun b e => by rintro ⟨i, k⟩; rw [e] at k; cases k) (fun _ _ => rfl), hA, hH.lots.step hc (fun b e => ?_) (fun _ _ => rfl),
    hH.cal.step hc (fun b e => by rintro ⟨i, k⟩; rw [e] at k; cases k) (fun _ _ => rfl), hH.book.step hc (fun b e => ?_) (fun _ _ => rfl), hH.sales.step hc (fun b e => by rintro ⟨i, k⟩; rw [e] at k; cases k) (fun _ _ => rfl), fun b hb => hH.out b (Nat.le_trans hc.size hb)⟩
  · rcases e with e | ⟨i, e⟩ | e <;> rintro ⟨i, k⟩ <;> rw [e] at k <;> cases k
  · rcases e with e | e <;> rintro ⟨i, k⟩ <;> rw [e] at k <;> cases k
end
end Go.Proofs.YthoaidfpgijbfaaGreat.Ho
namespace Go.Proofs.YthoaidfpgijbfaaGreat.Ho
open Go.RowKit
open Go.Proofs.YthoaidfpgijbfaaGreat.Vb Go.Proofs.YthoaidfpgijbfaaGreat.Ac
def relAcc (n : Nat) (acs : List Acc) (s : Stand) : List Acc := acs.modify s.bidder.toNat fun a => a.set n 0
def relAll (n : Nat) (acs : List Acc) (ss : List Stand) : List Acc := ss.foldl (relAcc n) acs
def takeA (a : Acc) (v : Int) : Acc := if a.takeE v = 0 then a.take v else a
def payAcc (acs : List Acc) (s : SaleR) : List Acc := acs.modify s.bidder.toNat fun a => takeA a s.coins
def payAll (acs : List Acc) (ss : List SaleR) : List Acc := ss.foldl payAcc acs
def stampS (H : House) (n : Nat) (s : SaleR) : SaleR := { s with number := H.book.length, lot := n, tick := H.now }
def closeH (H : House) (n : Nat) (l : LotS) (sales : List SaleR) : House :=
  { H with accs := payAll (relAll n H.accs l.stands) sales, sales := H.sales ++ sales.map (stampS H n), lots := H.lots.set n { l with closed := true, stands := [] } }
theorem relAcc_len (n : Nat) (acs : List Acc) (s : Stand) : (relAcc n acs s).length = acs.length := by simp [relAcc]
theorem relAll_len (n : Nat) (ss : List Stand) : ∀ acs : List Acc, (relAll n acs ss).length = acs.length := by
  induction ss with
  | nil => intro acs; rfl
  | cons s ss ih => intro acs; exact (ih _).trans (relAcc_len n acs s)
theorem payAll_len (ss : List SaleR) : ∀ acs : List Acc, (payAll acs ss).length = acs.length := by
  induction ss with
  | nil => intro acs; rfl
  | cons s ss ih => intro acs; exact (ih _).trans (by simp [payAcc])
theorem relAll_snoc (n : Nat) (acs : List Acc) (ss : List Stand) (s : Stand) : relAll n acs (ss ++ [s]) = relAcc n (relAll n acs ss) s := by simp [relAll]
theorem payAll_snoc (acs : List Acc) (ss : List SaleR) (s : SaleR) : payAll acs (ss ++ [s]) = payAcc (payAll acs ss) s := by simp [payAll]
theorem modify_set {α : Type} {l : List α} {i : Nat} {a : α} (f : α → α) (h : l[i]? = some a) : l.modify i f = l.set i (f a) := by
  apply List.ext_getElem?
  intro j
  have hl := (List.getElem?_eq_some_iff.1 h).1
  rw [List.getElem?_modify, List.getElem?_set]
  by_cases e : i = j
  · subst e
    rw [List.getElem?_eq_getElem hl] at h
    injection h with h
    simp [hl, h]
  · simp [e]
theorem take_succ' {α : Type} {l : List α} {k : Nat} {x : α} (h : l[k]? = some x) : l.take (k + 1) = l.take k ++ [x] := by rw [List.take_add_one, h]; rfl
def AccsOk (acs : List Acc) : Prop := ∀ a ∈ acs, a.Ok ∧ a.Fine
theorem AccsOk.set {acs : List Acc} (h : AccsOk acs) {i : Nat} {a : Acc} (ha : a.Ok ∧ a.Fine) : AccsOk (acs.set i a) := fun x hx => by
  rcases List.mem_or_eq_of_mem_set hx with h1 | h1
  · exact h x h1
  · rw [h1]; exact ha
theorem relAll_ok {n : Nat} (hn : (n : Int) ≤ 9223372036854775807) : ∀ (ss : List Stand) (acs : List Acc), AccsOk acs → AccsOk (relAll n acs ss)
  | [], _, h => h
  | s :: ss, acs, h => by
    refine relAll_ok hn ss _ ?_
    unfold relAcc
    cases hs : acs[s.bidder.toNat]? with
    | none => rw [List.modify_eq_self (by rw [List.getElem?_eq_none_iff] at hs; exact hs)]; exact h
    | some a =>
      rw [modify_set _ hs]
      have ha := h a (List.mem_of_getElem? hs)
      exact h.set (release_keeps ha.1 ha.2 (by omega) hn)
theorem takeA_ok {a : Acc} (h : a.Ok ∧ a.Fine) (v : Int) : (takeA a v).Ok ∧ (takeA a v).Fine := by
  unfold takeA
  split
  · exact take_keeps h.1 h.2 (by assumption)
  · exact h
theorem payAll_ok : ∀ (ss : List SaleR) (acs : List Acc), AccsOk acs → AccsOk (payAll acs ss)
  | [], _, h => h
  | s :: ss, acs, h => by
    refine payAll_ok ss _ ?_
    unfold payAcc
    cases hs : acs[s.bidder.toNat]? with
    | none => rw [List.modify_eq_self (by rw [List.getElem?_eq_none_iff] at hs; exact hs)]; exact h
    | some a =>
      rw [modify_set _ hs]
      exact h.set (takeA_ok (h a (List.mem_of_getElem? hs)) _)
end Go.Proofs.YthoaidfpgijbfaaGreat.Ho
namespace Go.Proofs.YthoaidfpgijbfaaGreat.Ho
open Go.RowKit
open Go.Proofs.YthoaidfpgijbfaaGreat.Vb Go.Proofs.YthoaidfpgijbfaaGreat.Ac
theorem flat_get {n : Nat} : ∀ {xs : List (List Value)} {k i : Nat} {x : List Value}, (∀ y ∈ xs, y.length = n) → xs[k]? = some x → i < n → xs.flatten[k * n + i]? = x[i]?
  | [], _, _, _, _, h, _ => by simp at h
  | y :: ys, 0, i, x, hl, h, hi => by
    obtain rfl : y = x := by simpa using h
    rw [List.flatten_cons, List.getElem?_append_left (by have := hl y (.head _); omega)]
    congr 1; omega
  | y :: ys, k + 1, i, x, hl, h, hi => by
    have hy := hl y (.head _)
    rw [List.flatten_cons, List.getElem?_append_right (by rw [hy, Nat.succ_mul]; omega), show (k + 1) * n + i - y.length = k * n + i by rw [hy, Nat.succ_mul]; omega]
    exact flat_get (fun z hz => hl z (.tail _ hz)) (by simpa using h) hi
theorem mapIdx_len {α : Type} {l : List α} {f : Nat → α → List Value} {n : Nat} (h : ∀ i x, (f i x).length = n) : ∀ y ∈ l.mapIdx f, y.length = n := fun y hy => by
  obtain ⟨i, hi, rfl⟩ := List.mem_mapIdx.1 hy
  exact h _ _
theorem standCells_at {ss : List Stand} {vo : Nat → Value} {k i : Nat} {s : Stand} (hk : ss[k]? = some s) (hi : i < 3) : (standCells ss vo)[k * 3 + i]? = (s.cells (vo k))[i]? :=
  flat_get (mapIdx_len fun _ _ => rfl) (by rw [List.getElem?_mapIdx, hk]; rfl) hi
theorem saleCells_at {ss : List SaleR} {k i : Nat} {s : SaleR} (hk : ss[k]? = some s) (hi : i < 7) : (ss.flatMap SaleR.cells)[k * 7 + i]? = s.cells[i]? := by
  rw [List.flatMap_def]
  exact flat_get (fun y hy => by obtain ⟨x, _, rfl⟩ := List.mem_map.1 hy; rfl) (by rw [List.getElem?_map, hk]; rfl) hi
section
variable {W W' U : World} {T T' : Nat → Part} {h pn pc K : Nat} {va vl vb vs v v' : Value} {H : House}
theorem StandsAt.at_ {R : Nat → Prop} {ss : List Stand} (hs : StandsAt W T R v ss) {k : Nat} {s : Stand} (hk : ss[k]? = some s) :
    ∃ q cap uA uc, v = .slice (some ⟨q, 0, none⟩) ss.length cap ∧ R q ∧ q < W.heap.size ∧ W.cell? ⟨q, k * 3, none⟩ = some (.int .i64 s.bidder) ∧ W.cell? ⟨q, k * 3 + 1, none⟩ = some (.slice uA s.offers.length uc) ∧ W.cell? ⟨q, k * 3 + 2, none⟩ = some (.int .i64 s.held) ∧ Offs W (fun b => T b = .old) (.slice uA s.offers.length uc) s.offers := by
  obtain ⟨vo, h1, h2⟩ := hs
  have hl := (List.getElem?_eq_some_iff.1 hk).1
  obtain ⟨q, cap, rfl, hR, hq, _⟩ := h1.ex (by omega)
  have ho := h2 k s.offers (by rw [List.getElem?_map, hk]; rfl)
  obtain ⟨⟨_, uA, uc, hu, _⟩, _⟩ := id ho
  rw [hu] at ho
  refine ⟨q, cap, uA, uc, rfl, hR, hq, ?_, ?_, ?_, ho⟩
  · exact (h1.own.cellAt (k * 3) (by omega)).trans (standCells_at (i := 0) hk (by omega))
  · refine (h1.own.cellAt (k * 3 + 1) (by omega)).trans ((standCells_at (i := 1) hk (by omega)).trans ?_)
    rw [hu]; rfl
  · exact (h1.own.cellAt (k * 3 + 2) (by omega)).trans (standCells_at (i := 2) hk (by omega))
theorem sales_end (H0 : HouseAt W T h pn pc va vl vb vs K H) {s : SaleR} (hrow : RowAt U (fun b => T b = .sales ∨ W.heap.size ≤ b) 44 7 v' (H.sales.length + 1) (H.sales.flatMap SaleR.cells ++ s.cells)) (hcU : Chg (fun b => T b = .sales ∨ T b = .hs) W U)
    (hbU : Blk U h 92 #[.pointer (some ⟨pn, 0, none⟩), va, vl, .pointer (some ⟨pc, 0, none⟩), vb, v']) : ∃ T', HouseAt U T' h pn pc va vl vb v' K { H with sales := H.sales ++ [s] } ∧ Moves W T U T' := by
  obtain ⟨T', hT'⟩ : ∃ T' : Nat → Part, T' = fun b => if b < W.heap.size then T b else if b < U.heap.size then .sales else .no := ⟨_, rfl⟩
  have hT : ∀ b, b < W.heap.size → T' b = T b := fun b hb => by rw [hT']; simp [hb]
  have hsU := hcU.size
  refine ⟨T', ?_, hcU.mono fun b _ e => ?_, hT⟩
  · refine ⟨(hT h H0.blk.lt).trans H0.top, hbU, H0.names.step hcU (fun b e => by rintro (k | k) <;> rw [e] at k <;> cases k) hT, H0.accs.step hcU (fun b e => ?_) hT, H0.lots.step hcU (fun b e => ?_) hT, H0.cal.step hcU (fun b e => by rintro (k | k) <;> rw [e] at k <;> cases k) hT, H0.book.step hcU (fun b e => ?_) hT, ?_, fun b hb => ?_⟩
    · rcases e with e | ⟨i, e⟩ <;> rintro (k | k) <;> rw [e] at k <;> cases k
    · rcases e with e | ⟨i, e⟩ | e <;> rintro (k | k) <;> rw [e] at k <;> cases k
    · rcases e with e | e <;> rintro (k | k) <;> rw [e] at k <;> cases k
    · show RowAt U _ _ 7 v' (H.sales ++ [s]).length ((H.sales ++ [s]).flatMap SaleR.cells)
      rw [List.length_append, List.length_singleton, List.flatMap_append, List.flatMap_singleton]
      refine ⟨hrow.own, fun b hb => ?_⟩
      have hlt := hrow.lt hb
      by_cases hbW : b < W.heap.size
      · rw [hT b hbW]
        exact (hrow.blk b hb).resolve_right (by omega)
      · rw [hT']; simp [hbW, hlt]
    · rw [hT']; simp [show ¬ b < W.heap.size by omega, show ¬ b < U.heap.size by omega]
  · rcases e with e | e <;> exact ⟨by rw [e]; simp, by rw [e]; simp⟩
theorem house_lot (H0 : HouseAt W T h pn pc va vl vb vs K H) {bl : Nat → Nat} (hrow : RowAt W (fun b => T b = .lots) 135 1 vl H.lots.length (ptrs bl H.lots.length)) (hls : ∀ n l, H.lots[n]? = some l → LotAt W T n (bl n) l)
    {j : Nat} (hj : j < H.lots.length) {l : LotS} (hl : LotAt U T' j (bl j) l) (hc : Chg (fun b => T b = .lot j) W U) (hT : ∀ b, b < W.heap.size → T' b = T b) (hout : ∀ b, U.heap.size ≤ b → T' b = .no) :
    HouseAt U T' h pn pc va vl vb vs K { H with lots := H.lots.set j l } := by
  have hn : ∀ b P, T b = P → P ≠ .lot j → ¬ T b = .lot j := fun b P e1 e2 e3 => e2 (e1.symm.trans e3)
  refine ⟨(hT h H0.blk.lt).trans H0.top, H0.blk.chg hc (hn h _ H0.top (by simp)), H0.names.step hc (fun b e => hn b _ e (by simp)) hT, H0.accs.step hc (fun b e => ?_) hT, ⟨bl, ?_, fun n x hn' => ?_⟩, H0.cal.step hc (fun b e => hn b _ e (by simp)) hT, H0.book.step hc (fun b e => ?_) hT, H0.sales.step hc (fun b e => hn b _ e (by simp)) hT, hout⟩
  · rcases e with e | ⟨i, e⟩ <;> exact hn b _ e (by simp)
  · show RowAt U _ _ 1 vl (H.lots.set j l).length (ptrs bl (H.lots.set j l).length)
    rw [List.length_set]
    exact RowAt.step hrow hc (fun b e => hn b _ e (by simp)) hT
  · rw [List.getElem?_set] at hn'
    by_cases e : j = n
    · subst e
      rw [if_pos rfl, if_pos hj] at hn'
      cases hn'
      exact hl
    · rw [if_neg e] at hn'
      refine (hls n x hn').step hc (fun b e1 => ?_) hT
      rcases e1 with e1 | e1
      · exact hn b _ e1 (by simpa using fun k => e k.symm)
      · exact hn b _ e1 (by simp)
  · rcases e with e | e <;> exact hn b _ e (by simp)
end
end Go.Proofs.YthoaidfpgijbfaaGreat.Ho
namespace Go.Proofs.YthoaidfpgijbfaaGreat.Ho
open Go.RowKit Go.Lib
open Go.Proofs.YthoaidfpgijbfaaGreat.Vb Go.Proofs.YthoaidfpgijbfaaGreat.Ac
def layA (cs : Array Value) : Nat → List Value → Array Value
  | _, [] => cs
  | o, v :: r => layA (cs.setIfInBounds o v) (o + 1) r
theorem layA_size : ∀ (vs : List Value) (cs : Array Value) (o : Nat), (layA cs o vs).size = cs.size
  | [], _, _ => rfl
  | v :: r, cs, o => (layA_size r _ _).trans (by simp)
theorem layA_get : ∀ (vs : List Value) (cs : Array Value) (o k : Nat), o + vs.length ≤ cs.size → (layA cs o vs)[k]? = if o ≤ k ∧ k < o + vs.length then vs[k - o]? else cs[k]?
  | [], cs, o, k, _ => by rw [if_neg (by simp only [List.length_nil]; omega)]; rfl
  | v :: r, cs, o, k, h => by
    simp only [List.length_cons] at h ⊢
    show (layA (cs.setIfInBounds o v) (o + 1) r)[k]? = _
    rw [layA_get r _ _ k (by simp; omega)]
    by_cases h1 : o + 1 ≤ k ∧ k < o + 1 + r.length
    · rw [if_pos h1, if_pos (by omega), show k - o = (k - (o + 1)) + 1 by omega]; simp
    · rw [if_neg h1, Array.getElem?_setIfInBounds]
      by_cases h2 : o = k
      · subst h2; rw [if_pos rfl, if_pos (by omega), if_pos (by omega)]; simp
      · rw [if_neg h2, if_neg (by omega)]
theorem blk_setCells {q : Nat} {t : TypeId} : ∀ (vs : List Value) {W : World} {cs : Array Value} (o : Nat), Blk W q t cs → Blk (W.setCells q o vs) q t (layA cs o vs)
  | [], _, _, _, h => h
  | v :: r, _, _, o, h => blk_setCells r (o + 1) (h.set_ o v)
theorem chg_setCells (q : Nat) : ∀ (vs : List Value) (W : World) (o : Nat), Chg (· = q) W (W.setCells q o vs)
  | [], W, _ => Chg.refl _ W
  | v :: r, W, o => (Chg.set W ⟨q, o, none⟩ v).trans (chg_setCells q r _ (o + 1))
theorem run_clear_one {P : Program} (w : World) (t e ty : TypeId) (z : Value) (ht : P.underlying t = some (.slice e)) (hv : ∀ w, (zeroValue e).run P w = .ok z w) (h1 : ∀ u ∈ z.cells.toList, u.oneCell' = true) (b o c : Nat)
    (hc : ∀ j, j < z.cells.size → (w.cell? ⟨b, o + j, none⟩).isSome = true) (hf : ∀ j, j < z.cells.size → w.frozen? ⟨b, o + j, none⟩ = false) :
    (Builtin.clear_ #[t] ty #[.slice (some ⟨b, o, none⟩) 1 c]).run P w = .ok (.tuple #[]) (w.setCells b o z.cells.toList) := by
  have hzc : (Builtin.zeroCells z.cells 1).toList = z.cells.toList := by
    simp [Builtin.zeroCells]
    apply List.ext_getElem
    · simp
    · intro i h1 h2
      have hm : i % z.cells.size = i := Nat.mod_eq_of_lt (by simpa using h1)
      have hl : i < z.cells.size := by simpa using h1
      simp [hm, hl]
  have hst := run_storeCells_cells (P := P) b o z.cells.toList 0 w (by simpa using hc) (by simpa using hf) h1
  simp only [Nat.add_zero] at hst
  simp [Builtin.clear_, run_underlying ht, hv, hzc, hst]
abbrev zSt : Value := .agg #[.int .i64 0, .slice none 0 0, .int .i64 0]
theorem zero_st (w : World) : (zeroValue 103).run Tryz.prog w = .ok zSt w := Tryz.zeroValue103 w
set_option maxRecDepth 100000 in
set_option maxHeartbeats 4000000 in
theorem sdel_any {W : World} {R : Nat → Prop} {q n cap i j : Nat} {xs : List Value} (h : RowAt W R 103 3 (.slice (some ⟨q, 0, none⟩) n cap) n xs) (hi : i < n) (hj : j = i + 1) (h1 : ∀ u ∈ xs, u.oneCell' = true) :
    Calls Tryz.prog 87 #[.slice (some ⟨q, 0, none⟩) n cap, .int .i64 i, .int .i64 j] W fun e W' => e = .returned (.slice (some ⟨q, 0, none⟩) (n - 1) cap) ∧
      RowAt W' R 103 3 (.slice (some ⟨q, 0, none⟩) (n - 1) cap) (n - 1) (xs.take (i * 3) ++ xs.drop (i * 3 + 3)) ∧ Chg (· = q) W W' := by
  obtain ⟨hlen, hrow⟩ := h.own
  rcases hrow with ⟨hv, _⟩ | ⟨g, cap', cur, hv, _, hg, hnc, hcm, hcs, htk⟩
  · cases hv
  injection hv with e1 e2 e3
  injection e1 with e1
  injection e1 with e1
  subst e1 e3
  clear e2
  have hB0 : Blk W q 103 cur := hg
  obtain ⟨i0, hi0, hz0, hz1, hz2⟩ := info_parts (P := Tryz.prog) (e := 103) (z := zSt) (size := 3) (bytes := 40) (by kernel_rfl)
  obtain ⟨news, hnews⟩ : ∃ news, news = xs.drop (i * 3 + 3) := ⟨_, rfl⟩
  have hnl : news.length = (n - j) * 3 := by rw [hnews, List.length_drop]; omega
  have hcell : ∀ k, k < n * 3 → W.cell? ⟨q, k, none⟩ = xs[k]? := fun k hk => h.own.cellAt k hk
  obtain ⟨A, hA, hsrc⟩ : ∃ A : Addr, (if cap = j then (some ⟨q, 0, none⟩ : Option Addr) else some ⟨q, j * 3, none⟩) = some A ∧ Hid (∀ t u, news[t]? = some u → W.drew.cell? (A.add t) = some u) := by
    by_cases hcp : cap = j
    · refine ⟨⟨q, 0, none⟩, by simp [hcp], fun t u hu => ?_⟩
      have := (List.getElem?_eq_some_iff.1 hu).1
      omega
    · refine ⟨⟨q, j * 3, none⟩, by simp [hcp], fun t u hu => ?_⟩
      have ht := (List.getElem?_eq_some_iff.1 hu).1
      rw [Addr.add_lit]
      refine (hcell _ (by omega)).trans ?_
      rw [hnews, List.getElem?_drop] at hu
      rw [← hu]; congr 1; omega
  have s2 : Hid (∀ u ∈ news, u.oneCell' = true) := by rw [hnews]; exact fun u hu => h1 u (List.mem_of_mem_drop hu)
  have hcsz : ∀ k, k < cap * 3 → (W.cell? ⟨q, k, none⟩).isSome = true := fun k hk => by
    rw [hB0.cell k, Array.getElem?_eq_getElem (by omega)]; rfl
  have s3 : Hid (∀ t, t < news.length → (W.drew.cell? ⟨q, 0 + i * 3 + t, none⟩).isSome = true ∧ W.drew.frozen? ⟨q, 0 + i * 3 + t, none⟩ = false) := fun t ht => ⟨hcsz _ (by omega), hB0.frozen _⟩
  obtain ⟨W1, hW1⟩ : ∃ W1, W1 = W.drew.setCells q (0 + i * 3) news := ⟨_, rfl⟩
  have hB1 : Blk W1 q 103 (layA cur (i * 3) news) := by rw [hW1, Nat.zero_add]; exact blk_setCells news (i * 3) (Blk.grow hB0 (Below.refl _ _).drew)
  have hC1 : Chg (· = q) W W1 := by rw [hW1]; exact ((Chg.refl _ W).grow (Below.refl _ _).drew).trans (chg_setCells _ _ _ _)
  obtain ⟨W2, hW2⟩ : ∃ W2, W2 = W1.setCells q ((i + (n - j)) * 3) zSt.cells.toList := ⟨_, rfl⟩
  have hB2 : Blk W2 q 103 (layA (layA cur (i * 3) news) ((n - 1) * 3) zSt.cells.toList) := by rw [hW2, show (i + (n - j)) * 3 = (n - 1) * 3 by omega]; exact blk_setCells _ _ hB1
  have hC2 : Chg (· = q) W W2 := by rw [hW2]; exact hC1.trans (chg_setCells _ _ _ _)
  have hcl : ∀ ty, (Builtin.clear_ #[99] ty #[.slice (some ⟨q, (i + (n - j)) * 3, none⟩) (n - (i + (n - j))) (cap - (i + (n - j)))]).run Tryz.prog W1 = .ok (.tuple #[]) W2 := fun ty => by
    rw [hW2, show n - (i + (n - j)) = 1 by omega]
    refine run_clear_one W1 _ _ ty zSt Tryz.underlying99 zero_st (show ∀ u ∈ [Value.int .i64 0, .slice none 0 0, .int .i64 0], u.oneCell' = true by simp [Value.oneCell']) q _ _ (fun j hj => ?_) fun j _ => hB1.frozen _
    have hj : j < 3 := hj
    rw [hB1.cell, Array.getElem?_eq_getElem (by rw [layA_size]; omega)]; rfl
  have HB2 := Lib.hid hB2
  have HC2 := Lib.hid hC2
  have HN := Lib.hid hnl
  have HW1 := Lib.hid hW1
  have HH := Lib.hid h
  have HNW := Lib.hid hnews
  have HCS := Lib.hid hcs
  have HTK := Lib.hid htk
  have hic : i ≤ cap := by omega
  have hjc : j ≤ cap := by omega
  have hne : ¬ i = j := by omega
  have hij : i ≤ j := by omega
  have hjn : j ≤ n := by omega
  have HJ := Lib.hid hj
  clear hB2 hC2 hnl hW1 h hnews hcs htk hC1 hW2 hB1 hcell hcsz hB0 h1 hg hlen hj
  go_enter Tryz.func87, Tryz.ntmps87
  go_wp2_with fail
  refine wp_region_F (Below W.heap.size W) [6, 7] (by kernel_rfl) ((Below.refl _ _).drew) (fun hS => ?_)
  refine wpAnyF_takeD [2, 6, 7] (i := 0) (oi := ⟨some 20, .move (.tmp 0), 99, "slices.go:232", #[], none⟩) (v := ?_) rfl (by kernel_rfl) (by kernel_rfl) (by kernel_rfl) (by kernel_rfl) (fun _ _ _ h => h) (Or.inl ⟨by rfl, ?_⟩) hS ?_
  rotate_left
  · intro w' hSw; go_simp; try with_reducible rfl
  try simp only [Act.put, pb, pz, ps]
  refine wpAnyF_takeD [2, 6, 7] (i := 1) (oi := ⟨some 21, .move (.tmp 1), 3, "slices.go:232", #[], none⟩) (v := ?_) rfl (by kernel_rfl) (by kernel_rfl) (by kernel_rfl) (by kernel_rfl) (fun _ _ _ h => h) (Or.inl ⟨by rfl, ?_⟩) hS ?_
  rotate_left
  · intro w' hSw; go_simp; try with_reducible rfl
  try simp only [Act.put, pb, pz, ps]
  refine wpAnyF_take (i := 2) (oi := ⟨some 22, .slice 99 (.tmp 20) none (some (.tmp 21)) none, 99, "slices.go:232", #[⟨0, .data⟩, ⟨1, .data⟩], none⟩) (v := ?_) rfl (by kernel_rfl) (by kernel_rfl) (by kernel_rfl) (by kernel_rfl) (fun _ _ _ h => h) (Or.inl ⟨by rfl, ?_⟩) hS ?_
  rotate_left
  · intro w' hSw; go_simp; try with_reducible rfl
  try simp only [Act.put, pb, pz, ps]
  refine wpAnyF_takeD [5, 6, 7] (i := 3) (oi := ⟨some 23, .move (.tmp 0), 99, "slices.go:232", #[], none⟩) (v := ?_) rfl (by kernel_rfl) (by kernel_rfl) (by kernel_rfl) (by kernel_rfl) (fun _ _ _ h => h) (Or.inl ⟨by rfl, ?_⟩) hS ?_
  rotate_left
  · intro w' hSw; go_simp; try with_reducible rfl
  try simp only [Act.put, pb, pz, ps]
  refine wpAnyF_takeD [5, 6, 7] (i := 4) (oi := ⟨some 24, .move (.tmp 2), 3, "slices.go:232", #[], none⟩) (v := ?_) rfl (by kernel_rfl) (by kernel_rfl) (by kernel_rfl) (by kernel_rfl) (fun _ _ _ h => h) (Or.inl ⟨by rfl, ?_⟩) hS ?_
  rotate_left
  · intro w' hSw; go_simp; try with_reducible rfl
  try simp only [Act.put, pb, pz, ps]
  refine wpAnyF_take (i := 5) (oi := ⟨some 25, .slice 99 (.tmp 23) (some (.tmp 24)) none none, 99, "slices.go:232", #[⟨3, .data⟩, ⟨4, .data⟩], none⟩) (v := ?_) rfl (by kernel_rfl) (by kernel_rfl) (by kernel_rfl) (by kernel_rfl) (fun _ _ _ h => h) (Or.inl ⟨by rfl, ?_⟩) hS ?_
  rotate_left
  · intro w' hSw; go_simp; try with_reducible rfl
  try simp only [Act.put, pb, pz, ps]
  refine wpAnyF_ready (rs := [6]) (by kernel_rfl) (by simp) ?_
  refine AllReadyF.fin (o := ⟨some 26, .call { callee := .builtin .append, args := #[.tmp 22, .tmp 25], argTypes := #[99, 99] }, 99, "slices.go:232", #[⟨2, .data⟩, ⟨5, .data⟩], none⟩) rfl (by rfl) (fun K hK => ?_) ?_
  · refine step_append_room rfl (.tmp 22) (.tmp 25) 99 rfl 103 i0 3 Tryz.underlying99 hi0 hz1 q 0 i cap (by simp [Act.eval]) A (n - j) (cap - j) news (by simp [Act.eval]) HN.out hsrc.out s2.out (by omega) s3.out ?_
    rw [← HW1.out]
    refine hK.out _ _ ?_
    clear hK K
    try simp only [Act.put, pb, pz, ps]
    refine wpAnyF_takeW (i := 7) (oi := ⟨some 0, .assign (.tmp 26), 99, "slices.go:232", #[⟨6, .data⟩, ⟨6, .chain⟩, ⟨0, .phase⟩, ⟨1, .phase⟩, ⟨2, .phase⟩, ⟨3, .phase⟩, ⟨4, .phase⟩, ⟨5, .phase⟩, ⟨6, .phase⟩], none⟩) (v := ?_) rfl (by kernel_rfl) (by kernel_rfl) (by kernel_rfl) (by kernel_rfl) (fun _ _ _ h => h) (Or.inl ⟨by rfl, ?_⟩) ?_
    rotate_left
    · intro w' _; go_simp; try with_reducible rfl
    try simp only [Act.put, pb, pz, ps]
    refine wpAnyF_done (by kernel_rfl) ?_ _
    clear hS
    go_wp2_with fail
    go_ret
    have hj := HJ.out
    have hcs := HCS.out
    have htk := HTK.out
    have hnl := HN.out
    have hnw := HNW.out
    have hlen := HH.out.len
    refine ⟨by rw [show i + (n - j) = n - 1 by omega]; rfl, ⟨⟨?_, .inr ⟨q, cap, _, rfl, Nat.zero_le _, HB2.out, by omega, hcm, ?_, ?_⟩⟩, fun b hb => HH.out.blk b hb⟩, HC2.out⟩
    · rw [List.length_append, List.length_take, List.length_drop]; omega
    · rw [layA_size, layA_size]; exact hcs
    · apply List.ext_getElem?
      intro k
      have hz3 : zSt.cells.toList.length = 3 := rfl
      have hg1 : ∀ k, k < (n - 1) * 3 → (layA (layA cur (i * 3) news) ((n - 1) * 3) zSt.cells.toList)[k]? = (layA cur (i * 3) news)[k]? := fun k hk => by
        rw [layA_get _ _ _ k (by rw [layA_size, hz3]; omega), if_neg (by omega)]
      by_cases hk : k < (n - 1) * 3
      · rw [List.getElem?_take, if_pos hk, Array.getElem?_toList, hg1 k hk, layA_get _ _ _ k (by omega)]
        by_cases hk2 : k < i * 3
        · rw [if_neg (by omega), List.getElem?_append_left (by rw [List.length_take]; omega), List.getElem?_take, if_pos hk2, ← htk, List.getElem?_take, if_pos (by omega), Array.getElem?_toList]
        · rw [if_pos (by omega), List.getElem?_append_right (by rw [List.length_take]; omega), List.length_take, hnw]
          congr 1; omega
      · rw [List.getElem?_eq_none (by rw [List.length_take]; omega), List.getElem?_eq_none (by rw [List.length_append, List.length_take, List.length_drop]; omega)]
  exact AllReadyF.nil
end Go.Proofs.YthoaidfpgijbfaaGreat.Ho
namespace Go.Proofs.YthoaidfpgijbfaaGreat.Ho
open Go.RowKit
open Go.Proofs.YthoaidfpgijbfaaGreat.Vb Go.Proofs.YthoaidfpgijbfaaGreat.Ac
def placeN (b : Int) : List Stand → Option Nat
  | [] => none
  | s :: l => if s.bidder = b then some 0 else (placeN b l).map (· + 1)
def placeI (b : Int) (l : List Stand) : Int := match placeN b l with | some k => k | none => -1
theorem placeN_some {b : Int} : ∀ {l : List Stand} {k : Nat} {s : Stand}, l[k]? = some s → s.bidder = b → (∀ j x, j < k → l[j]? = some x → ¬ x.bidder = b) → placeN b l = some k
  | [], k, s, h, _, _ => by simp at h
  | x :: l, 0, s, h, hb, _ => by simp at h; subst h; simp [placeN, hb]
  | x :: l, k + 1, s, h, hb, hn => by
    have h0 := hn 0 x (by omega) rfl
    have := placeN_some (l := l) (k := k) (by simpa using h) hb (fun j y hj hy => hn (j + 1) y (by omega) (by simpa using hy))
    simp [placeN, h0, this]
theorem placeN_none {b : Int} : ∀ {l : List Stand}, (∀ (j : Nat) (x : Stand), l[j]? = some x → ¬ x.bidder = b) → placeN b l = none
  | [], _ => rfl
  | x :: l, h => by
    have h0 := h 0 x rfl
    simp [placeN, h0, placeN_none (fun j y hy => h (j + 1) y (by simpa using hy))]
theorem placeN_lt {b : Int} : ∀ {l : List Stand} {k : Nat}, placeN b l = some k → ∃ s, l[k]? = some s ∧ s.bidder = b ∧ ∀ j x, j < k → l[j]? = some x → ¬ x.bidder = b
  | [], k, h => by simp [placeN] at h
  | x :: l, k, h => by
    unfold placeN at h
    split at h
    · cases h
      exact ⟨x, rfl, by assumption, fun j y hj => by omega⟩
    · rename_i hx
      obtain ⟨m, hm, rfl⟩ := Option.map_eq_some_iff.1 h
      obtain ⟨s, h1, h2, h3⟩ := placeN_lt hm
      refine ⟨s, by simpa using h1, h2, fun j y hj hy => ?_⟩
      rcases j with _ | j
      · simp at hy; subst hy; exact hx
      · exact h3 j y (by omega) (by simpa using hy)
set_option maxHeartbeats 400000 in
theorem place1_any (x d y : Int) (A : Option Addr) (n c g : Nat) (w : World) (hc : w.cell? ⟨g, 0, none⟩ = some (.int .i64 y)) :
    Calls Tryz.prog 128 #[.agg #[.int .i64 x, .slice A n c, .int .i64 d], .pointer (some ⟨g, 0, none⟩)] w fun e w' => e = .returned (.bool (decide (x = y))) ∧ Below w.heap.size w w' := by
  have hg := World.block_lt_of_cell? w _ hc
  have c0 : (w.alloc (.cells #[.int .i64 x, .slice A n c, .int .i64 d] 103)).cell? ⟨g, 0, none⟩ = some (.int .i64 y) := by rw [World.cell?_alloc_old _ _ _ (Nat.ne_of_lt hg)]; exact hc
  go_enter Tryz.func128, Tryz.ntmps128
  go_wp2
  go_ret
  exact ⟨rfl, (Below.refl _ _).alloc (Nat.le_refl _) _⟩
set_option maxHeartbeats 1000000 in
theorem indexP_any {w : World} {T : Nat → Part} {R : Nat → Prop} {A : Option Addr} {c : Nat} {l : List Stand} (hst : StandsAt w T R (.slice A l.length c) l) {g : Nat} {y : Int} (hg : w.cell? ⟨g, 0, none⟩ = some (.int .i64 y)) :
    Calls Tryz.prog 127 #[.slice A l.length c, .func (.func 128) #[] #[.pointer (some ⟨g, 0, none⟩)]] w fun e w' => e = .returned (.int .i64 (placeI y l)) ∧ Below w.heap.size w w' := by
  have hlt := World.block_lt_of_cell? w _ hg
  have hmx : l.length ≤ 9223372036854775807 := by obtain ⟨_, h, _⟩ := hst; have := h.max; unfold maxLen at this; omega
  have HST := Lib.hid hst
  have HG := Lib.hid hg
  clear hst hg
  obtain ⟨n, hn⟩ : ∃ z, z = l.length := ⟨_, rfl⟩
  rw [← hn] at HST hmx ⊢
  have HN := Lib.hid hn
  clear hn
  go_enter Tryz.func127, Tryz.ntmps127
  go_wp2
  go_loopw [8] (fun i wr => ∃ k : Nat, k ≤ n ∧ i = .int .i64 k ∧ Below w.heap.size w wr ∧ ∀ j x, j < k → l[j]? = some x → ¬ x.bidder = y) (fun i _ => n - (intOf i).toNat)
  case atStart => exact ⟨0, Nat.zero_le _, rfl, Below.refl _ _, fun j x hj => by omega⟩
  case round =>
    obtain ⟨k, hk, rfl, hb, hno⟩ := hrel
    have HNO := Lib.hid hno
    have HB := Lib.hid hb
    clear hno
    by_cases hltk : k < n
    · obtain ⟨s, hs⟩ : ∃ s, l[k]? = some s := ⟨_, List.getElem?_eq_getElem (by rw [← HN.out]; exact hltk)⟩
      obtain ⟨q, cap, uA, uc, hv, _, hq, d0, d1, d2, _⟩ := StandsAt.at_ HST.out hs
      injection hv with hv1 hv2 hv3
      subst hv1 hv3
      clear hv2
      have d0 := (hb.cell (p := ⟨q, k * 3, none⟩) hq).trans d0
      have d1 := (hb.cell (p := ⟨q, k * 3 + 1, none⟩) hq).trans d1
      have d2 := (hb.cell (p := ⟨q, k * 3 + 2, none⟩) hq).trans d2
      have hgc : wr.cell? ⟨g, 0, none⟩ = some (.int .i64 y) := (hb.cell (p := ⟨g, 0, none⟩) hlt).trans HG.out
      have HS := Lib.hid hs
      have HGC := Lib.hid hgc
      obtain ⟨sb, hsb⟩ : ∃ z, z = s.bidder := ⟨_, rfl⟩
      obtain ⟨sh, hsh⟩ : ∃ z, z = s.held := ⟨_, rfl⟩
      obtain ⟨un, hun⟩ : ∃ z, z = s.offers.length := ⟨_, rfl⟩
      rw [← hsb] at d0
      rw [← hun] at d1
      rw [← hsh] at d2
      have HSB := Lib.hid hsb
      clear hs hgc hb hsb hsh hun
      by_cases hbad : sb = y
      · have hdec : decide (sb = y) = true := decide_eq_true hbad
        have HBAD := Lib.hid hbad
        have HD := Lib.hid hdec
        clear hbad hdec
        go_wp2_with fail
        refine (place1_any sb sh y uA un uc g _ HGC.out).mono ?_
        rintro e w1 ⟨rfl, hb1⟩
        rw [HD.out]
        have HB1 := Lib.hid hb1
        clear hb1
        go_wp2_with fail
        go_ret
        refine ⟨ret_int ?_, HB.out.trans (HB1.out.mono HB.out.size)⟩
        unfold placeI
        rw [placeN_some HS.out (HSB.out.symm.trans HBAD.out) HNO.out]
      · have hdec : decide (sb = y) = false := decide_eq_false hbad
        have HBAD := Lib.hid hbad
        have HD := Lib.hid hdec
        clear hbad hdec
        go_wp2_with fail
        refine (place1_any sb sh y uA un uc g _ HGC.out).mono ?_
        rintro e w1 ⟨rfl, hb1⟩
        rw [HD.out]
        have HB1 := Lib.hid hb1
        clear hb1
        have hwr : IntKind.i64.wrap ((k : Int) + 1) = (k : Int) + 1 := IntWalk.i64_in _ (by omega)
        go_wp2_with fail
        go_roundw
        case rel =>
          refine ⟨k + 1, by omega, by go_num, HB.out.trans (HB1.out.mono HB.out.size), fun j x hj hx => ?_⟩
          by_cases hjk : j < k
          · exact HNO.out j x hjk hx
          · obtain rfl : j = k := by omega
            rw [HS.out] at hx
            cases hx
            rw [← HSB.out]
            exact HBAD.out
        case measure => simp [intOf]; omega
    · clear hb
      go_wp2
      go_ret
      refine ⟨ret_int ?_, HB.out⟩
      unfold placeI
      rw [placeN_none (fun j x hx => HNO.out j x (by have := (List.getElem?_eq_some_iff.1 hx).1; have := HN.out; omega) hx)]
set_option maxHeartbeats 1000000 in
theorem place_any {W : World} {T : Nat → Part} {n b : Nat} {l : LotS} (h : LotAt W T n b l) (y : Int) :
    Calls Tryz.prog 86 #[.pointer (some ⟨b, 0, none⟩), .int .i64 y] W fun e W' => e = .returned (.int .i64 (placeI y l.stands)) ∧ Below W.heap.size W W' := by
  obtain ⟨W1, hW1⟩ : ∃ W1, W1 = W.alloc (.cells #[.int .i64 y] 3) := ⟨_, rfl⟩
  have hb1 : Below W.heap.size W W1 := by rw [hW1]; exact (Below.refl _ _).alloc (Nat.le_refl _) _
  have hx : W1.cell? ⟨W.heap.size, 0, none⟩ = some (.int .i64 y) := by
    have : Blk W1 W.heap.size 3 #[.int .i64 y] := by rw [hW1]; exact Blk.new _ _ _
    exact this.cell 0
  obtain ⟨v, _, hblk, hst⟩ := h.step (T' := T) (Chg.of (fun _ => False) hb1) (fun _ _ => id) (fun _ _ => rfl)
  obtain ⟨A, c, rfl⟩ : ∃ A c, v = .slice A l.stands.length c := by obtain ⟨_, h, _⟩ := hst; exact h.form
  have l14 : W.cell? ⟨b, 14, none⟩ = some (.slice A l.stands.length c) := (hb1.cell (p := ⟨b, 14, none⟩) h.lt).symm.trans (hblk.cell 14)
  have lb := h.lt
  have HST := Lib.hid hst
  have HX := Lib.hid hx
  have HB1 := Lib.hid hb1
  clear hblk hst hx hb1 h
  go_enter Tryz.func86, Tryz.ntmps86
  go_wp2_with fail
  rw [← hW1]
  clear hW1
  refine (indexP_any HST.out HX.out).mono ?_
  rintro e w1 ⟨rfl, hb2⟩
  have HB2 := Lib.hid (HB1.out.trans (hb2.mono HB1.out.size))
  clear hb2
  go_wp2_with fail
  go_ret
  exact ⟨rfl, HB2.out⟩
end Go.Proofs.YthoaidfpgijbfaaGreat.Ho
namespace Go.Proofs.YthoaidfpgijbfaaGreat.Ho
open Go.RowKit
open Go.Proofs.YthoaidfpgijbfaaGreat.Vb Go.Proofs.YthoaidfpgijbfaaGreat.Ac
def singleO : List Off → Option Int
  | [o] => if o.g = 0 ∧ coinB o.c = true then some o.c else none
  | _ => none
def singleV (l : List Off) : Value := match singleO l with | some c => .tuple #[.int .i64 c, .bool true] | none => .tuple #[.int .i64 0, .bool false]
set_option maxRecDepth 100000 in
set_option maxHeartbeats 2000000 in
theorem single_any {W : World} {R : Nat → Prop} {A : Option Addr} {c : Nat} {l : List Off} (hO : Offs W R (.slice A l.length c) l) :
    Calls Tryz.prog 252 #[.slice A l.length c] W fun e W' => e = .returned (singleV l) ∧ Below W.heap.size W W' := by
  by_cases h1 : l.length = 1
  · obtain ⟨o, rfl⟩ := List.length_eq_one_iff.1 h1
    obtain ⟨⟨_, A', c', hv, _, _, hc⟩, hwf⟩ := hO
    injection hv with hA _ _
    subst hA
    obtain ⟨b, off, rfl, _, hb, hcc⟩ := hc (by simp)
    have d0 : W.cell? ⟨b, off, none⟩ = some (.int .u32 o.g) := hcc 0 _ rfl
    have d1 : W.cell? ⟨b, off + 1, none⟩ = some (.int .i64 o.c) := hcc 1 _ rfl
    obtain ⟨og, oc⟩ := o
    simp only at d0 d1
    clear hcc hwf h1
    show Calls _ _ #[.slice _ 1 c] _ _
    by_cases hg : og = 0
    · subst hg
      have hq : singleV [⟨0, oc⟩] = .tuple #[.int .i64 (if coinB oc = true then oc else 0), .bool (coinB oc)] := by
        unfold singleV singleO
        cases h : coinB oc <;> simp [h]
      rw [hq]
      cases hco : coinB oc with
      | true =>
        have HCO := Lib.hid hco
        clear hco hq
        go_enter Tryz.func252, Tryz.ntmps252
        go_wp2_with fail
        refine (hcoins_any oc _).mono ?_
        rintro e w1 ⟨rfl, rfl⟩
        rw [HCO.out]
        go_wp2_with fail
        go_ret2
        exact ⟨rfl, Below.refl _ _⟩
      | false =>
        have HCO := Lib.hid hco
        clear hco hq
        go_enter Tryz.func252, Tryz.ntmps252
        go_wp2_with fail
        refine (hcoins_any oc _).mono ?_
        rintro e w1 ⟨rfl, rfl⟩
        rw [HCO.out]
        go_wp2_with fail
        go_ret2
        exact ⟨rfl, Below.refl _ _⟩
    · have hq : singleV [⟨og, oc⟩] = .tuple #[.int .i64 0, .bool false] := by
        unfold singleV singleO
        simp [hg]
      rw [hq]
      have hgi : ¬ (og : Int) = 0 := by omega
      go_enter Tryz.func252, Tryz.ntmps252
      go_wp2_with fail
      go_ret2
      exact ⟨rfl, Below.refl _ _⟩
  · have hq : singleV l = .tuple #[.int .i64 0, .bool false] := by
      unfold singleV singleO
      match l, h1 with
      | [], _ => rfl
      | [_], h => exact absurd rfl h
      | _ :: _ :: _, _ => rfl
    rw [hq]
    obtain ⟨n, hn⟩ : ∃ z, z = l.length := ⟨_, rfl⟩
    rw [← hn] at h1 ⊢
    have hni : ¬ (n : Int) = 1 := by omega
    clear hO hq hn
    go_enter Tryz.func252, Tryz.ntmps252
    go_wp2_with fail
    go_ret2
    exact ⟨rfl, Below.refl _ _⟩
end Go.Proofs.YthoaidfpgijbfaaGreat.Ho
namespace Go.Proofs.YthoaidfpgijbfaaGreat.Ho
open Go.RowKit
open Go.Proofs.YthoaidfpgijbfaaGreat.Vb Go.Proofs.YthoaidfpgijbfaaGreat.Ac
theorem et_stand : ElemT Tryz.prog 99 103 3 40 := elemT_of Tryz.underlying99 (by omega) (z := .agg #[.int .i64 0, .slice none 0 0, .int .i64 0]) (by kernel_rfl) rfl
def restS (b : Int) (ss : List Stand) : List Stand := match placeN b ss with | some k => ss.eraseIdx k | none => ss
def standL (l : LotS) (s : Stand) : LotS := { l with stands := restS s.bidder l.stands ++ [s] }
def standH (H : House) (i j : Nat) (a : Acc) (l : LotS) (s : Stand) : House := { H with accs := H.accs.set i (a.set j s.held), lots := H.lots.set j (standL l s) }
theorem standCells_snoc (ss : List Stand) (s : Stand) (vo : Nat → Value) (v : Value) : standCells (ss ++ [s]) (fun k => if k = ss.length then v else vo k) = standCells ss vo ++ s.cells v := by
  unfold standCells
  rw [mapIdx_snoc, List.flatten_append]
  simp only [if_true, List.flatten_cons, List.flatten_nil, List.append_nil]
  congr 2
  exact mapIdx_congr' fun i x hi => by simp [show ¬ i = ss.length by omega]
theorem flat_take {n : Nat} : ∀ {xs : List (List Value)} (k : Nat), (∀ y ∈ xs, y.length = n) → xs.flatten.take (k * n) = (xs.take k).flatten
  | [], k, _ => by simp
  | y :: ys, 0, _ => by simp
  | y :: ys, k + 1, h => by
    have hy := h y (.head _)
    rw [List.flatten_cons, List.take_succ_cons, List.flatten_cons, List.take_append, List.take_of_length_le (by rw [hy, Nat.succ_mul]; omega), hy, show (k + 1) * n - n = k * n by rw [Nat.succ_mul]; omega, flat_take k fun z hz => h z (.tail _ hz)]
theorem flat_drop {n : Nat} : ∀ {xs : List (List Value)} (k : Nat), (∀ y ∈ xs, y.length = n) → xs.flatten.drop (k * n) = (xs.drop k).flatten
  | [], k, _ => by simp
  | y :: ys, 0, _ => by simp
  | y :: ys, k + 1, h => by
    have hy := h y (.head _)
    rw [List.flatten_cons, List.drop_succ_cons, List.drop_append, List.drop_eq_nil_of_le (by rw [hy, Nat.succ_mul]; omega), hy, show (k + 1) * n - n = k * n by rw [Nat.succ_mul]; omega, flat_drop k fun z hz => h z (.tail _ hz), List.nil_append]
theorem standCells_erase (ss : List Stand) (vo : Nat → Value) (k : Nat) : (standCells ss vo).take (k * 3) ++ (standCells ss vo).drop (k * 3 + 3) = standCells (ss.eraseIdx k) (fun i => if i < k then vo i else vo (i + 1)) := by
  unfold standCells
  have hl : ∀ y ∈ ss.mapIdx (fun k s => Stand.cells s (vo k)), y.length = 3 := mapIdx_len fun _ _ => rfl
  rw [show k * 3 + 3 = (k + 1) * 3 by omega, flat_take k hl, flat_drop (k + 1) hl, ← List.flatten_append, ← List.eraseIdx_eq_take_drop_succ]
  congr 1
  apply List.ext_getElem?
  intro i
  rw [List.getElem?_mapIdx, List.getElem?_eraseIdx, List.getElem?_eraseIdx]
  by_cases h : i < k
  · simp only [h, if_true, List.getElem?_mapIdx]
  · simp only [h, if_false, List.getElem?_mapIdx]
theorem offsAt_erase {W : World} {T : Nat → Part} {vo : Nat → Value} {ss : List Stand} (h : OffsAt W T vo (ss.map (·.offers))) (k : Nat) : OffsAt W T (fun i => if i < k then vo i else vo (i + 1)) ((ss.eraseIdx k).map (·.offers)) := fun i l hi => by
  rw [List.getElem?_map, List.getElem?_eraseIdx] at hi
  by_cases e : i < k
  · rw [if_pos e] at hi
    show Offs W _ (if i < k then vo i else vo (i + 1)) l
    rw [if_pos e]
    exact h i l (by rw [List.getElem?_map]; exact hi)
  · rw [if_neg e] at hi
    show Offs W _ (if i < k then vo i else vo (i + 1)) l
    rw [if_neg e]
    exact h (i + 1) l (by rw [List.getElem?_map]; exact hi)
theorem stand_end {W V W6 U : World} {T : Nat → Part} {h pn pc K : Nat} {va vl vb vs v' vc : Value} {H : House} (H0 : HouseAt W T h pn pc va vl vb vs K H) {bl : Nat → Nat}
    (hrow : RowAt W (fun b => T b = .lots) 135 1 vl H.lots.length (ptrs bl H.lots.length)) (hls : ∀ n l, H.lots[n]? = some l → LotAt W T n (bl n) l) {j K' : Nat} {l l' : LotS} {s : Stand} {rest : List Stand} {vo : Nat → Value} {acs : List Acc} (hj : H.lots[j]? = some l) (hl' : l'.stands = rest ++ [s])
    (hac : AccsAt V T va K' acs) (hcV : Chg (fun b => (∃ i, T b = .acc i) ∨ T b = .lot j) W V) (hoV : OffsAt V T vo (rest.map (·.offers))) (hb6 : Below V.heap.size V W6) (hoff : Offs W6 (fun b => V.heap.size ≤ b) vc s.offers)
    (hrU : RowAt U (fun b => (T b = .lot j ∧ b ≠ bl j) ∨ W6.heap.size ≤ b) 103 3 v' (rest.length + 1) (standCells rest vo ++ s.cells vc)) (hcU : Chg (fun b => T b = .lot j) W6 U) (hbU : Blk U (bl j) 137 (l'.cells v').toArray) :
    ∃ T', HouseIn U T' h K' { H with accs := acs, lots := H.lots.set j l' } ∧ Moves W T U T' := by
  obtain ⟨T', hT'⟩ : ∃ T' : Nat → Part, T' = fun b => if b < V.heap.size then T b else if b < W6.heap.size then .old else if b < U.heap.size then .lot j else .no := ⟨_, rfl⟩
  have hTV : ∀ b, b < V.heap.size → T' b = T b := fun b hb => by rw [hT']; simp [hb]
  have hsV := hcV.size
  have hs6 := hb6.size
  have hsU := hcU.size
  have hT : ∀ b, b < W.heap.size → T' b = T b := fun b hb => hTV b (by omega)
  have hVU : Chg (fun b => T b = .lot j) V U := (Chg.of _ hb6).trans hcU
  have hWU : Chg (fun b => (∃ i, T b = .acc i) ∨ T b = .lot j) W U := hcV.step hVU fun b _ e => .inr e
  have hjl := (List.getElem?_eq_some_iff.1 hj).1
  have hbj : T (bl j) = .lot j := by obtain ⟨_, h, _⟩ := hls j l hj; exact h
  have hbl : bl j < W.heap.size := (hls j l hj).lt
  have hn : ∀ b P, T b = P → (∀ i, P ≠ .acc i) → P ≠ .lot j → ¬ ((∃ i, T b = .acc i) ∨ T b = .lot j) := by
    rintro b P e h1 h2 (⟨i, k⟩ | k) <;> rw [e] at k
    · exact h1 i k
    · exact h2 k
  refine ⟨T', ⟨pn, pc, va, vl, vb, vs, ?_⟩, hWU.mono fun b _ e => ?_, hT⟩
  · refine ⟨(hT h H0.blk.lt).trans H0.top, H0.blk.chg hWU (hn h _ H0.top (by simp) (by simp)), H0.names.step hWU (fun b e => hn b _ e (by simp) (by simp)) hT, hac.step hVU (fun b e => ?_) hTV, ⟨bl, ?_, fun n x hx => ?_⟩, H0.cal.step hWU (fun b e => hn b _ e (by simp) (by simp)) hT, H0.book.step hWU (fun b e => ?_) hT, H0.sales.step hWU (fun b e => hn b _ e (by simp) (by simp)) hT, fun b hb => ?_⟩
    · rcases e with e | ⟨i, e⟩ <;> rw [e] <;> simp
    · show RowAt U _ _ 1 vl (H.lots.set j l').length (ptrs bl (H.lots.set j l').length)
      rw [List.length_set]
      exact RowAt.step hrow hWU (fun b e => hn b _ e (by simp) (by simp)) hT
    · have hx' : (H.lots.set j l')[n]? = some x := hx
      rw [List.getElem?_set] at hx'
      by_cases e : j = n
      · subst e
        rw [if_pos rfl, if_pos hjl] at hx'
        cases hx'
        refine ⟨v', (hT _ hbl).trans hbj, hbU, ⟨fun k => if k = rest.length then vc else vo k, ?_, fun k o hk => ?_⟩⟩
        · rw [hl', standCells_snoc, List.length_append, List.length_singleton]
          refine ⟨hrU.own, fun b hb => ?_⟩
          have hlt := hrU.lt hb
          rcases hrU.blk b hb with k | k
          · by_cases hbV : b < V.heap.size
            · exact ⟨(hTV b hbV).trans k.1, k.2⟩
            · have := H0.out b (by omega); rw [this] at k; cases k.1
          · refine ⟨?_, by omega⟩
            rw [hT']; simp [show ¬ b < V.heap.size by omega, show ¬ b < W6.heap.size by omega, hlt]
        · rw [hl', List.map_append] at hk
          by_cases e : k = rest.length
          · subst e
            rw [List.getElem?_append_right (by simp)] at hk
            simp at hk
            subst hk
            simp only [if_true]
            refine Offs.mono (Offs.chg (Offs.mono (R' := fun b => V.heap.size ≤ b ∧ b < W6.heap.size) hoff fun b hb hr => ⟨hr, hb⟩) hcU fun b _ hr e => by have := H0.out b (by omega); rw [this] at e; cases e) fun b _ hr => ?_
            rw [hT']; simp [show ¬ b < V.heap.size by omega, hr.2]
          · simp only [if_neg e]
            have h1 := (List.getElem?_eq_some_iff.1 hk).1
            simp at h1
            rw [List.getElem?_append_left (by simp; omega)] at hk
            exact OffsAt.step hoV hVU (fun b e => by rw [e]; simp) hTV k o hk
      · rw [if_neg e] at hx'
        refine (hls n x hx').step hWU (fun b e1 => ?_) hT
        rcases e1 with e1 | e1
        · exact hn b _ e1 (by simp) (by simpa using fun k => e k.symm)
        · exact hn b _ e1 (by simp) (by simp)
    · rcases e with e | e <;> exact hn b _ e (by simp) (by simp)
    · rw [hT']; simp [show ¬ b < V.heap.size by omega, show ¬ b < W6.heap.size by omega, show ¬ b < U.heap.size by omega]
  · rcases e with ⟨i, e⟩ | e <;> exact ⟨by rw [e]; simp, by rw [e]; simp⟩
end Go.Proofs.YthoaidfpgijbfaaGreat.Ho

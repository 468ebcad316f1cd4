import Derived.Test.YthoaidfpgijbfaaGreatZj
import Derived.Deep.MidRow
import Derived.Test.YthoaidfpgijbfaaGreatZb
namespace Go.Proofs.YthoaidfpgijbfaaGreat.Ho
open Go.RowKit
open Go.Proofs.YthoaidfpgijbfaaGreat.Vb Go.Proofs.YthoaidfpgijbfaaGreat.Ac
theorem clone_offs {W : World} {R : Nat → Prop} {vo : Value} {l : List Off} (hO : Offs W R vo l) (hn : l.length ≤ 1099511627776) : Calls Tryz.prog 91 #[vo] W fun e W' =>
    ∃ A c, e = .returned (.slice A l.length c) ∧ Offs W' (fun b => W.heap.size ≤ b) (.slice A l.length c) l ∧ Below W.heap.size W W' := by
  refine (clone_off (Off.all l) l.length vo R _ hO.1 (Off.all_one l) (by omega)).mono ?_
  rintro e W' ⟨A, c, rfl, hown, hb⟩
  exact ⟨A, c, rfl, ⟨Sl.mono (R := fun b => (Value.slice A l.length c).ownBlock = some b) (Sl.of_own hown) fun b _ hr => (hown.lt b hr).1, hO.2⟩, hb⟩
theorem acc_free {W : World} {b m n : Nat} {a : Acc} (h : AccAt W b m n a) (ho : a.Ok) : Calls Tryz.prog 157 #[.pointer (some ⟨b, 0, none⟩)] W fun e W' => e = .returned (.int .i64 a.free) ∧ Below W.heap.size W W' :=
  free_any (f := .live a) ⟨b, m, n, rfl, h⟩ ho
theorem acc_at {W : World} {b m n : Nat} {a : Acc} (h : AccAt W b m n a) {x : Int} (hx : -9223372036854775808 ≤ x ∧ x ≤ 9223372036854775807) : Calls Tryz.prog 129 #[.pointer (some ⟨b, 0, none⟩), .int .i64 x] W fun e W' => e = .returned (.int .i64 (atM a.M x)) ∧ W' = W :=
  at_any (f := .live a) ⟨b, m, n, rfl, h⟩ hx
theorem standCells_one {W : World} {T : Nat → Part} {vo : Nat → Value} {ss : List Stand} (h : OffsAt W T vo (ss.map (·.offers))) : ∀ u ∈ standCells ss vo, u.oneCell' = true := by
  intro u hu
  unfold standCells at hu
  obtain ⟨y, hy, huy⟩ := List.mem_flatten.1 hu
  obtain ⟨k, hk, rfl⟩ := List.mem_mapIdx.1 hy
  obtain ⟨⟨_, A, c, hv, _⟩, _⟩ := h k (ss[k].offers) (by simp [hk])
  rw [hv] at huy
  have : u = .int .i64 ss[k].bidder ∨ u = .slice A ss[k].offers.length c ∨ u = .int .i64 ss[k].held := by simpa [Stand.cells] using huy
  rcases this with rfl | rfl | rfl <;> rfl
theorem sdel_stand {W : World} {T : Nat → Part} {R : Nat → Prop} {q cap k : Nat} {ss : List Stand} {vo : Nat → Value} (hrw : RowAt W R 103 3 (.slice (some ⟨q, 0, none⟩) ss.length cap) ss.length (standCells ss vo)) (hof : OffsAt W T vo (ss.map (·.offers))) (hk : k < ss.length) :
    Calls Tryz.prog 87 #[.slice (some ⟨q, 0, none⟩) ss.length cap, .int .i64 k, .int .i64 ((k : Int) + 1)] W fun e W' => e = .returned (.slice (some ⟨q, 0, none⟩) (ss.eraseIdx k).length cap) ∧
      RowAt W' R 103 3 (.slice (some ⟨q, 0, none⟩) (ss.eraseIdx k).length cap) (ss.eraseIdx k).length (standCells (ss.eraseIdx k) (fun i => if i < k then vo i else vo (i + 1))) ∧ Chg (· = q) W W' := by
  have := sdel_any hrw hk (j := k + 1) rfl (standCells_one hof)
  rw [standCells_erase, show ss.length - 1 = (ss.eraseIdx k).length by rw [List.length_eraseIdx, if_pos hk]] at this
  exact this
def standE (a : Acc) (n v : Int) : Int := if a.mostH n < v then 8 else 0
set_option maxRecDepth 100000 in
set_option maxHeartbeats 16000000 in
theorem hstand_err {W : World} {T : Nat → Part} {h pn pc K : Nat} {va vl vb vs : Value} {H : House} (hH : HouseAt W T h pn pc va vl vb vs K H) {bl : Nat → Nat} (hrow : RowAt W (fun b => T b = .lots) 135 1 vl H.lots.length (ptrs bl H.lots.length)) (hls : ∀ n l, H.lots[n]? = some l → LotAt W T n (bl n) l)
    {ba ma : Nat → Nat} (hro : RowAt W (fun b => T b = .accs) 133 1 va H.accs.length (ptrs ba H.accs.length)) (has : ∀ i a, H.accs[i]? = some a → AccAt W (ba i) (ma i) K a ∧ T (ba i) = .acc i ∧ T (ma i) = .acc i)
    {i j : Nat} {a : Acc} {l : LotS} (ha : H.accs[i]? = some a) (hl : H.lots[j]? = some l) (o : OrderR) (hoi : o.bidder = i) (hoj : o.lot = j) {vo : Value} {R : Nat → Prop} (hO : Offs W R vo o.offers) (hR : ∀ b, R b → T b = .no) {held : Int} (hok : a.Ok) (hjm : j ≤ 4096) (he : a.mostH j < held) :
    Calls Tryz.prog 282 #[.pointer (some ⟨bl j, 0, none⟩), .pointer (some ⟨ba i, 0, none⟩), o.agg vo, .int .i64 held] W fun e W' => e = .returned (.int .i64 8) ∧ Below W.heap.size W W' := by
  obtain ⟨W1, hW1⟩ : ∃ W1, W1 = W.alloc (.cells (o.cells vo).toArray 36) := ⟨_, rfl⟩
  have hb1 : Below W.heap.size W W1 := by rw [hW1]; exact (Below.refl _ _).alloc (Nat.le_refl _) _
  have hx : Blk W1 W.heap.size 36 (o.cells vo).toArray := by rw [hW1]; exact Blk.new _ _ _
  obtain ⟨fr, hfr⟩ : ∃ z, z = a.free := ⟨_, rfl⟩
  obtain ⟨am, ham⟩ : ∃ z, z = atM a.M j := ⟨_, rfl⟩
  have hmo : a.mostH j = fr + am := by rw [hfr, ham]; rfl
  have hjx : -9223372036854775808 ≤ (j : Int) ∧ (j : Int) ≤ 9223372036854775807 := by omega
  have hwr : IntKind.i64.wrap (fr + am) = fr + am := by rw [hfr, ham]; exact most_wrap hok j
  have HACC := Lib.hid ((has i a ha).1)
  have HFREE := Lib.hid (fun (w : World) (hb : Below W1.heap.size W1 w) => (show Calls Tryz.prog 157 #[.pointer (some ⟨ba i, 0, none⟩)] w fun e W' => e = .returned (.int .i64 fr) ∧ Below w.heap.size w W' from hfr ▸ acc_free ((HACC.out.grow hb1).grow hb) hok))
  have HATM := Lib.hid (fun (w : World) (hb : Below W1.heap.size W1 w) => (show Calls Tryz.prog 129 #[.pointer (some ⟨ba i, 0, none⟩), .int .i64 j] w fun e W' => e = .returned (.int .i64 am) ∧ W' = w from ham ▸ acc_at ((HACC.out.grow hb1).grow hb) hjx))
  have HB1 := Lib.hid hb1
  obtain ⟨okind, oname, ocoins, obidder, olot, ⟨kind, opens, closes, start, step, extend, last, floor, fall, count, rule⟩, ooff, otick⟩ := o
  simp only at hoi hoj
  subst hoi hoj
  simp only [OrderR.agg, OrderR.cells, LotR.cells, List.cons_append, List.nil_append] at hW1 hx ⊢
  have x4 : W1.cell? ⟨W.heap.size, 4, none⟩ = some (.int .i64 (j : Int)) := hx.cell 4
  have xl := hx.lt
  have hd1 : decide (held > fr + am) = true := decide_eq_true (by omega)
  have hd2 : decide (fr + am < held) = true := hd1
  clear hH hrow hls hro has ha hl hO hR hok hjm hmo hjx hfr ham hx hb1 he
  go_enter Tryz.func282, Tryz.ntmps282
  go_wp2_with fail
  rw [← hW1]
  clear hW1
  refine wp_region_F (Below W1.heap.size W1) [] (by kernel_rfl) ((Below.refl _ _).drew) (fun hS => ?_)
  refine wpAnyF_take (i := 0) (oi := ⟨some 10, .move (.tmp 3), 2, "kinds.go:72", #[], none⟩) (v := ?_) rfl (by kernel_rfl) (by kernel_rfl) (by kernel_rfl) (by kernel_rfl) (fun _ _ _ h => h) (Or.inl ⟨by rfl, ?_⟩) hS ?_
  rotate_left
  · intro w' _; go_simp; try with_reducible rfl
  try simp only [Act.put, pb, pz, ps]
  refine wpAnyF_take (i := 1) (oi := ⟨some 11, .move (.tmp 1), 133, "kinds.go:72", #[], none⟩) (v := ?_) rfl (by kernel_rfl) (by kernel_rfl) (by kernel_rfl) (by kernel_rfl) (fun _ _ _ h => h) (Or.inl ⟨by rfl, ?_⟩) hS ?_
  rotate_left
  · intro w' _; go_simp; try with_reducible rfl
  try simp only [Act.put, pb, pz, ps]
  refine wpAnyF_take (i := 3) (oi := ⟨some 13, .move (.tmp 1), 133, "kinds.go:72", #[], none⟩) (v := ?_) rfl (by kernel_rfl) (by kernel_rfl) (by kernel_rfl) (by kernel_rfl) (fun _ _ _ h => h) (Or.inl ⟨by rfl, ?_⟩) hS ?_
  rotate_left
  · intro w' _; go_simp; try with_reducible rfl
  try simp only [Act.put, pb, pz, ps]
  refine wpAnyF_take (i := 4) (oi := ⟨some 14, .fieldAddr 36 (.tmp 6) 4, 0, "kinds.go:72", #[], none⟩) (v := ?_) rfl (by kernel_rfl) (by kernel_rfl) (by kernel_rfl) (by kernel_rfl) (fun _ _ _ h => h) (Or.inl ⟨by rfl, ?_⟩) hS ?_
  rotate_left
  · intro w' _; go_simp; try with_reducible rfl
  try simp only [Act.put, pb, pz, ps]
  refine wpAnyF_take (i := 5) (oi := ⟨some 15, .load 3 (.tmp 14), 3, "kinds.go:72", #[⟨4, .data⟩], none⟩) (v := ?_) rfl (by kernel_rfl) (by kernel_rfl) (by kernel_rfl) (by kernel_rfl) (fun _ _ _ h => h) (Or.inl ⟨by rfl, ?_⟩) hS ?_
  rotate_left
  · intro w' hSw; have q4 := (hSw.cell (p := ⟨W.heap.size, 4, none⟩) xl).trans x4; go_simp; try with_reducible rfl
  try simp only [Act.put, pb, pz, ps]
  refine wpAnyF_ready (rs := [2]) (by kernel_rfl) (by simp) ?_
  refine AllReadyF.cons (o := ⟨some 12, .call { callee := .value (.func 157), args := #[.tmp 11], argTypes := #[133] }, 2, "kinds.go:72", #[⟨1, .data⟩], none⟩) rfl (by rfl) (fun K hK => ?_) ?_
  · go_simp
    refine (HFREE.out _ hS).mono ?_
    rintro e W2 ⟨rfl, hb2⟩
    refine hK.out _ _ ?_ (fun hS => ?_)
    · exact hS.trans (hb2.mono hS.size)
    clear hK K
    try simp only [Act.put, pb, pz, ps]
    refine wpAnyF_ready (rs := [6]) (by kernel_rfl) (by simp) ?_
    refine AllReadyF.cons (o := ⟨some 16, .call { callee := .value (.func 129), args := #[.tmp 13, .tmp 15], argTypes := #[133, 3] }, 2, "kinds.go:72", #[⟨3, .data⟩, ⟨5, .data⟩, ⟨2, .chain⟩], none⟩) rfl (by rfl) (fun K hK => ?_) ?_
    · go_simp
      refine (HATM.out _ hS).mono ?_
      rintro e W2 ⟨rfl, rfl⟩
      refine hK.out _ _ ?_ (fun hS => ?_)
      · exact hS
      clear hK K
      try simp only [Act.put, pb, pz, ps]
      refine wpAnyF_take (i := 7) (oi := ⟨some 17, .binOp .add 2 (.tmp 12) (.tmp 16) 2, 2, "kinds.go:72", #[⟨2, .data⟩, ⟨6, .data⟩], none⟩) (v := ?_) rfl (by kernel_rfl) (by kernel_rfl) (by kernel_rfl) (by kernel_rfl) (fun _ _ _ h => h) (Or.inl ⟨by rfl, ?_⟩) hS ?_
      rotate_left
      · intro w' _; go_simp; try with_reducible rfl
      try simp only [Act.put, pb, pz, ps]
      refine wpAnyF_take (i := 8) (oi := ⟨some 18, .binOp .gtr 2 (.tmp 10) (.tmp 17) 2, 4, "kinds.go:72", #[⟨0, .data⟩, ⟨7, .data⟩], none⟩) (v := ?_) rfl (by kernel_rfl) (by kernel_rfl) (by kernel_rfl) (by kernel_rfl) (fun _ _ _ h => h) (Or.inl ⟨by rfl, ?_⟩) hS ?_
      rotate_left
      · intro w' _; go_simp; try with_reducible rfl
      try simp only [Act.put, pb, pz, ps]
      refine wpAnyF_done (by kernel_rfl) ?_ _
      have HS := Lib.hid hS
      clear hS
      go_wp2_with fail
      go_ret
      exact ⟨rfl, HB1.out.trans (HS.out.mono HB1.out.size)⟩
    exact AllReadyF.nil
  exact AllReadyF.nil
set_option maxRecDepth 100000 in
set_option maxHeartbeats 16000000 in
theorem hstand_ok {W : World} {T : Nat → Part} {h pn pc K : Nat} {va vl vb vs : Value} {H : House} (hH : HouseAt W T h pn pc va vl vb vs K H) {bl : Nat → Nat} (hrow : RowAt W (fun b => T b = .lots) 135 1 vl H.lots.length (ptrs bl H.lots.length)) (hls : ∀ n l, H.lots[n]? = some l → LotAt W T n (bl n) l)
    {ba ma : Nat → Nat} (hro : RowAt W (fun b => T b = .accs) 133 1 va H.accs.length (ptrs ba H.accs.length)) (has : ∀ i a, H.accs[i]? = some a → AccAt W (ba i) (ma i) K a ∧ T (ba i) = .acc i ∧ T (ma i) = .acc i)
    {i j : Nat} {a : Acc} {l : LotS} (ha : H.accs[i]? = some a) (hl : H.lots[j]? = some l) (o : OrderR) (hoi : o.bidder = i) (hoj : o.lot = j) {vo : Value} {R : Nat → Prop} (hO : Offs W R vo o.offers) (hR : ∀ b, R b → T b = .no) {held : Int} (hok : a.Ok) (hjm : j ≤ 4096) (he : held ≤ a.mostH j) (hc : coin held) (hK : K < maxLen) (hsm : l.stands.length ≤ 1000000) (hlo : o.offers.length ≤ 1099511627776) :
    Calls Tryz.prog 282 #[.pointer (some ⟨bl j, 0, none⟩), .pointer (some ⟨ba i, 0, none⟩), o.agg vo, .int .i64 held] W fun e W' => e = .returned (.int .i64 0) ∧ ∃ T', HouseIn W' T' h (K + 1) (standH H i j a l ⟨i, o.offers, held⟩) ∧ Moves W T W' T' := by
  obtain ⟨W1, hW1⟩ : ∃ W1, W1 = W.alloc (.cells (o.cells vo).toArray 36) := ⟨_, rfl⟩
  have hb1 : Below W.heap.size W W1 := by rw [hW1]; exact (Below.refl _ _).alloc (Nat.le_refl _) _
  have hx : Blk W1 W.heap.size 36 (o.cells vo).toArray := by rw [hW1]; exact Blk.new _ _ _
  obtain ⟨fr, hfr⟩ : ∃ z, z = a.free := ⟨_, rfl⟩
  obtain ⟨am, ham⟩ : ∃ z, z = atM a.M j := ⟨_, rfl⟩
  have hmo : a.mostH j = fr + am := by rw [hfr, ham]; rfl
  have hjx : -9223372036854775808 ≤ (j : Int) ∧ (j : Int) ≤ 9223372036854775807 := by omega
  have hwr : IntKind.i64.wrap (fr + am) = fr + am := by rw [hfr, ham]; exact most_wrap hok j
  have HACC := Lib.hid ((has i a ha).1)
  have HFREE := Lib.hid (fun (w : World) (hb : Below W1.heap.size W1 w) => (show Calls Tryz.prog 157 #[.pointer (some ⟨ba i, 0, none⟩)] w fun e W' => e = .returned (.int .i64 fr) ∧ Below w.heap.size w W' from hfr ▸ acc_free ((HACC.out.grow hb1).grow hb) hok))
  have HATM := Lib.hid (fun (w : World) (hb : Below W1.heap.size W1 w) => (show Calls Tryz.prog 129 #[.pointer (some ⟨ba i, 0, none⟩), .int .i64 j] w fun e W' => e = .returned (.int .i64 am) ∧ W' = w from ham ▸ acc_at ((HACC.out.grow hb1).grow hb) hjx))
  have HB1 := Lib.hid hb1
  obtain ⟨okind, oname, ocoins, obidder, olot, ⟨kind, opens, closes, start, step, extend, last, floor, fall, count, rule⟩, ooff, otick⟩ := o
  simp only at hoi hoj
  subst hoi hoj
  simp only [OrderR.agg, OrderR.cells, LotR.cells, List.cons_append, List.nil_append] at hW1 hx ⊢
  have x4 : W1.cell? ⟨W.heap.size, 4, none⟩ = some (.int .i64 (j : Int)) := hx.cell 4
  have xl := hx.lt
  simp only at hO hlo
  have hd1 : decide (held > fr + am) = false := decide_eq_false (by omega)
  have hd2 : decide (fr + am < held) = false := hd1
  have HH := Lib.hid hH
  have HROW := Lib.hid hrow
  have HLS := Lib.hid hls
  have HRO := Lib.hid hro
  have HAS := Lib.hid has
  have HA := Lib.hid ha
  have HL := Lib.hid hl
  have HLJ := Lib.hid (hls j l hl)
  have HO := Lib.hid hO
  have HRN := Lib.hid hR
  have HAOK := Lib.hid hok
  have HJM := Lib.hid hjm
  have HLE := Lib.hid he
  have HCO := Lib.hid hc
  have HKM := Lib.hid hK
  have HSM := Lib.hid hsm
  have HLO := Lib.hid hlo
  have HX := Lib.hid hx
  have HTA := Lib.hid (has i a ha).2
  clear hH hrow hls hro has ha hl hO hR hok hjm hmo hjx hfr ham hx hb1 he hc hK hsm hlo
  go_enter Tryz.func282, Tryz.ntmps282
  go_wp2_with fail
  rw [← hW1]
  clear hW1
  refine wp_region_F (Below W1.heap.size W1) [] (by kernel_rfl) ((Below.refl _ _).drew) (fun hS => ?_)
  refine wpAnyF_take (i := 0) (oi := ⟨some 10, .move (.tmp 3), 2, "kinds.go:72", #[], none⟩) (v := ?_) rfl (by kernel_rfl) (by kernel_rfl) (by kernel_rfl) (by kernel_rfl) (fun _ _ _ h => h) (Or.inl ⟨by rfl, ?_⟩) hS ?_
  rotate_left
  · intro w' _; go_simp; try with_reducible rfl
  try simp only [Act.put, pb, pz, ps]
  refine wpAnyF_take (i := 1) (oi := ⟨some 11, .move (.tmp 1), 133, "kinds.go:72", #[], none⟩) (v := ?_) rfl (by kernel_rfl) (by kernel_rfl) (by kernel_rfl) (by kernel_rfl) (fun _ _ _ h => h) (Or.inl ⟨by rfl, ?_⟩) hS ?_
  rotate_left
  · intro w' _; go_simp; try with_reducible rfl
  try simp only [Act.put, pb, pz, ps]
  refine wpAnyF_take (i := 3) (oi := ⟨some 13, .move (.tmp 1), 133, "kinds.go:72", #[], none⟩) (v := ?_) rfl (by kernel_rfl) (by kernel_rfl) (by kernel_rfl) (by kernel_rfl) (fun _ _ _ h => h) (Or.inl ⟨by rfl, ?_⟩) hS ?_
  rotate_left
  · intro w' _; go_simp; try with_reducible rfl
  try simp only [Act.put, pb, pz, ps]
  refine wpAnyF_take (i := 4) (oi := ⟨some 14, .fieldAddr 36 (.tmp 6) 4, 0, "kinds.go:72", #[], none⟩) (v := ?_) rfl (by kernel_rfl) (by kernel_rfl) (by kernel_rfl) (by kernel_rfl) (fun _ _ _ h => h) (Or.inl ⟨by rfl, ?_⟩) hS ?_
  rotate_left
  · intro w' _; go_simp; try with_reducible rfl
  try simp only [Act.put, pb, pz, ps]
  refine wpAnyF_take (i := 5) (oi := ⟨some 15, .load 3 (.tmp 14), 3, "kinds.go:72", #[⟨4, .data⟩], none⟩) (v := ?_) rfl (by kernel_rfl) (by kernel_rfl) (by kernel_rfl) (by kernel_rfl) (fun _ _ _ h => h) (Or.inl ⟨by rfl, ?_⟩) hS ?_
  rotate_left
  · intro w' hSw; have q4 := (hSw.cell (p := ⟨W.heap.size, 4, none⟩) xl).trans x4; go_simp; try with_reducible rfl
  try simp only [Act.put, pb, pz, ps]
  refine wpAnyF_ready (rs := [2]) (by kernel_rfl) (by simp) ?_
  refine AllReadyF.cons (o := ⟨some 12, .call { callee := .value (.func 157), args := #[.tmp 11], argTypes := #[133] }, 2, "kinds.go:72", #[⟨1, .data⟩], none⟩) rfl (by rfl) (fun K hK => ?_) ?_
  · go_simp
    refine (HFREE.out _ hS).mono ?_
    rintro e W2 ⟨rfl, hb2⟩
    refine hK.out _ _ ?_ (fun hS => ?_)
    · exact hS.trans (hb2.mono hS.size)
    clear hK K
    try simp only [Act.put, pb, pz, ps]
    refine wpAnyF_ready (rs := [6]) (by kernel_rfl) (by simp) ?_
    refine AllReadyF.cons (o := ⟨some 16, .call { callee := .value (.func 129), args := #[.tmp 13, .tmp 15], argTypes := #[133, 3] }, 2, "kinds.go:72", #[⟨3, .data⟩, ⟨5, .data⟩, ⟨2, .chain⟩], none⟩) rfl (by rfl) (fun K hK => ?_) ?_
    · go_simp
      refine (HATM.out _ hS).mono ?_
      rintro e W2 ⟨rfl, rfl⟩
      refine hK.out _ _ ?_ (fun hS => ?_)
      · exact hS
      clear hK K
      try simp only [Act.put, pb, pz, ps]
      refine wpAnyF_take (i := 7) (oi := ⟨some 17, .binOp .add 2 (.tmp 12) (.tmp 16) 2, 2, "kinds.go:72", #[⟨2, .data⟩, ⟨6, .data⟩], none⟩) (v := ?_) rfl (by kernel_rfl) (by kernel_rfl) (by kernel_rfl) (by kernel_rfl) (fun _ _ _ h => h) (Or.inl ⟨by rfl, ?_⟩) hS ?_
      rotate_left
      · intro w' _; go_simp; try with_reducible rfl
      try simp only [Act.put, pb, pz, ps]
      refine wpAnyF_take (i := 8) (oi := ⟨some 18, .binOp .gtr 2 (.tmp 10) (.tmp 17) 2, 4, "kinds.go:72", #[⟨0, .data⟩, ⟨7, .data⟩], none⟩) (v := ?_) rfl (by kernel_rfl) (by kernel_rfl) (by kernel_rfl) (by kernel_rfl) (fun _ _ _ h => h) (Or.inl ⟨by rfl, ?_⟩) hS ?_
      rotate_left
      · intro w' _; go_simp; try with_reducible rfl
      try simp only [Act.put, pb, pz, ps]
      refine wpAnyF_done (by kernel_rfl) ?_ _
      have HS := Lib.hid hS
      have x4 : W2.cell? ⟨W.heap.size, 4, none⟩ = some (.int .i64 (j : Int)) := (hS.cell (p := ⟨W.heap.size, 4, none⟩) xl).trans x4
      have xl : W.heap.size < W2.heap.size := Nat.lt_of_lt_of_le xl hS.size
      have HB2 := Lib.hid (HB1.out.trans (hS.mono HB1.out.size))
      clear hS
      go_wp2_with fail
      refine (hold_live (HACC.out.grow HB2.out) HAOK.out HKM.out (x := (j : Int)) (v := held) (by have := HJM.out; omega) (by have := HCO.out; unfold coin at this; omega)).mono ?_
      rintro e W3 (⟨h1, _⟩ | ⟨_, rfl, hA3, hc3⟩)
      · exact absurd (holdE_fit (by omega) HCO.out HLE.out) h1
      have HA3 := Lib.hid hA3
      have HC3 := Lib.hid (show Chg (fun b => T b = .acc i) W W3 from (Chg.of _ HB2.out).step hc3 fun b _ e => e ▸ HTA.out.2)
      have HX3 := Lib.hid (((HX.out.grow HS.out)).chg hc3 (fun e => by have := HACC.out.ltm; omega))
      clear hA3 hc3 x4 xl
      have x3 : W3.cell? ⟨W.heap.size, 3, none⟩ = some (.int .i64 (i : Int)) := HX3.out.cell 3
      have xl := HX3.out.lt
      have hXa : ∀ x, T x = .lot j ∨ T x = .old → ¬ T x = .acc i := fun x hx e => by rw [e] at hx; simp at hx
      have HL3 := Lib.hid (HLJ.out.step (T' := T) HC3.out hXa fun _ _ => rfl)
      clear hXa
      go_wp2_with fail
      refine (place_any HL3.out (i : Int)).mono ?_
      rintro e W4 ⟨rfl, hb4⟩
      have HB4 := Lib.hid hb4
      clear hb4 x3 xl
      have hXa : ∀ x, T x = .lot j ∨ T x = .old → ¬ T x = .acc i := fun x hx e => by rw [e] at hx; simp at hx
      have HC4 := Lib.hid (HC3.out.grow HB4.out)
      have HX4 := Lib.hid (HX3.out.grow HB4.out)
      have HAC4 := Lib.hid ((accs_upd HRO.out HAS.out (List.getElem?_eq_some_iff.1 HA.out).1 (Nat.le_succ _) HA3.out HC3.out).step (T' := T) (Chg.of (fun _ => False) HB4.out) (fun _ _ => id) fun _ _ => rfl)
      have hL4 := HLJ.out.step (T' := T) HC4.out hXa fun _ _ => rfl
      clear hXa
      obtain ⟨v, htb, hblk, vo', hrw, hof⟩ := hL4
      obtain ⟨sA, sc, rfl⟩ := hrw.form
      have HTB := Lib.hid htb
      have HBK := Lib.hid hblk
      have HRWX := Lib.hid hrw
      have HOFX := Lib.hid hof
      clear htb hblk hrw hof
      cases hpl : placeN (i : Int) l.stands with
      | none =>
        have hpi : placeI (i : Int) l.stands = -1 := by unfold placeI; rw [hpl]
        have HRS := Lib.hid (show restS (i : Int) l.stands = l.stands by unfold restS; rw [hpl])
        rw [hpi]
        clear hpi hpl
        obtain ⟨rest, hrest⟩ : ∃ z, z = l.stands := ⟨_, rfl⟩
        obtain ⟨m, hm⟩ : ∃ z, z = rest.length := ⟨_, rfl⟩
        have HMR := Lib.hid hm
        have HRE := Lib.hid (show restS (i : Int) l.stands = rest by rw [HRS.out, hrest])
        have HMM := Lib.hid (show m ≤ 1000000 by rw [hm, hrest]; exact HSM.out)
        have HVR := Lib.hid (show RowAt W4 (fun x => T x = .lot j ∧ x ≠ bl j) 103 3 (.slice sA m sc) m (standCells rest vo') by rw [hm, hrest]; exact HRWX.out)
        have HVO := Lib.hid (show OffsAt W4 T vo' (rest.map (·.offers)) by rw [hrest]; exact HOFX.out)
        have HVL := Lib.hid (show Blk W4 (bl j) 137 (l.cells (.slice sA m sc)).toArray by rw [hm, hrest]; exact HBK.out)
        have HVC := Lib.hid (HC4.out.mono (Y := fun b => (∃ i, T b = .acc i) ∨ T b = .lot j) fun b _ e => .inl ⟨i, e⟩)
        have HXV := Lib.hid HX4.out
        have HAV := Lib.hid HAC4.out
        clear hrest hm
        go_wp2_with fail
        have hXn : ∀ b, T b = .no → ¬ ((∃ i, T b = .acc i) ∨ T b = .lot j) := by
          rintro b e (⟨i, k⟩ | k) <;> rw [e] at k <;> cases k
        have hTx : T W.heap.size = .no := HH.out.out _ (Nat.le_refl _)
        have HOV := Lib.hid (Offs.chg HO.out HVC.out fun b _ hr => hXn b (HRN.out b hr))
        clear hXn
        have hblv := HVL.out
        have v14 : W4.cell? ⟨bl j, 14, none⟩ = some (.slice sA m sc) := hblv.cell 14
        have lbV := hblv.lt
        have x3 : W4.cell? ⟨W.heap.size, 3, none⟩ = some (.int .i64 (i : Int)) := HXV.out.cell 3
        have x16 : W4.cell? ⟨W.heap.size, 16, none⟩ = some vo := HXV.out.cell 16
        have xl := HXV.out.lt
        have or1 : ¬ (Value.slice sA m sc).ownBlock = some (bl j) := fun e => (HVR.out.blk _ e).2 rfl
        have ox1 : ¬ (Value.slice sA m sc).ownBlock = some W.heap.size := fun e => by have h3 := (HVR.out.blk _ e).1; rw [hTx] at h3; cases h3
        have HOR := Lib.hid or1
        clear hblv hTx
        go_wp2_with fail
        refine wp_region_F (Chg (fun b => (Value.slice sA m sc).ownBlock = some b) W4) [16] (by kernel_rfl) ((Chg.refl _ W4).grow (Below.refl _ _).drew) (fun hS => ?_)
        refine wpAnyF_take (i := 0) (oi := ⟨some 41, .move (.tmp 0), 135, "kinds.go:79", #[], none⟩) (v := ?_) rfl (by kernel_rfl) (by kernel_rfl) (by kernel_rfl) (by kernel_rfl) (fun _ _ _ h => h) (Or.inl ⟨by rfl, ?_⟩) hS ?_
        rotate_left
        · intro w' _; go_simp; try with_reducible rfl
        try simp only [Act.put, pb, pz, ps]
        refine wpAnyF_take (i := 1) (oi := ⟨some 42, .move (.tmp 0), 135, "kinds.go:79", #[], none⟩) (v := ?_) rfl (by kernel_rfl) (by kernel_rfl) (by kernel_rfl) (by kernel_rfl) (fun _ _ _ h => h) (Or.inl ⟨by rfl, ?_⟩) hS ?_
        rotate_left
        · intro w' _; go_simp; try with_reducible rfl
        try simp only [Act.put, pb, pz, ps]
        refine wpAnyF_take (i := 2) (oi := ⟨some 43, .nilCheck (.tmp 42), 0, "kinds.go:79", #[⟨1, .data⟩], none⟩) (v := ?_) rfl (by kernel_rfl) (by kernel_rfl) (by kernel_rfl) (by kernel_rfl) (fun _ _ _ h => h) (Or.inl ⟨by rfl, ?_⟩) hS ?_
        rotate_left
        · intro w' _; go_simp; try with_reducible rfl
        try simp only [Act.put, pb, pz, ps]
        refine wpAnyF_take (i := 3) (oi := ⟨some 44, .fieldAddr 137 (.tmp 43) 4, 0, "kinds.go:79", #[⟨2, .data⟩], none⟩) (v := ?_) rfl (by kernel_rfl) (by kernel_rfl) (by kernel_rfl) (by kernel_rfl) (fun _ _ _ h => h) (Or.inl ⟨by rfl, ?_⟩) hS ?_
        rotate_left
        · intro w' _; go_simp; try with_reducible rfl
        try simp only [Act.put, pb, pz, ps]
        refine wpAnyF_take (i := 4) (oi := ⟨some 45, .load 99 (.tmp 44), 99, "kinds.go:79", #[⟨3, .data⟩], none⟩) (v := ?_) rfl (by kernel_rfl) (by kernel_rfl) (by kernel_rfl) (by kernel_rfl) (fun _ _ _ h => h) (Or.inl ⟨by rfl, ?_⟩) hS ?_
        rotate_left
        · intro w' hSw; have q14 := (hSw.cell (p := ⟨bl j, 14, none⟩) lbV or1).trans v14; have q3 := (hSw.cell (p := ⟨W.heap.size, 3, none⟩) xl ox1).trans x3; have q16 := (hSw.cell (p := ⟨W.heap.size, 16, none⟩) xl ox1).trans x16; go_simp; try with_reducible rfl
        try simp only [Act.put, pb, pz, ps]
        refine wpAnyF_take (i := 5) (oi := ⟨some 46, .fieldAddr 36 (.tmp 6) 3, 0, "kinds.go:79", #[], none⟩) (v := ?_) rfl (by kernel_rfl) (by kernel_rfl) (by kernel_rfl) (by kernel_rfl) (fun _ _ _ h => h) (Or.inl ⟨by rfl, ?_⟩) hS ?_
        rotate_left
        · intro w' _; go_simp; try with_reducible rfl
        try simp only [Act.put, pb, pz, ps]
        refine wpAnyF_take (i := 6) (oi := ⟨some 47, .load 3 (.tmp 46), 3, "kinds.go:79", #[⟨5, .data⟩], none⟩) (v := ?_) rfl (by kernel_rfl) (by kernel_rfl) (by kernel_rfl) (by kernel_rfl) (fun _ _ _ h => h) (Or.inl ⟨by rfl, ?_⟩) hS ?_
        rotate_left
        · intro w' hSw; have q14 := (hSw.cell (p := ⟨bl j, 14, none⟩) lbV or1).trans v14; have q3 := (hSw.cell (p := ⟨W.heap.size, 3, none⟩) xl ox1).trans x3; have q16 := (hSw.cell (p := ⟨W.heap.size, 16, none⟩) xl ox1).trans x16; go_simp; try with_reducible rfl
        try simp only [Act.put, pb, pz, ps]
        refine wpAnyF_take (i := 7) (oi := ⟨some 48, .fieldAddr 36 (.tmp 6) 6, 0, "kinds.go:79", #[], none⟩) (v := ?_) rfl (by kernel_rfl) (by kernel_rfl) (by kernel_rfl) (by kernel_rfl) (fun _ _ _ h => h) (Or.inl ⟨by rfl, ?_⟩) hS ?_
        rotate_left
        · intro w' _; go_simp; try with_reducible rfl
        try simp only [Act.put, pb, pz, ps]
        refine wpAnyF_take (i := 8) (oi := ⟨some 49, .load 34 (.tmp 48), 34, "kinds.go:79", #[⟨7, .data⟩], none⟩) (v := ?_) rfl (by kernel_rfl) (by kernel_rfl) (by kernel_rfl) (by kernel_rfl) (fun _ _ _ h => h) (Or.inl ⟨by rfl, ?_⟩) hS ?_
        rotate_left
        · intro w' hSw; have q14 := (hSw.cell (p := ⟨bl j, 14, none⟩) lbV or1).trans v14; have q3 := (hSw.cell (p := ⟨W.heap.size, 3, none⟩) xl ox1).trans x3; have q16 := (hSw.cell (p := ⟨W.heap.size, 16, none⟩) xl ox1).trans x16; go_simp; try with_reducible rfl
        try simp only [Act.put, pb, pz, ps]
        refine wpAnyF_take (i := 10) (oi := ⟨some 51, .move (.tmp 3), 2, "kinds.go:79", #[], none⟩) (v := ?_) rfl (by kernel_rfl) (by kernel_rfl) (by kernel_rfl) (by kernel_rfl) (fun _ _ _ h => h) (Or.inl ⟨by rfl, ?_⟩) hS ?_
        rotate_left
        · intro w' _; go_simp; try with_reducible rfl
        try simp only [Act.put, pb, pz, ps]
        refine wpAnyF_ready (rs := [9]) (by kernel_rfl) (by simp) ?_
        refine AllReadyF.cons (o := ⟨some 50, .call { callee := .value (.func 91), args := #[.tmp 49], argTypes := #[34] }, 34, "kinds.go:79", #[⟨8, .data⟩], none⟩) rfl (by rfl) (fun K hK => ?_) ?_
        · go_simp
          refine (clone_offs (W := W4.drew) (Offs.grow HOV.out (Below.refl _ _).drew) HLO.out).mono ?_
          rintro e X6 ⟨A6, c6, rfl, hO6, hb6⟩
          have hb6 : Below W4.heap.size W4 X6 := (Below.refl _ _).drew.trans (hb6.mono (Nat.le_refl _))
          refine hK.out _ _ ?_ (fun hS => ?_)
          · exact (Chg.refl _ W4).grow hb6
          clear hK K
          try simp only [Act.put, pb, pz, ps]
          have HO6 := Lib.hid hO6
          have HB6 := Lib.hid hb6
          have HRW := Lib.hid ((HVR.out.grow hb6).grow ((Below.refl _ _).alloc (Nat.le_refl _) (.cells #[.int .i64 (i : Int), .slice A6 ooff.length c6, .int .i64 held] 103)))
          clear hO6 hb6
          refine wpAnyF_take (i := 11) (oi := ⟨some 52, .build 103 #[(0, .tmp 47), (1, .tmp 50), (2, .tmp 51)], 103, "kinds.go:79", #[⟨6, .data⟩, ⟨9, .data⟩, ⟨10, .data⟩], none⟩) (v := ?_) rfl (by kernel_rfl) (by kernel_rfl) (by kernel_rfl) (by kernel_rfl) (fun _ _ _ h => h) (Or.inl ⟨by rfl, ?_⟩) hS ?_
          rotate_left
          · intro w' _; go_simp; try with_reducible rfl
          try simp only [Act.put, pb, pz, ps]
          refine wpAnyF_ready (rs := [12]) (by kernel_rfl) (by simp) ?_
          refine AllReadyF.cons (o := ⟨some 53, .buildSlice 99 1 #[(0, .tmp 52)], 99, "kinds.go:79", #[⟨11, .data⟩], none⟩) rfl (by rfl) (fun K hK => ?_) ?_
          · go_simp
            refine hK.out _ _ ?_ (fun hS => ?_)
            · exact hS.grow ((Below.refl _ _).alloc (Nat.le_refl _) _)
            clear hK K
            try simp only [Act.put, pb, pz, ps]
            refine wpAnyF_ready (rs := [13]) (by kernel_rfl) (by simp) ?_
            refine AllReadyF.cons (o := ⟨some 54, .call { callee := .builtin .append, args := #[.tmp 45, .tmp 53], argTypes := #[99, 99] }, 99, "kinds.go:79", #[⟨4, .data⟩, ⟨12, .data⟩, ⟨9, .chain⟩], none⟩) rfl (by rfl) (fun K hK => ?_) ?_
            · refine step_row (X6.alloc (.cells #[.int .i64 (i : Int), .slice A6 ooff.length c6, .int .i64 held] 103)) (.tmp 45) (.tmp 53) rfl et_stand rfl (.slice sA m sc) m (standCells rest vo') rfl HRW.out (.slice (some ⟨X6.heap.size, 0, none⟩) 1 1) 1 [.int .i64 (i : Int), .slice A6 ooff.length c6, .int .i64 held] rfl (Sl.lit1 (Blk.new X6 103 #[.int .i64 (i : Int), .slice A6 ooff.length c6, .int .i64 held]) rfl) (by simp [Value.oneCell']) (by have := HMM.out; omega) (by have := HMM.out; unfold maxLen; omega) ?_
              intro A7 c7 Z hrZ hcZ
              refine hK.out _ _ ?_ (fun hS => ?_)
              · exact hS.trans hcZ
              clear hK K
              try simp only [Act.put, pb, pz, ps]
              have HLZ := Lib.hid (((HVL.out.grow HB6.out).alloc (.cells #[.int .i64 (i : Int), .slice A6 ooff.length c6, .int .i64 held] 103)).chg hcZ HOR.out)
              have HZR := Lib.hid hrZ
              have HZC := Lib.hid hcZ
              obtain ⟨U, hU⟩ : ∃ U, U = Z.setCell ⟨bl j, 14, none⟩ (.slice A7 (m + 1) c7) := ⟨_, rfl⟩
              have HU := Lib.hid hU
              clear hrZ hcZ hU
              refine wpAnyF_takeD [15, 16] (i := 14) (oi := ⟨some 55, .nilCheck (.tmp 41), 0, "kinds.go:79", #[⟨0, .data⟩, ⟨0, .phase⟩, ⟨1, .phase⟩, ⟨2, .phase⟩, ⟨3, .phase⟩, ⟨4, .phase⟩, ⟨5, .phase⟩, ⟨6, .phase⟩, ⟨7, .phase⟩, ⟨8, .phase⟩, ⟨9, .phase⟩, ⟨10, .phase⟩, ⟨11, .phase⟩, ⟨12, .phase⟩, ⟨13, .phase⟩], none⟩) (v := ?_) rfl (by kernel_rfl) (by kernel_rfl) (by kernel_rfl) (by kernel_rfl) (fun _ _ _ h => h) (Or.inl ⟨by rfl, ?_⟩) hS ?_
              rotate_left
              · intro w' _; go_simp; try with_reducible rfl
              try simp only [Act.put, pb, pz, ps]
              refine wpAnyF_take (i := 15) (oi := ⟨some 56, .fieldAddr 137 (.tmp 55) 4, 0, "kinds.go:79", #[⟨14, .data⟩, ⟨0, .phase⟩, ⟨1, .phase⟩, ⟨2, .phase⟩, ⟨3, .phase⟩, ⟨4, .phase⟩, ⟨5, .phase⟩, ⟨6, .phase⟩, ⟨7, .phase⟩, ⟨8, .phase⟩, ⟨9, .phase⟩, ⟨10, .phase⟩, ⟨11, .phase⟩, ⟨12, .phase⟩, ⟨13, .phase⟩], none⟩) (v := ?_) rfl (by kernel_rfl) (by kernel_rfl) (by kernel_rfl) (by kernel_rfl) (fun _ _ _ h => h) (Or.inl ⟨by rfl, ?_⟩) hS ?_
              rotate_left
              · intro w' _; go_simp; try with_reducible rfl
              try simp only [Act.put, pb, pz, ps]
              refine wpAnyF_ready (rs := [16]) (by kernel_rfl) (by simp) ?_
              refine AllReadyF.fin (o := ⟨none, .store 99 (.tmp 56) (.tmp 54), 0, "kinds.go:79", #[⟨15, .data⟩, ⟨13, .data⟩, ⟨13, .chain⟩, ⟨0, .phase⟩, ⟨1, .phase⟩, ⟨2, .phase⟩, ⟨3, .phase⟩, ⟨4, .phase⟩, ⟨5, .phase⟩, ⟨6, .phase⟩, ⟨7, .phase⟩, ⟨8, .phase⟩, ⟨9, .phase⟩, ⟨10, .phase⟩, ⟨11, .phase⟩, ⟨12, .phase⟩, ⟨13, .phase⟩], none⟩) rfl (by rfl) (fun K hK => ?_) ?_
              · have f14 := HLZ.out.frozen 14
                have d14 : Z.cell? ⟨bl j, 14, none⟩ = some (.slice sA m sc) := HLZ.out.cell 14
                go_simp
                rw [← HU.out]
                refine hK.out _ _ ?_
                clear hK K
                try simp only [Act.put, pb, pz, ps]
                refine wpAnyF_done (by kernel_rfl) ?_ _
                clear hS v14 lbV x3 x16 xl or1 ox1
                go_wp2_with fail
                go_ret
                refine ⟨rfl, ?_⟩
                have hcU1 : Chg (· = bl j) Z U := by rw [HU.out]; exact Chg.set Z ⟨bl j, 14, none⟩ _
                have hbU : Blk U (bl j) 137 ((standL l ⟨(i : Int), ooff, held⟩).cells (.slice A7 (m + 1) c7)).toArray := by rw [HU.out]; exact HLZ.out.set_ 14 _
                have hlW := HLJ.out.lt
                have hs6 := HB6.out.size
                have hsV := HVC.out.size
                have hrowU : RowAt U (fun b => (T b = .lot j ∧ b ≠ bl j) ∨ X6.heap.size ≤ b) 103 3 (.slice A7 (m + 1) c7) (rest.length + 1) (standCells rest vo' ++ (⟨(i : Int), ooff, held⟩ : Stand).cells (.slice A6 ooff.length c6)) := by
                  rw [← HMR.out]
                  refine (HZR.out.chgB hcU1 fun b hb e => ?_).mono fun b _ k => k.elim .inl fun k => .inr (by rw [World.size_alloc] at k; omega)
                  rcases HZR.out.blk b hb with k | k
                  · exact k.2 e
                  · rw [World.size_alloc] at k; omega
                have hcU : Chg (fun b => T b = .lot j) X6 U := (((Chg.refl _ X6).grow ((Below.refl _ _).alloc (Nat.le_refl _) _)).step HZC.out fun b _ e => (HVR.out.blk b e).1).step hcU1 fun b _ e => e ▸ HTB.out
                exact stand_end HH.out HROW.out HLS.out HL.out (l' := standL l ⟨(i : Int), ooff, held⟩) (by show restS (i : Int) l.stands ++ _ = _; rw [HRE.out]) HAV.out HVC.out HVO.out HB6.out (s := ⟨(i : Int), ooff, held⟩) (show Offs X6 (fun b => W4.heap.size ≤ b) (.slice A6 ooff.length c6) ooff from HO6.out) hrowU hcU hbU
              exact AllReadyF.nil
            exact AllReadyF.nil
          exact AllReadyF.nil
        exact AllReadyF.nil
      | some k =>
        have hpi : placeI (i : Int) l.stands = (k : Int) := by unfold placeI; rw [hpl]
        obtain ⟨sk, hsk, _, _⟩ := placeN_lt hpl
        have hkl := (List.getElem?_eq_some_iff.1 hsk).1
        have HRS := Lib.hid (show restS (i : Int) l.stands = l.stands.eraseIdx k by unfold restS; rw [hpl])
        rw [hpi]
        obtain ⟨q, cap, hq, _⟩ := HRWX.out.ex (by omega)
        injection hq with hq1 hq2 hq3
        subst hq1 hq3
        clear hq2 hpi hpl hsk
        have HDEL := Lib.hid (sdel_stand HRWX.out HOFX.out hkl)
        obtain ⟨rest, hrest⟩ : ∃ z, z = l.stands.eraseIdx k := ⟨_, rfl⟩
        obtain ⟨vx, hvx⟩ : ∃ z : Nat → Value, z = (fun i => if i < k then vo' i else vo' (i + 1)) := ⟨_, rfl⟩
        rw [← hrest, ← hvx] at HDEL
        have hml : rest.length ≤ 1000000 := by have := HSM.out; rw [hrest, List.length_eraseIdx]; split <;> omega
        have HRE := Lib.hid (show restS (i : Int) l.stands = rest by rw [HRS.out, hrest])
        obtain ⟨m, hm⟩ : ∃ z, z = rest.length := ⟨_, rfl⟩
        rw [← hm] at HDEL
        have HMR := Lib.hid hm
        have HMM := Lib.hid (show m ≤ 1000000 by rw [hm]; exact hml)
        have HVO4 := Lib.hid (show OffsAt W4 T vx (rest.map (·.offers)) by rw [hrest, hvx]; exact offsAt_erase HOFX.out k)
        obtain ⟨n0, hn0⟩ : ∃ z, z = l.stands.length := ⟨_, rfl⟩
        have v14 : W4.cell? ⟨bl j, 14, none⟩ = some (.slice (some ⟨q, 0, none⟩) n0 sc) := (HBK.out.cell 14).trans (by rw [hn0]; rfl)
        have HRQ := Lib.hid (HRWX.out.blk q rfl)
        rw [← hn0] at HDEL
        have hwk : IntKind.i64.wrap ((k : Int) + 1) = (k : Int) + 1 := IntWalk.i64_in _ (by have := HSM.out; omega)
        have lb4 := HBK.out.lt
        have HBK5 := Lib.hid (show Blk W4 (bl j) 137 (l.cells (.slice (some ⟨q, 0, none⟩) n0 sc)).toArray by rw [hn0]; exact HBK.out)
        clear hrest hvx hm hml hn0 hkl
        go_wp2_with fail
        refine HDEL.out.mono ?_
        rintro e W5 ⟨rfl, hrw5, hc5⟩
        have hbk5 := HBK5.out.chg hc5 HRQ.out.2.symm
        have f14 := hbk5.frozen 14
        have d14 : W5.cell? ⟨bl j, 14, none⟩ = some (.slice (some ⟨q, 0, none⟩) n0 sc) := hbk5.cell 14
        obtain ⟨V5, hV5⟩ : ∃ V5, V5 = W5.setCell ⟨bl j, 14, none⟩ (.slice (some ⟨q, 0, none⟩) m sc) := ⟨_, rfl⟩
        have hc55 : Chg (· = bl j) W5 V5 := by rw [hV5]; exact Chg.set W5 ⟨bl j, 14, none⟩ _
        have hcV : Chg (fun b => T b = .lot j) W4 V5 := (hc5.mono (Y := fun b => T b = .lot j) fun b _ e => e ▸ HRQ.out.1).step hc55 fun b _ e => e ▸ HTB.out
        have hXo : ∀ b, T b = .old → ¬ T b = .lot j := fun b e => by rw [e]; simp
        have HVR := Lib.hid (hrw5.chg hc55 fun b _ h1 e => h1.2 e)
        have HVO := Lib.hid (HVO4.out.step (T' := T) hcV hXo fun _ _ => rfl)
        have HVL := Lib.hid (show Blk V5 (bl j) 137 (l.cells (.slice (some ⟨q, 0, none⟩) m sc)).toArray by rw [hV5]; exact hbk5.set_ 14 _)
        have HVC := Lib.hid ((HC4.out.mono (Y := fun b => (∃ i, T b = .acc i) ∨ T b = .lot j) fun b _ e => .inl ⟨i, e⟩).step hcV fun b _ e => .inr e)
        have HXV := Lib.hid (HX4.out.chg hcV (fun e => by rw [HH.out.out _ (Nat.le_refl _)] at e; cases e))
        have HAV := Lib.hid (HAC4.out.step (T' := T) hcV (fun b e => by rcases e with e | ⟨i, e⟩ <;> rw [e] <;> simp) fun _ _ => rfl)
        have HV5 := Lib.hid hV5
        clear hrw5 hc5 hbk5 hc55 hcV hXo hV5 v14 lb4
        go_wp2_with fail
        rw [← HV5.out]
        clear f14 d14
        have hXn : ∀ b, T b = .no → ¬ ((∃ i, T b = .acc i) ∨ T b = .lot j) := by
          rintro b e (⟨i, k⟩ | k) <;> rw [e] at k <;> cases k
        have hTx : T W.heap.size = .no := HH.out.out _ (Nat.le_refl _)
        have HOV := Lib.hid (Offs.chg HO.out HVC.out fun b _ hr => hXn b (HRN.out b hr))
        clear hXn
        have hblv := HVL.out
        have v14 : V5.cell? ⟨bl j, 14, none⟩ = some (.slice (some ⟨q, 0, none⟩) m sc) := hblv.cell 14
        have lbV := hblv.lt
        have x3 : V5.cell? ⟨W.heap.size, 3, none⟩ = some (.int .i64 (i : Int)) := HXV.out.cell 3
        have x16 : V5.cell? ⟨W.heap.size, 16, none⟩ = some vo := HXV.out.cell 16
        have xl := HXV.out.lt
        have or1 : ¬ (Value.slice (some ⟨q, 0, none⟩) m sc).ownBlock = some (bl j) := fun e => (HVR.out.blk _ e).2 rfl
        have ox1 : ¬ (Value.slice (some ⟨q, 0, none⟩) m sc).ownBlock = some W.heap.size := fun e => by have h3 := (HVR.out.blk _ e).1; rw [hTx] at h3; cases h3
        have HOR := Lib.hid or1
        clear hblv hTx
        go_wp2_with fail
        refine wp_region_F (Chg (fun b => (Value.slice (some ⟨q, 0, none⟩) m sc).ownBlock = some b) V5) [16] (by kernel_rfl) ((Chg.refl _ V5).grow (Below.refl _ _).drew) (fun hS => ?_)
        refine wpAnyF_take (i := 0) (oi := ⟨some 41, .move (.tmp 0), 135, "kinds.go:79", #[], none⟩) (v := ?_) rfl (by kernel_rfl) (by kernel_rfl) (by kernel_rfl) (by kernel_rfl) (fun _ _ _ h => h) (Or.inl ⟨by rfl, ?_⟩) hS ?_
        rotate_left
        · intro w' _; go_simp; try with_reducible rfl
        try simp only [Act.put, pb, pz, ps]
        refine wpAnyF_take (i := 1) (oi := ⟨some 42, .move (.tmp 0), 135, "kinds.go:79", #[], none⟩) (v := ?_) rfl (by kernel_rfl) (by kernel_rfl) (by kernel_rfl) (by kernel_rfl) (fun _ _ _ h => h) (Or.inl ⟨by rfl, ?_⟩) hS ?_
        rotate_left
        · intro w' _; go_simp; try with_reducible rfl
        try simp only [Act.put, pb, pz, ps]
        refine wpAnyF_take (i := 2) (oi := ⟨some 43, .nilCheck (.tmp 42), 0, "kinds.go:79", #[⟨1, .data⟩], none⟩) (v := ?_) rfl (by kernel_rfl) (by kernel_rfl) (by kernel_rfl) (by kernel_rfl) (fun _ _ _ h => h) (Or.inl ⟨by rfl, ?_⟩) hS ?_
        rotate_left
        · intro w' _; go_simp; try with_reducible rfl
        try simp only [Act.put, pb, pz, ps]
        refine wpAnyF_take (i := 3) (oi := ⟨some 44, .fieldAddr 137 (.tmp 43) 4, 0, "kinds.go:79", #[⟨2, .data⟩], none⟩) (v := ?_) rfl (by kernel_rfl) (by kernel_rfl) (by kernel_rfl) (by kernel_rfl) (fun _ _ _ h => h) (Or.inl ⟨by rfl, ?_⟩) hS ?_
        rotate_left
        · intro w' _; go_simp; try with_reducible rfl
        try simp only [Act.put, pb, pz, ps]
        refine wpAnyF_take (i := 4) (oi := ⟨some 45, .load 99 (.tmp 44), 99, "kinds.go:79", #[⟨3, .data⟩], none⟩) (v := ?_) rfl (by kernel_rfl) (by kernel_rfl) (by kernel_rfl) (by kernel_rfl) (fun _ _ _ h => h) (Or.inl ⟨by rfl, ?_⟩) hS ?_
        rotate_left
        · intro w' hSw; have q14 := (hSw.cell (p := ⟨bl j, 14, none⟩) lbV or1).trans v14; have q3 := (hSw.cell (p := ⟨W.heap.size, 3, none⟩) xl ox1).trans x3; have q16 := (hSw.cell (p := ⟨W.heap.size, 16, none⟩) xl ox1).trans x16; go_simp; try with_reducible rfl
        try simp only [Act.put, pb, pz, ps]
        refine wpAnyF_take (i := 5) (oi := ⟨some 46, .fieldAddr 36 (.tmp 6) 3, 0, "kinds.go:79", #[], none⟩) (v := ?_) rfl (by kernel_rfl) (by kernel_rfl) (by kernel_rfl) (by kernel_rfl) (fun _ _ _ h => h) (Or.inl ⟨by rfl, ?_⟩) hS ?_
        rotate_left
        · intro w' _; go_simp; try with_reducible rfl
        try simp only [Act.put, pb, pz, ps]
        refine wpAnyF_take (i := 6) (oi := ⟨some 47, .load 3 (.tmp 46), 3, "kinds.go:79", #[⟨5, .data⟩], none⟩) (v := ?_) rfl (by kernel_rfl) (by kernel_rfl) (by kernel_rfl) (by kernel_rfl) (fun _ _ _ h => h) (Or.inl ⟨by rfl, ?_⟩) hS ?_
        rotate_left
        · intro w' hSw; have q14 := (hSw.cell (p := ⟨bl j, 14, none⟩) lbV or1).trans v14; have q3 := (hSw.cell (p := ⟨W.heap.size, 3, none⟩) xl ox1).trans x3; have q16 := (hSw.cell (p := ⟨W.heap.size, 16, none⟩) xl ox1).trans x16; go_simp; try with_reducible rfl
        try simp only [Act.put, pb, pz, ps]
        refine wpAnyF_take (i := 7) (oi := ⟨some 48, .fieldAddr 36 (.tmp 6) 6, 0, "kinds.go:79", #[], none⟩) (v := ?_) rfl (by kernel_rfl) (by kernel_rfl) (by kernel_rfl) (by kernel_rfl) (fun _ _ _ h => h) (Or.inl ⟨by rfl, ?_⟩) hS ?_
        rotate_left
        · intro w' _; go_simp; try with_reducible rfl
        try simp only [Act.put, pb, pz, ps]
        refine wpAnyF_take (i := 8) (oi := ⟨some 49, .load 34 (.tmp 48), 34, "kinds.go:79", #[⟨7, .data⟩], none⟩) (v := ?_) rfl (by kernel_rfl) (by kernel_rfl) (by kernel_rfl) (by kernel_rfl) (fun _ _ _ h => h) (Or.inl ⟨by rfl, ?_⟩) hS ?_
        rotate_left
        · intro w' hSw; have q14 := (hSw.cell (p := ⟨bl j, 14, none⟩) lbV or1).trans v14; have q3 := (hSw.cell (p := ⟨W.heap.size, 3, none⟩) xl ox1).trans x3; have q16 := (hSw.cell (p := ⟨W.heap.size, 16, none⟩) xl ox1).trans x16; go_simp; try with_reducible rfl
        try simp only [Act.put, pb, pz, ps]
        refine wpAnyF_take (i := 10) (oi := ⟨some 51, .move (.tmp 3), 2, "kinds.go:79", #[], none⟩) (v := ?_) rfl (by kernel_rfl) (by kernel_rfl) (by kernel_rfl) (by kernel_rfl) (fun _ _ _ h => h) (Or.inl ⟨by rfl, ?_⟩) hS ?_
        rotate_left
        · intro w' _; go_simp; try with_reducible rfl
        try simp only [Act.put, pb, pz, ps]
        refine wpAnyF_ready (rs := [9]) (by kernel_rfl) (by simp) ?_
        refine AllReadyF.cons (o := ⟨some 50, .call { callee := .value (.func 91), args := #[.tmp 49], argTypes := #[34] }, 34, "kinds.go:79", #[⟨8, .data⟩], none⟩) rfl (by rfl) (fun K hK => ?_) ?_
        · go_simp
          refine (clone_offs (W := V5.drew) (Offs.grow HOV.out (Below.refl _ _).drew) HLO.out).mono ?_
          rintro e X6 ⟨A6, c6, rfl, hO6, hb6⟩
          have hb6 : Below V5.heap.size V5 X6 := (Below.refl _ _).drew.trans (hb6.mono (Nat.le_refl _))
          refine hK.out _ _ ?_ (fun hS => ?_)
          · exact (Chg.refl _ V5).grow hb6
          clear hK K
          try simp only [Act.put, pb, pz, ps]
          have HO6 := Lib.hid hO6
          have HB6 := Lib.hid hb6
          have HRW := Lib.hid ((HVR.out.grow hb6).grow ((Below.refl _ _).alloc (Nat.le_refl _) (.cells #[.int .i64 (i : Int), .slice A6 ooff.length c6, .int .i64 held] 103)))
          clear hO6 hb6
          refine wpAnyF_take (i := 11) (oi := ⟨some 52, .build 103 #[(0, .tmp 47), (1, .tmp 50), (2, .tmp 51)], 103, "kinds.go:79", #[⟨6, .data⟩, ⟨9, .data⟩, ⟨10, .data⟩], none⟩) (v := ?_) rfl (by kernel_rfl) (by kernel_rfl) (by kernel_rfl) (by kernel_rfl) (fun _ _ _ h => h) (Or.inl ⟨by rfl, ?_⟩) hS ?_
          rotate_left
          · intro w' _; go_simp; try with_reducible rfl
          try simp only [Act.put, pb, pz, ps]
          refine wpAnyF_ready (rs := [12]) (by kernel_rfl) (by simp) ?_
          refine AllReadyF.cons (o := ⟨some 53, .buildSlice 99 1 #[(0, .tmp 52)], 99, "kinds.go:79", #[⟨11, .data⟩], none⟩) rfl (by rfl) (fun K hK => ?_) ?_
          · go_simp
            refine hK.out _ _ ?_ (fun hS => ?_)
            · exact hS.grow ((Below.refl _ _).alloc (Nat.le_refl _) _)
            clear hK K
            try simp only [Act.put, pb, pz, ps]
            refine wpAnyF_ready (rs := [13]) (by kernel_rfl) (by simp) ?_
            refine AllReadyF.cons (o := ⟨some 54, .call { callee := .builtin .append, args := #[.tmp 45, .tmp 53], argTypes := #[99, 99] }, 99, "kinds.go:79", #[⟨4, .data⟩, ⟨12, .data⟩, ⟨9, .chain⟩], none⟩) rfl (by rfl) (fun K hK => ?_) ?_
            · refine step_row (X6.alloc (.cells #[.int .i64 (i : Int), .slice A6 ooff.length c6, .int .i64 held] 103)) (.tmp 45) (.tmp 53) rfl et_stand rfl (.slice (some ⟨q, 0, none⟩) m sc) m (standCells rest vx) rfl HRW.out (.slice (some ⟨X6.heap.size, 0, none⟩) 1 1) 1 [.int .i64 (i : Int), .slice A6 ooff.length c6, .int .i64 held] rfl (Sl.lit1 (Blk.new X6 103 #[.int .i64 (i : Int), .slice A6 ooff.length c6, .int .i64 held]) rfl) (by simp [Value.oneCell']) (by have := HMM.out; omega) (by have := HMM.out; unfold maxLen; omega) ?_
              intro A7 c7 Z hrZ hcZ
              refine hK.out _ _ ?_ (fun hS => ?_)
              · exact hS.trans hcZ
              clear hK K
              try simp only [Act.put, pb, pz, ps]
              have HLZ := Lib.hid (((HVL.out.grow HB6.out).alloc (.cells #[.int .i64 (i : Int), .slice A6 ooff.length c6, .int .i64 held] 103)).chg hcZ HOR.out)
              have HZR := Lib.hid hrZ
              have HZC := Lib.hid hcZ
              obtain ⟨U, hU⟩ : ∃ U, U = Z.setCell ⟨bl j, 14, none⟩ (.slice A7 (m + 1) c7) := ⟨_, rfl⟩
              have HU := Lib.hid hU
              clear hrZ hcZ hU
              refine wpAnyF_takeD [15, 16] (i := 14) (oi := ⟨some 55, .nilCheck (.tmp 41), 0, "kinds.go:79", #[⟨0, .data⟩, ⟨0, .phase⟩, ⟨1, .phase⟩, ⟨2, .phase⟩, ⟨3, .phase⟩, ⟨4, .phase⟩, ⟨5, .phase⟩, ⟨6, .phase⟩, ⟨7, .phase⟩, ⟨8, .phase⟩, ⟨9, .phase⟩, ⟨10, .phase⟩, ⟨11, .phase⟩, ⟨12, .phase⟩, ⟨13, .phase⟩], none⟩) (v := ?_) rfl (by kernel_rfl) (by kernel_rfl) (by kernel_rfl) (by kernel_rfl) (fun _ _ _ h => h) (Or.inl ⟨by rfl, ?_⟩) hS ?_
              rotate_left
              · intro w' _; go_simp; try with_reducible rfl
              try simp only [Act.put, pb, pz, ps]
              refine wpAnyF_take (i := 15) (oi := ⟨some 56, .fieldAddr 137 (.tmp 55) 4, 0, "kinds.go:79", #[⟨14, .data⟩, ⟨0, .phase⟩, ⟨1, .phase⟩, ⟨2, .phase⟩, ⟨3, .phase⟩, ⟨4, .phase⟩, ⟨5, .phase⟩, ⟨6, .phase⟩, ⟨7, .phase⟩, ⟨8, .phase⟩, ⟨9, .phase⟩, ⟨10, .phase⟩, ⟨11, .phase⟩, ⟨12, .phase⟩, ⟨13, .phase⟩], none⟩) (v := ?_) rfl (by kernel_rfl) (by kernel_rfl) (by kernel_rfl) (by kernel_rfl) (fun _ _ _ h => h) (Or.inl ⟨by rfl, ?_⟩) hS ?_
              rotate_left
              · intro w' _; go_simp; try with_reducible rfl
              try simp only [Act.put, pb, pz, ps]
              refine wpAnyF_ready (rs := [16]) (by kernel_rfl) (by simp) ?_
              refine AllReadyF.fin (o := ⟨none, .store 99 (.tmp 56) (.tmp 54), 0, "kinds.go:79", #[⟨15, .data⟩, ⟨13, .data⟩, ⟨13, .chain⟩, ⟨0, .phase⟩, ⟨1, .phase⟩, ⟨2, .phase⟩, ⟨3, .phase⟩, ⟨4, .phase⟩, ⟨5, .phase⟩, ⟨6, .phase⟩, ⟨7, .phase⟩, ⟨8, .phase⟩, ⟨9, .phase⟩, ⟨10, .phase⟩, ⟨11, .phase⟩, ⟨12, .phase⟩, ⟨13, .phase⟩], none⟩) rfl (by rfl) (fun K hK => ?_) ?_
              · have f14 := HLZ.out.frozen 14
                have d14 : Z.cell? ⟨bl j, 14, none⟩ = some (.slice (some ⟨q, 0, none⟩) m sc) := HLZ.out.cell 14
                go_simp
                rw [← HU.out]
                refine hK.out _ _ ?_
                clear hK K
                try simp only [Act.put, pb, pz, ps]
                refine wpAnyF_done (by kernel_rfl) ?_ _
                clear hS v14 lbV x3 x16 xl or1 ox1
                go_wp2_with fail
                go_ret
                refine ⟨rfl, ?_⟩
                have hcU1 : Chg (· = bl j) Z U := by rw [HU.out]; exact Chg.set Z ⟨bl j, 14, none⟩ _
                have hbU : Blk U (bl j) 137 ((standL l ⟨(i : Int), ooff, held⟩).cells (.slice A7 (m + 1) c7)).toArray := by rw [HU.out]; exact HLZ.out.set_ 14 _
                have hlW := HLJ.out.lt
                have hs6 := HB6.out.size
                have hsV := HVC.out.size
                have hrowU : RowAt U (fun b => (T b = .lot j ∧ b ≠ bl j) ∨ X6.heap.size ≤ b) 103 3 (.slice A7 (m + 1) c7) (rest.length + 1) (standCells rest vx ++ (⟨(i : Int), ooff, held⟩ : Stand).cells (.slice A6 ooff.length c6)) := by
                  rw [← HMR.out]
                  refine (HZR.out.chgB hcU1 fun b hb e => ?_).mono fun b _ k => k.elim .inl fun k => .inr (by rw [World.size_alloc] at k; omega)
                  rcases HZR.out.blk b hb with k | k
                  · exact k.2 e
                  · rw [World.size_alloc] at k; omega
                have hcU : Chg (fun b => T b = .lot j) X6 U := (((Chg.refl _ X6).grow ((Below.refl _ _).alloc (Nat.le_refl _) _)).step HZC.out fun b _ e => (HVR.out.blk b e).1).step hcU1 fun b _ e => e ▸ HTB.out
                exact stand_end HH.out HROW.out HLS.out HL.out (l' := standL l ⟨(i : Int), ooff, held⟩) (by show restS (i : Int) l.stands ++ _ = _; rw [HRE.out]) HAV.out HVC.out HVO.out HB6.out (s := ⟨(i : Int), ooff, held⟩) (show Offs X6 (fun b => V5.heap.size ≤ b) (.slice A6 ooff.length c6) ooff from HO6.out) hrowU hcU hbU
              exact AllReadyF.nil
            exact AllReadyF.nil
          exact AllReadyF.nil
        exact AllReadyF.nil
    exact AllReadyF.nil
  exact AllReadyF.nil
end Go.Proofs.YthoaidfpgijbfaaGreat.Ho
namespace Go.Proofs.YthoaidfpgijbfaaGreat.Ho
open Go.RowKit
open Go.Proofs.YthoaidfpgijbfaaGreat.Vb Go.Proofs.YthoaidfpgijbfaaGreat.Ac
structure AtIt (W : World) (T : Nat → Part) (h pn pc : Nat) (va vl vb vs : Value) (K : Nat) (H : House) (bl ba ma : Nat → Nat) (i j : Nat) (a : Acc) (l : LotS) : Prop where
  house : HouseAt W T h pn pc va vl vb vs K H
  lrow : RowAt W (fun b => T b = .lots) 135 1 vl H.lots.length (ptrs bl H.lots.length)
  lots : ∀ n l, H.lots[n]? = some l → LotAt W T n (bl n) l
  arow : RowAt W (fun b => T b = .accs) 133 1 va H.accs.length (ptrs ba H.accs.length)
  accs : ∀ i a, H.accs[i]? = some a → AccAt W (ba i) (ma i) K a ∧ T (ba i) = .acc i ∧ T (ma i) = .acc i
  acc : H.accs[i]? = some a
  lot : H.lots[j]? = some l
theorem AtIt.grow {W W' : World} {T : Nat → Part} {h pn pc K : Nat} {va vl vb vs : Value} {H : House} {bl ba ma : Nat → Nat} {i j : Nat} {a : Acc} {l : LotS} (hx : AtIt W T h pn pc va vl vb vs K H bl ba ma i j a l) (hb : Below W.heap.size W W') : AtIt W' T h pn pc va vl vb vs K H bl ba ma i j a l :=
  ⟨hx.house.grow hb, hx.lrow.grow hb, fun n l hn => (hx.lots n l hn).step (Chg.of (fun _ => False) hb) (fun _ _ => id) (fun _ _ => rfl), hx.arow.grow hb, fun i a hi => ⟨(hx.accs i a hi).1.grow hb, (hx.accs i a hi).2⟩, hx.acc, hx.lot⟩
theorem HouseAt.moves {W W' : World} {T : Nat → Part} (hb : Below W.heap.size W W') : Moves W T W' T := ⟨Chg.of _ hb, fun _ _ => rfl⟩
def sealedE (a : Acc) (l : LotS) (j : Int) (os : List Off) : Int := match singleO os with | none => 2 | some c => if c < l.put.floor then 7 else standE a j c
theorem single_coin {os : List Off} {c : Int} (h : singleO os = some c) : coin c := by
  unfold singleO at h
  split at h
  · split at h
    · rename_i h1
      cases h
      exact coinB_coin.1 h1.2
    · cases h
  · cases h
set_option maxRecDepth 100000 in
set_option maxHeartbeats 8000000 in
theorem sbid_err {W : World} {T : Nat → Part} {h pn pc K : Nat} {va vl vb vs : Value} {H : House} {bl ba ma : Nat → Nat} {i j : Nat} {a : Acc} {l : LotS} (hat : AtIt W T h pn pc va vl vb vs K H bl ba ma i j a l) (o : OrderR) (hoi : o.bidder = i) (hoj : o.lot = j) {A : Option Addr} {c : Nat} {R : Nat → Prop} (hO : Offs W R (.slice A o.offers.length c) o.offers) (hR : ∀ b, R b → T b = .no) (hok : a.Ok) (hjm : j ≤ 4096) (he : sealedE a l j o.offers ≠ 0) :
    Calls Tryz.prog 278 #[.agg #[], .pointer (some ⟨h, 0, none⟩), .pointer (some ⟨bl j, 0, none⟩), .pointer (some ⟨ba i, 0, none⟩), o.agg (.slice A o.offers.length c)] W fun e W' => e = .returned (.tuple #[.int .i64 0, .int .i64 (sealedE a l j o.offers)]) ∧ Below W.heap.size W W' := by
  obtain ⟨W1, hW1⟩ : ∃ W1, W1 = (W.alloc (.cells #[] 187)).alloc (.cells (o.cells (.slice A o.offers.length c)).toArray 36) := ⟨_, rfl⟩
  have hb1 : Below W.heap.size W W1 := by rw [hW1]; exact ((Below.refl _ _).alloc (Nat.le_refl _) _).alloc (by simp) _
  have hx : Blk W1 (W.heap.size + 1) 36 (o.cells (.slice A o.offers.length c)).toArray := by rw [hW1]; exact Blk.new' _ _ (by simp)
  obtain ⟨v, htb, hblk, _⟩ := hat.lots j l hat.lot
  have l7 : W.cell? ⟨bl j, 7, none⟩ = some (.int .i64 l.put.floor) := hblk.cell 7
  have lb := hblk.lt
  obtain ⟨fl, hfl⟩ : ∃ z, z = l.put.floor := ⟨_, rfl⟩
  rw [← hfl] at l7
  have HAT := Lib.hid hat
  have HB1 := Lib.hid hb1
  have HRN := Lib.hid hR
  have HOK := Lib.hid hok
  have HJM := Lib.hid hjm
  have HOI := Lib.hid hoi
  have HOJ := Lib.hid hoj
  have HO1 := Lib.hid (Offs.grow hO hb1)
  obtain ⟨oo, hoo⟩ : ∃ z, z = o := ⟨_, rfl⟩
  have HOO := Lib.hid hoo
  obtain ⟨okind, oname, ocoins, obidder, olot, ⟨kind, opens, closes, start, step, extend, last, floor, fall, count, rule⟩, ooff, otick⟩ := o
  simp only at hO
  have HSI := Lib.hid (single_any (Offs.grow hO hb1))
  simp only [OrderR.agg, OrderR.cells, LotR.cells, List.cons_append, List.nil_append] at hW1 hx ⊢
  have x16 : W1.cell? ⟨W.heap.size + 1, 16, none⟩ = some (.slice A ooff.length c) := hx.cell 16
  have l71 : W1.cell? ⟨bl j, 7, none⟩ = some (.int .i64 fl) := (hb1.cell (p := ⟨bl j, 7, none⟩) lb).trans l7
  have lb1 : bl j < W1.heap.size := Nat.lt_of_lt_of_le lb hb1.size
  have xl := hx.lt
  have HX1 := Lib.hid hx
  clear hat hb1 hR hok hjm hoi hoj hO htb hblk hx l7 lb hoo
  obtain ⟨er, her⟩ : ∃ z, z = sealedE a l j ooff := ⟨_, rfl⟩
  rw [← her] at he ⊢
  have HE := Lib.hid he
  unfold sealedE at her
  clear he
  go_enter Tryz.func278, Tryz.ntmps278
  go_wp2_with fail
  rw [← hW1]
  clear hW1
  refine HSI.out.mono ?_
  rintro e W2 ⟨rfl, hb2⟩
  have l72 : W2.cell? ⟨bl j, 7, none⟩ = some (.int .i64 fl) := (hb2.cell (p := ⟨bl j, 7, none⟩) lb1).trans l71
  have lb2 : bl j < W2.heap.size := Nat.lt_of_lt_of_le lb1 hb2.size
  have HX2 := Lib.hid (HX1.out.grow hb2)
  have HB2 := Lib.hid (HB1.out.trans (hb2.mono HB1.out.size))
  have HO2 := Lib.hid (Offs.grow HO1.out hb2)
  clear hb2 l71 lb1 x16 xl
  cases hs : singleO ooff with
  | none =>
    rw [hs] at her
    simp only at her
    subst her
    have hv : singleV ooff = .tuple #[.int .i64 0, .bool false] := by unfold singleV; rw [hs]
    rw [hv]
    clear hv hs
    go_wp2_with fail
    go_ret2
    exact ⟨rfl, HB2.out⟩
  | some co =>
    rw [hs] at her
    simp only at her
    have hv : singleV ooff = .tuple #[.int .i64 co, .bool true] := by unfold singleV; rw [hs]
    rw [hv]
    rw [← hfl] at her
    clear hv hs hfl
    by_cases hf : co < fl
    · rw [if_pos hf] at her
      subst her
      go_wp2_with fail
      go_ret2
      exact ⟨rfl, HB2.out⟩
    · rw [if_neg hf] at her
      have hst : a.mostH j < co := by
        unfold standE at her
        split at her
        · assumption
        · exact absurd her HE.out
      have h8 : er = 8 := by rw [her]; unfold standE; rw [if_pos hst]
      subst h8
      have HST := Lib.hid hst
      clear her hst
      go_wp2_with (refine wpList_load_row rfl 36 (.tmp 9) rfl (W.heap.size + 1) rfl 36 #[.int .i64 okind, .string oname, .int .i64 ocoins, .int .i64 obidder, .int .i64 olot, .int .i64 kind, .int .i64 opens, .int .i64 closes, .int .i64 start, .int .i64 step, .int .i64 extend, .int .i64 last, .int .i64 floor, .int .i64 fall, .int .i64 count, .int .i64 rule, .slice A ooff.length c, .int .i64 otick] (0, 0) _ HX2.out Tryz.underlying36 rfl (by kernel_rfl) ?_)
      have hat2 := HAT.out.grow HB2.out
      have hcon := hstand_err hat2.house hat2.lrow hat2.lots hat2.arow hat2.accs hat2.acc hat2.lot oo (by rw [HOO.out]; exact HOI.out) (by rw [HOO.out]; exact HOJ.out) (vo := .slice A ooff.length c) (by rw [HOO.out]; exact HO2.out) HRN.out HOK.out HJM.out HST.out
      rw [HOO.out] at hcon
      refine hcon.mono ?_
      clear hcon hat2
      rintro e W3 ⟨rfl, hb3⟩
      have HB3 := Lib.hid (HB2.out.trans (hb3.mono HB2.out.size))
      clear hb3
      go_wp2_with fail
      go_ret2
      exact ⟨rfl, HB3.out⟩
set_option maxRecDepth 100000 in
set_option maxHeartbeats 8000000 in
theorem sbid_ok {W : World} {T : Nat → Part} {h pn pc K : Nat} {va vl vb vs : Value} {H : House} {bl ba ma : Nat → Nat} {i j : Nat} {a : Acc} {l : LotS} (hat : AtIt W T h pn pc va vl vb vs K H bl ba ma i j a l) (o : OrderR) (hoi : o.bidder = i) (hoj : o.lot = j) {A : Option Addr} {c : Nat} {R : Nat → Prop} (hO : Offs W R (.slice A o.offers.length c) o.offers) (hR : ∀ b, R b → T b = .no) (hok : a.Ok) (hjm : j ≤ 4096) {co : Int} (hs : singleO o.offers = some co) (hf : ¬ co < l.put.floor) (hst : co ≤ a.mostH j) (hK : K < maxLen) (hsm : l.stands.length ≤ 1000000) (hlo : o.offers.length ≤ 1099511627776) :
    Calls Tryz.prog 278 #[.agg #[], .pointer (some ⟨h, 0, none⟩), .pointer (some ⟨bl j, 0, none⟩), .pointer (some ⟨ba i, 0, none⟩), o.agg (.slice A o.offers.length c)] W fun e W' => e = .returned (.tuple #[.int .i64 0, .int .i64 0]) ∧ ∃ T', HouseIn W' T' h (K + 1) (standH H i j a l ⟨i, o.offers, co⟩) ∧ Moves W T W' T' := by
  obtain ⟨W1, hW1⟩ : ∃ W1, W1 = (W.alloc (.cells #[] 187)).alloc (.cells (o.cells (.slice A o.offers.length c)).toArray 36) := ⟨_, rfl⟩
  have hb1 : Below W.heap.size W W1 := by rw [hW1]; exact ((Below.refl _ _).alloc (Nat.le_refl _) _).alloc (by simp) _
  have hx : Blk W1 (W.heap.size + 1) 36 (o.cells (.slice A o.offers.length c)).toArray := by rw [hW1]; exact Blk.new' _ _ (by simp)
  obtain ⟨v, htb, hblk, _⟩ := hat.lots j l hat.lot
  have l7 : W.cell? ⟨bl j, 7, none⟩ = some (.int .i64 l.put.floor) := hblk.cell 7
  have lb := hblk.lt
  obtain ⟨fl, hfl⟩ : ∃ z, z = l.put.floor := ⟨_, rfl⟩
  rw [← hfl] at l7
  have HAT := Lib.hid hat
  have HB1 := Lib.hid hb1
  have HRN := Lib.hid hR
  have HOK := Lib.hid hok
  have HJM := Lib.hid hjm
  have HOI := Lib.hid hoi
  have HOJ := Lib.hid hoj
  have HO1 := Lib.hid (Offs.grow hO hb1)
  obtain ⟨oo, hoo⟩ : ∃ z, z = o := ⟨_, rfl⟩
  have HOO := Lib.hid hoo
  obtain ⟨okind, oname, ocoins, obidder, olot, ⟨kind, opens, closes, start, step, extend, last, floor, fall, count, rule⟩, ooff, otick⟩ := o
  simp only at hO
  have HSI := Lib.hid (single_any (Offs.grow hO hb1))
  simp only [OrderR.agg, OrderR.cells, LotR.cells, List.cons_append, List.nil_append] at hW1 hx ⊢
  have x16 : W1.cell? ⟨W.heap.size + 1, 16, none⟩ = some (.slice A ooff.length c) := hx.cell 16
  have l71 : W1.cell? ⟨bl j, 7, none⟩ = some (.int .i64 fl) := (hb1.cell (p := ⟨bl j, 7, none⟩) lb).trans l7
  have lb1 : bl j < W1.heap.size := Nat.lt_of_lt_of_le lb hb1.size
  have xl := hx.lt
  have HX1 := Lib.hid hx
  clear hat hb1 hR hok hjm hoi hoj hO htb hblk hx l7 lb hoo
  have HS := Lib.hid hs
  have HFL := Lib.hid (show ¬ co < fl by rw [hfl]; exact hf)
  have hf' : ¬ co < fl := HFL.out
  have HST := Lib.hid hst
  have HKM := Lib.hid hK
  have HSM := Lib.hid hsm
  have HLO := Lib.hid hlo
  clear hf hst hK hsm hlo hfl hs
  go_enter Tryz.func278, Tryz.ntmps278
  go_wp2_with fail
  rw [← hW1]
  clear hW1
  refine HSI.out.mono ?_
  rintro e W2 ⟨rfl, hb2⟩
  have l72 : W2.cell? ⟨bl j, 7, none⟩ = some (.int .i64 fl) := (hb2.cell (p := ⟨bl j, 7, none⟩) lb1).trans l71
  have lb2 : bl j < W2.heap.size := Nat.lt_of_lt_of_le lb1 hb2.size
  have HX2 := Lib.hid (HX1.out.grow hb2)
  have HB2 := Lib.hid (HB1.out.trans (hb2.mono HB1.out.size))
  have HO2 := Lib.hid (Offs.grow HO1.out hb2)
  clear hb2 l71 lb1 x16 xl
  have hv : singleV ooff = .tuple #[.int .i64 co, .bool true] := by have := HS.out; unfold singleV; rw [this]
  rw [hv]
  clear hv
  go_wp2_with (refine wpList_load_row rfl 36 (.tmp 9) rfl (W.heap.size + 1) rfl 36 #[.int .i64 okind, .string oname, .int .i64 ocoins, .int .i64 obidder, .int .i64 olot, .int .i64 kind, .int .i64 opens, .int .i64 closes, .int .i64 start, .int .i64 step, .int .i64 extend, .int .i64 last, .int .i64 floor, .int .i64 fall, .int .i64 count, .int .i64 rule, .slice A ooff.length c, .int .i64 otick] (0, 0) _ HX2.out Tryz.underlying36 rfl (by kernel_rfl) ?_)
  have hat2 := HAT.out.grow HB2.out
  have hcon := hstand_ok hat2.house hat2.lrow hat2.lots hat2.arow hat2.accs hat2.acc hat2.lot oo (by rw [HOO.out]; exact HOI.out) (by rw [HOO.out]; exact HOJ.out) (vo := .slice A ooff.length c) (by rw [HOO.out]; exact HO2.out) HRN.out HOK.out HJM.out HST.out (single_coin HS.out) HKM.out HSM.out (by rw [HOO.out]; exact HLO.out)
  rw [HOO.out] at hcon
  refine hcon.mono ?_
  clear hcon hat2
  rintro e W3 ⟨rfl, T', hH3, hM3⟩
  have HH3 := Lib.hid hH3
  have HM3 := Lib.hid ((HouseAt.moves (T := T) HB2.out).trans hM3)
  clear hH3 hM3
  go_wp2_with fail
  go_ret2
  exact ⟨rfl, T', HH3.out, HM3.out⟩
end Go.Proofs.YthoaidfpgijbfaaGreat.Ho
namespace Go.Proofs.YthoaidfpgijbfaaGreat.Ho
open Go.RowKit
open Go.Proofs.YthoaidfpgijbfaaGreat.Vb Go.Proofs.YthoaidfpgijbfaaGreat.Ac
structure AnsR where
  (number err value : Int)
  deriving DecidableEq
def AnsR.cells (a : AnsR) : List Value := [.int .i64 a.number, .int .i64 a.err, .int .i64 a.value]
abbrev AnsR.agg (a : AnsR) : Value := .agg #[.int .i64 a.number, .int .i64 a.err, .int .i64 a.value]
theorem et_ans : ElemT Tryz.prog 107 27 3 24 := elemT_of Tryz.underlying107 (by omega) (z := .agg #[.int .i64 0, .int .i64 0, .int .i64 0]) (by kernel_rfl) rfl
def OrdersAt (W : World) (R : Nat → Prop) (v : Value) (os : List OrderR) : Prop :=
  ∃ vo, Sl W R v os.length 18 (orderCells os vo) ∧ ∀ k o, os[k]? = some o → (∃ A c, vo k = .slice A o.offers.length c) ∧ Offs W R (vo k) o.offers
theorem sl_order {W : World} {R : Nat → Prop} {A : Option Addr} {n c : Nat} {os : List OrderR} {vo : Nat → Value} (h : Sl W R (.slice A n c) n 18 (orderCells os vo)) {k : Nat} {o : OrderR} (hk : os[k]? = some o) (hkn : k < n) :
    ∃ q off, A = some ⟨q, off, none⟩ ∧ R q ∧ q < W.heap.size ∧ W.rangeAt q (off + k * 18) (o.cells (vo k)) := by
  obtain ⟨_, A', c', hv, _, _, hcs⟩ := h
  injection hv with hA _ _
  subst hA
  obtain ⟨b, off, hA, hR, hlt2, hcc⟩ := hcs (by omega)
  refine ⟨b, off, hA, hR, hlt2, fun i u hu => ?_⟩
  rw [show off + k * 18 + i = off + (k * 18 + i) by omega]
  have hi : i < 18 := by
    have := (List.getElem?_eq_some_iff.1 hu).1
    simpa [OrderR.cells, LotR.cells] using this
  refine hcc _ _ ((flat_get (n := 18) (xs := os.mapIdx fun k o => o.cells (vo k)) (mapIdx_len fun _ _ => rfl) ?_ hi).trans hu)
  rw [List.getElem?_mapIdx, hk]
  rfl
theorem HouseAt.movesB {W W' : World} {T : Nat → Part} (hb : Below W.heap.size W W') : Moves W T W' T := ⟨Chg.of _ hb, fun _ _ => rfl⟩
def RunStep (T0 : Nat → Part) (h : Nat) (lo : Nat) (S : Nat → House) (K : Nat → Nat) (os : List OrderR) (ans : List AnsR) : Prop :=
  ∀ k o a, os[k]? = some o → ans[k]? = some a → ∀ W T A c, HouseIn W T h (K k) (S k) → lo ≤ W.heap.size → (∀ b, b < lo → T b = T0 b) → Offs W (fun b => b < lo ∧ T0 b = .no) (.slice A o.offers.length c) o.offers →
    Calls Tryz.prog 9 #[.pointer (some ⟨h, 0, none⟩), o.agg (.slice A o.offers.length c)] W fun e W' => e = .returned a.agg ∧ ∃ T', HouseIn W' T' h (K (k + 1)) (S (k + 1)) ∧ Moves W T W' T'
set_option maxRecDepth 100000 in
set_option maxHeartbeats 8000000 in
theorem run_any {W : World} {T : Nat → Part} {h : Nat} {S : Nat → House} {K : Nat → Nat} {os : List OrderR} {ans : List AnsR} (hH : HouseIn W T h (K 0) (S 0)) {A : Option Addr} {c : Nat} (hos : OrdersAt W (fun b => b < W.heap.size ∧ T b = .no) (.slice A os.length c) os) (hlen : ans.length = os.length) (hn : os.length ≤ 1000000)
    (hstep : RunStep T h W.heap.size S K os ans) :
    Calls Tryz.prog 42 #[.pointer (some ⟨h, 0, none⟩), .slice A os.length c] W fun e W' => ∃ A2 c2, e = .returned (.slice A2 os.length c2) ∧ ∃ T', HouseIn W' T' h (K os.length) (S os.length) ∧ Moves W T W' T' ∧
      RowAt W' (fun b => W.heap.size ≤ b ∧ T' b = .no) 27 3 (.slice A2 os.length c2) os.length (ans.flatMap AnsR.cells) := by
  obtain ⟨n, hnn⟩ : ∃ z, z = os.length := ⟨_, rfl⟩
  rw [← hnn] at hos hlen hn ⊢
  have HH := Lib.hid hH
  have HOS := Lib.hid hos
  have HLEN := Lib.hid hlen
  have HNN := Lib.hid hnn
  have HSTEP := Lib.hid hstep
  clear hH hos hlen hnn hstep
  go_enter Tryz.func42, Tryz.ntmps42
  go_wp2_with fail
  have e4 : (0 : Int) ≤ (n : Int) := by omega
  go_loopw [5, 10] (fun t i wr => ∃ (k : Nat) (A' : Option Addr) (c' : Nat) (Tk : Nat → Part), k ≤ n ∧ i = .int .i64 k ∧ t = .slice A' k c' ∧ HouseIn wr Tk h (K k) (S k) ∧ Moves W T wr Tk ∧ RowAt wr (fun b => W.heap.size ≤ b ∧ Tk b = .no) 27 3 (.slice A' k c') k ((ans.take k).flatMap AnsR.cells)) (fun _ i _ => n - (intOf i).toNat)
  case atStart => exact ⟨0, none, 0, T, Nat.zero_le _, rfl, rfl, HH.out, ⟨Chg.refl _ _, fun _ _ => rfl⟩, RowAt.nil⟩
  case round =>
    obtain ⟨k, A', c', Tk, hk, rfl, rfl, hA, hM, hrow⟩ := hrel
    by_cases hlt : k < n
    · obtain ⟨o, ho⟩ : ∃ o, os[k]? = some o := ⟨_, List.getElem?_eq_getElem (by rw [← HNN.out]; exact hlt)⟩
      obtain ⟨a, ha⟩ : ∃ a, ans[k]? = some a := ⟨_, List.getElem?_eq_getElem (by rw [HLEN.out]; exact hlt)⟩
      obtain ⟨vo, hsl, hvo⟩ := HOS.out
      obtain ⟨⟨oA, oc, hov⟩, hoff⟩ := hvo k o ho
      rw [hov] at hoff
      have hkeep : ∀ b, b < W.heap.size → (b < W.heap.size ∧ T b = .no) → ¬ Own T b := fun b _ hr h => h.2 hr.2
      have hofr := Offs.chg hoff hM.chg hkeep
      rw [← HNN.out] at hsl
      have hslr := hsl.keep hM.chg.size fun b hb hr => hM.chg.block b hb (hkeep b hb hr)
      obtain ⟨q, off, rfl, _, hq, hcs⟩ := sl_order (A := A) (n := n) (c := c) hslr ho hlt
      rw [hov] at hcs
      have HCS := Lib.hid hcs
      have HST := Lib.hid (HSTEP.out k o a ho ha)
      have HA := Lib.hid hA
      have HM := Lib.hid hM
      have HROW := Lib.hid hrow
      have HOF := Lib.hid hofr
      have HTA := Lib.hid (show (ans.take (k + 1)).flatMap AnsR.cells = (ans.take k).flatMap AnsR.cells ++ a.cells by rw [List.take_add_one, ha]; simp)
      have e5 : (0 : Int) ≤ (k : Int) := by omega
      have e6 : (k : Int) < (n : Int) := by omega
      have hwr : IntKind.i64.wrap ((k : Int) + 1) = (k : Int) + 1 := IntWalk.i64_in _ (by omega)
      clear hA hM hrow hsl hvo hov hoff hkeep hofr hslr hcs ho ha
      obtain ⟨okind, oname, ocoins, obidder, olot, ⟨kind, opens, closes, start, step, extend, last, floor, fall, count, rule⟩, ooff, otick⟩ := o
      obtain ⟨an, ae, av⟩ := a
      simp only [OrderR.agg, OrderR.cells, LotR.cells, List.cons_append, List.nil_append] at HCS HST HOF
      obtain ⟨w1, hw1⟩ : ∃ w1, w1 = wr.alloc (.cells #[.int .i64 okind, .string oname, .int .i64 ocoins, .int .i64 obidder, .int .i64 olot, .int .i64 kind, .int .i64 opens, .int .i64 closes, .int .i64 start, .int .i64 step, .int .i64 extend, .int .i64 last, .int .i64 floor, .int .i64 fall, .int .i64 count, .int .i64 rule, .slice oA ooff.length oc, .int .i64 otick] 36) := ⟨_, rfl⟩
      have hb1 : Below wr.heap.size wr w1 := by rw [hw1]; exact (Below.refl _ _).alloc (Nat.le_refl _) _
      have HX1 := Lib.hid (show Ac.Blk w1 wr.heap.size 36 #[.int .i64 okind, .string oname, .int .i64 ocoins, .int .i64 obidder, .int .i64 olot, .int .i64 kind, .int .i64 opens, .int .i64 closes, .int .i64 start, .int .i64 step, .int .i64 extend, .int .i64 last, .int .i64 floor, .int .i64 fall, .int .i64 count, .int .i64 rule, .slice oA ooff.length oc, .int .i64 otick] by rw [hw1]; exact Blk.new _ _ _)
      have HB1 := Lib.hid hb1
      clear hb1
      go_wp2_with (first | (refine wpList_load_mid rfl 36 (.tmp 12) rfl q (off + k * 18) rfl [.int .i64 okind, .string oname, .int .i64 ocoins, .int .i64 obidder, .int .i64 olot, .int .i64 kind, .int .i64 opens, .int .i64 closes, .int .i64 start, .int .i64 step, .int .i64 extend, .int .i64 last, .int .i64 floor, .int .i64 fall, .int .i64 count, .int .i64 rule, .slice oA ooff.length oc, .int .i64 otick] _ HCS.out Tryz.underlying36 rfl (by kernel_rfl) ?_) | (refine wpList_load_row rfl 36 (.tmp 7) rfl wr.heap.size rfl 36 #[.int .i64 okind, .string oname, .int .i64 ocoins, .int .i64 obidder, .int .i64 olot, .int .i64 kind, .int .i64 opens, .int .i64 closes, .int .i64 start, .int .i64 step, .int .i64 extend, .int .i64 last, .int .i64 floor, .int .i64 fall, .int .i64 count, .int .i64 rule, .slice oA ooff.length oc, .int .i64 otick] (0, 0) _ (by rw [← hw1]; exact HX1.out) Tryz.underlying36 rfl (by kernel_rfl) ?_))
      rw [← hw1]
      clear hw1
      refine (HST.out w1 Tk oA oc (HA.out.grow HB1.out) (Nat.le_trans HM.out.chg.size HB1.out.size) (fun b hb => HM.out.tag b hb) (Offs.grow HOF.out HB1.out)).mono ?_
      rintro e W2 ⟨rfl, T2, hH2, hM2⟩
      have hno2 : ∀ b, W2.heap.size ≤ b → T2 b = .no := by obtain ⟨_, _, _, _, _, _, h⟩ := hH2; exact h.out
      have hMW := (HM.out.trans (HouseAt.movesB HB1.out)).trans hM2
      have HROW2 := Lib.hid (((HROW.out.grow HB1.out).mono (R' := fun b => (W.heap.size ≤ b ∧ Tk b = .no) ∧ b < w1.heap.size) fun b hb hr => ⟨hr, hb⟩).chg hM2.chg fun b _ hr ho => ho.2 hr.1.2)
      have HH2 := Lib.hid hH2
      have HM2 := Lib.hid hM2
      have HMW := Lib.hid hMW
      have HNO2 := Lib.hid hno2
      clear hH2 hM2 hMW hno2
      go_wp2_with (at_builtin; go_must (refine wpList_row _ (.tmp 14) (.tmp 18) rfl et_ans rfl (.slice A' k c') k ((ans.take k).flatMap AnsR.cells) rfl (RowAt.grow HROW2.out ((Below.refl _ _).alloc (Nat.le_refl _) _)) (.slice (some ⟨W2.heap.size, 0, none⟩) 1 1) 1 [.int .i64 an, .int .i64 ae, .int .i64 av] rfl (Sl.lit1 (Blk.new W2 27 #[.int .i64 an, .int .i64 ae, .int .i64 av]) rfl) (by simp [Value.oneCell']) (by omega) (by unfold maxLen; omega) ?_); intro A3 c3 Z hrZ hcZ; have HRZ := Lib.hid hrZ; have HCZ := Lib.hid hcZ; clear hrZ hcZ)
      go_roundw
      case rel =>
        have hown : ∀ b, (Value.slice A' k c').ownBlock = some b → (W.heap.size ≤ b ∧ Tk b = .no) ∧ b < w1.heap.size := fun b hb => HROW2.out.blk b hb
        have hcz := (Chg.of (fun b => (Value.slice A' k c').ownBlock = some b) ((Below.refl _ _).alloc (Nat.le_refl _) _)).trans HCZ.out
        have hsz2 := HM2.out.chg.size
        have hsz1 := HM.out.chg.size
        have hszb := HB1.out.size
        refine ⟨k + 1, A3, c3, T2, by omega, by go_num, rfl, HH2.out.keep hcz fun b hb e => ?_, ⟨HMW.out.chg.step hcz fun b hb e => ?_, HMW.out.tag⟩, ?_⟩
        · have h1 := hown b e
          exact hb ((HM2.out.tag b h1.2).trans h1.1.2)
        · have h1 := hown b e
          omega
        · rw [HTA.out]
          refine HRZ.out.mono fun b _ hb => hb.elim (fun h1 => ⟨h1.1.1, (HM2.out.tag b h1.2).trans h1.1.2⟩) fun e => ?_
          rw [World.size_alloc] at e
          exact ⟨by omega, HNO2.out b (by omega)⟩
      case measure => simp [intOf]; omega
    · obtain rfl : k = n := by omega
      have hall : ans.take k = ans := List.take_of_length_le (by have := HLEN.out; omega)
      rw [hall] at hrow
      have HA := Lib.hid hA
      have HM := Lib.hid hM
      have HROW := Lib.hid hrow
      clear hA hM hrow hall hlt hk e4
      go_wp2_with fail
      go_ret
      exact ⟨A', c', rfl, Tk, HA.out, HM.out, HROW.out⟩
end Go.Proofs.YthoaidfpgijbfaaGreat.Ho
namespace Go.Proofs.YthoaidfpgijbfaaGreat.Ho
open Go.RowKit
open Go.Proofs.YthoaidfpgijbfaaGreat.Vb Go.Proofs.YthoaidfpgijbfaaGreat.Ac
set_option maxRecDepth 100000 in
set_option maxHeartbeats 4000000 in
theorem rcheck_0 (l : LotR) (h1 : ¬ l.kind = 1) (h2 : ¬ l.kind = 2) (h3 : ¬ l.kind = 3) (h4 : ¬ l.kind = 4) (h5 : ¬ l.kind = 5) (w : World) : Calls Tryz.prog 16 #[l.agg] w fun e w' => e = .returned (.int .i64 2) ∧ Below w.heap.size w w' := by
  obtain ⟨kind, opens, closes, start, step, extend, last, floor, fall, count, rule⟩ := l
  simp only at h1 h2 h3 h4 h5
  have b1 : (kind == 1) = false := by simp [h1]
  have b2 : (kind == 2) = false := by simp [h2]
  have b3 : (kind == 3) = false := by simp [h3]
  have b4 : (kind == 4) = false := by simp [h4]
  have b5 : (kind == 5) = false := by simp [h5]
  simp only [LotR.agg, LotR.cells]
  have HB := Lib.hid (show Below w.heap.size w (w.alloc (.cells #[.int .i64 kind, .int .i64 opens, .int .i64 closes, .int .i64 start, .int .i64 step, .int .i64 extend, .int .i64 last, .int .i64 floor, .int .i64 fall, .int .i64 count, .int .i64 rule] 33)) from (Below.refl _ _).alloc (Nat.le_refl _) _)
  clear h1 h2 h3 h4 h5
  go_enter Tryz.func16, Tryz.ntmps16
  go_wp2_with fail
  refine (rcoins_any opens _).mono ?_
  rintro e w9 ⟨rfl, rfl⟩
  cases q0 : coinB opens with
  | false =>
    go_wp2_with fail
    go_ret
    exact ⟨rfl, HB.out⟩
  | true =>
    go_wp2_with fail
    refine (rcoins_any closes _).mono ?_
    rintro e w9 ⟨rfl, rfl⟩
    cases q1 : coinB closes with
    | false =>
      go_wp2_with fail
      go_ret
      exact ⟨rfl, HB.out⟩
    | true =>
      by_cases q2 : opens < closes
      case neg =>
        go_wp2_with fail
        go_ret
        exact ⟨rfl, HB.out⟩
      have q2n : ¬ closes ≤ opens := by omega
      go_wp2_with fail
      go_ret
      exact ⟨rfl, HB.out.alloc HB.out.size _⟩
theorem rcheck_any (l : LotR) (w : World) : Calls Tryz.prog 16 #[l.agg] w fun e w' => e = .returned (.int .i64 (if lotOk l = true then 0 else 2)) ∧ Below w.heap.size w w' := by
  unfold lotOk mayB
  by_cases h1 : l.kind = 1
  · rw [if_pos h1]; exact rcheck_1 l h1 w
  · rw [if_neg h1]
    by_cases h2 : l.kind = 2
    · rw [if_pos h2]; exact rcheck_2 l h2 w
    · rw [if_neg h2]
      by_cases h3 : l.kind = 3
      · rw [if_pos h3]; exact rcheck_3 l h3 w
      · rw [if_neg h3]
        by_cases h4 : l.kind = 4
        · rw [if_pos h4]; exact rcheck_4 l h4 w
        · rw [if_neg h4]
          by_cases h5 : l.kind = 5
          · rw [if_pos h5]; exact rcheck_5 l h5 w
          · rw [if_neg h5]
            simp only [Bool.and_false, Bool.false_eq_true, if_false]
            exact rcheck_0 l h1 h2 h3 h4 h5 w
def rlotCells (l : LotS) (v : Value) : List Value := l.put.cells ++ [.int .i64 l.closes, .bool l.closed, v] ++ l.rise.cells ++ [.int .i64 l.price]
def rlotsCells (ls : List LotS) (vo : Nat → Value) : List Value := (ls.mapIdx fun k l => rlotCells l (vo k)).flatten
def StandsR (W : World) (R : Nat → Prop) (v : Value) (ss : List Stand) : Prop := ∃ vo, Sl W R v ss.length 3 (standCells ss vo) ∧ ∀ k s, ss[k]? = some s → (∃ A c, vo k = .slice A s.offers.length c) ∧ Offs W R (vo k) s.offers
def LotsR (W : World) (R : Nat → Prop) (v : Value) (ls : List LotS) : Prop := ∃ vo, Sl W R v ls.length 19 (rlotsCells ls vo) ∧ ∀ k l, ls[k]? = some l → (∃ A c, vo k = .slice A l.stands.length c) ∧ StandsR W R (vo k) l.stands
structure RefAt (W : World) (R : Nat → Prop) (r : Nat) (vn vb vp vl vs vk : Value) (H : House) : Prop where
  blk : Ac.Blk W r 52 #[vn, vb, vp, vl, vs, vk, .int .i64 H.now]
  not : ¬ R r
  names : Sl W R vn H.names.length 1 (strs H.names)
  buds : Sl W R vb H.accs.length 1 (H.accs.map fun a => .int .i64 a.bud)
  spent : Sl W R vp H.accs.length 1 (H.accs.map fun a => .int .i64 a.sp)
  lots : LotsR W R vl H.lots
  sales : Sl W R vs H.sales.length 7 (H.sales.flatMap SaleR.cells)
  book : OrdersAt W R vk H.book
def RefIn (W : World) (R : Nat → Prop) (r : Nat) (H : House) : Prop := ∃ vn vb vp vl vs vk, RefAt W R r vn vb vp vl vs vk H
section
variable {W W' : World} {R R' X : Nat → Prop} {r : Nat} {vn vb vp vl vs vk v : Value} {H : House}
theorem Sl.step {n sz : Nat} {xs : List Value} (h : Sl W R v n sz xs) (hc : Chg X W W') (hX : ∀ b, b < W.heap.size → R b → ¬ X b) (hR : ∀ b, b < W.heap.size → R b → R' b) : Sl W' R' v n sz xs :=
  (((h.mono (R' := fun b => R b ∧ b < W.heap.size) fun b hb hr => ⟨hr, hb⟩).keep hc.size fun b hb hr => hc.block b hb (hX b hb hr.1))).mono fun b _ hr => hR b hr.2 hr.1
theorem Offs.step {l : List Off} (h : Offs W R v l) (hc : Chg X W W') (hX : ∀ b, b < W.heap.size → R b → ¬ X b) (hR : ∀ b, b < W.heap.size → R b → R' b) : Offs W' R' v l := ⟨Sl.step h.1 hc hX hR, h.2⟩
theorem StandsR.step {ss : List Stand} (h : StandsR W R v ss) (hc : Chg X W W') (hX : ∀ b, b < W.heap.size → R b → ¬ X b) (hR : ∀ b, b < W.heap.size → R b → R' b) : StandsR W' R' v ss := by
  obtain ⟨vo, h1, h2⟩ := h
  exact ⟨vo, Sl.step h1 hc hX hR, fun k s hk => ⟨(h2 k s hk).1, Offs.step (h2 k s hk).2 hc hX hR⟩⟩
theorem LotsR.step {ls : List LotS} (h : LotsR W R v ls) (hc : Chg X W W') (hX : ∀ b, b < W.heap.size → R b → ¬ X b) (hR : ∀ b, b < W.heap.size → R b → R' b) : LotsR W' R' v ls := by
  obtain ⟨vo, h1, h2⟩ := h
  exact ⟨vo, Sl.step h1 hc hX hR, fun k l hk => ⟨(h2 k l hk).1, (h2 k l hk).2.step hc hX hR⟩⟩
theorem OrdersAt.step {os : List OrderR} (h : OrdersAt W R v os) (hc : Chg X W W') (hX : ∀ b, b < W.heap.size → R b → ¬ X b) (hR : ∀ b, b < W.heap.size → R b → R' b) : OrdersAt W' R' v os := by
  obtain ⟨vo, h1, h2⟩ := h
  exact ⟨vo, Sl.step h1 hc hX hR, fun k o hk => ⟨(h2 k o hk).1, Offs.step (h2 k o hk).2 hc hX hR⟩⟩
theorem RefAt.step (h : RefAt W R r vn vb vp vl vs vk H) (hc : Chg X W W') (hX : ∀ b, b < W.heap.size → R b ∨ b = r → ¬ X b) (hR : ∀ b, b < W.heap.size → R b → R' b) (hn : ¬ R' r) : RefAt W' R' r vn vb vp vl vs vk H :=
  have h1 : ∀ b, b < W.heap.size → R b → ¬ X b := fun b hb hr => hX b hb (.inl hr)
  ⟨h.blk.chg hc (hX r h.blk.lt (.inr rfl)), hn, Sl.step h.names hc h1 hR, Sl.step h.buds hc h1 hR, Sl.step h.spent hc h1 hR, h.lots.step hc h1 hR, Sl.step h.sales hc h1 hR, h.book.step hc h1 hR⟩
theorem RefAt.grow (h : RefAt W R r vn vb vp vl vs vk H) (hb : Below W.heap.size W W') : RefAt W' R r vn vb vp vl vs vk H := h.step (Chg.of (fun _ => False) hb) (fun _ _ _ => id) (fun _ _ => id) h.not
theorem RefIn.step (h : RefIn W R r H) (hc : Chg X W W') (hX : ∀ b, b < W.heap.size → R b ∨ b = r → ¬ X b) (hR : ∀ b, b < W.heap.size → R b → R' b) (hn : ¬ R' r) : RefIn W' R' r H := by
  obtain ⟨vn, vb, vp, vl, vs, vk, h⟩ := h
  exact ⟨vn, vb, vp, vl, vs, vk, h.step hc hX hR hn⟩
theorem RefIn.grow (h : RefIn W R r H) (hb : Below W.heap.size W W') : RefIn W' R r H := by
  obtain ⟨vn, vb, vp, vl, vs, vk, h⟩ := h
  exact ⟨vn, vb, vp, vl, vs, vk, h.grow hb⟩
theorem Sl.form {n sz : Nat} {xs : List Value} (h : Sl W R v n sz xs) : ∃ A c, v = .slice A n c := by
  obtain ⟨_, A, c, hv, _⟩ := h
  exact ⟨A, c, hv⟩
theorem LotsR.form {ls : List LotS} (h : LotsR W R v ls) : ∃ A c, v = .slice A ls.length c := by
  obtain ⟨vo, h1, _⟩ := h
  exact Sl.form h1
theorem RefAt.cells (h : RefAt W R r vn vb vp vl vs vk H) : W.cell? ⟨r, 0, none⟩ = some vn ∧ W.cell? ⟨r, 1, none⟩ = some vb ∧ W.cell? ⟨r, 2, none⟩ = some vp ∧ W.cell? ⟨r, 3, none⟩ = some vl ∧ W.cell? ⟨r, 4, none⟩ = some vs ∧ W.cell? ⟨r, 5, none⟩ = some vk ∧ W.cell? ⟨r, 6, none⟩ = some (.int .i64 H.now) ∧ r < W.heap.size :=
  ⟨h.blk.cell 0, h.blk.cell 1, h.blk.cell 2, h.blk.cell 3, h.blk.cell 4, h.blk.cell 5, h.blk.cell 6, h.blk.lt⟩
end
end Go.Proofs.YthoaidfpgijbfaaGreat.Ho
namespace Go.Proofs.YthoaidfpgijbfaaGreat.Ho
open Go.RowKit
open Go.MapKept (IsKey)
open Go.Proofs.YthoaidfpgijbfaaGreat.Vb Go.Proofs.YthoaidfpgijbfaaGreat.Ac
def encU (x : Int) : Value := .int .u8 x
theorem encU_key : ∀ k : Int, IsKey (.int .u8) (encU k) := fun k => by simp [IsKey, encU]
theorem encU_inj : ∀ a b : Int, encU a = encU b → a = b := fun a b h => by unfold encU at h; injection h
def byteAt (s : ByteArray) (k : Nat) : Int := if h : k < s.size then ((s[k]'h).toNat : Int) else -1
theorem byteAt_eq (s : ByteArray) (k : Nat) (h : k < s.size) : ((s[k]'h).toNat : Int) = byteAt s k := by unfold byteAt; rw [dif_pos h]
def hasF (s : ByteArray) (k : Nat) : Int → Option Int := fun x => if x ∈ (List.range k).map (byteAt s) then some 1 else none
theorem hasF_succ (s : ByteArray) (k : Nat) : (fun x => if x = byteAt s k then some 1 else hasF s k x) = hasF s (k + 1) := by
  funext x
  unfold hasF
  rw [List.range_succ, List.map_append]
  by_cases h : x = byteAt s k
  · subst h; simp
  · rw [if_neg h]
    simp [h]
set_option maxRecDepth 100000 in
set_option maxHeartbeats 8000000 in
theorem rzero_3 (o : OrderR) (A : Option Addr) (c : Nat) (hk : o.kind = 3) (W : World) : Calls Tryz.prog 93 #[o.agg (.slice A o.offers.length c), .string ⟨#[112]⟩] W fun e W' => e = .returned (.bool (decide (o.name.size = 0) && (o.coins == 0) && (o.bidder == 0) && (o.lot == 0) && ((o.offers.length : Int) == 0) && (o.tick == 0))) ∧ Below W.heap.size W W' := by
  obtain ⟨z, hz⟩ : ∃ z, z = (decide (o.name.size = 0) && (o.coins == 0) && (o.bidder == 0) && (o.lot == 0) && ((o.offers.length : Int) == 0) && (o.tick == 0)) := ⟨_, rfl⟩
  rw [← hz]
  obtain ⟨okind, oname, ocoins, obidder, olot, put, ooff, otick⟩ := o
  simp only at hk hz
  obtain ⟨no, hno⟩ : ∃ n, n = ooff.length := ⟨_, rfl⟩
  obtain ⟨bp, hbp⟩ : ∃ b, b = decide (put = zeroLot) := ⟨_, rfl⟩
  have heq := fun W => eql_lot W put zeroLot
  rw [← hbp] at heq
  obtain ⟨bn, hbn⟩ : ∃ b, b = decide (oname.size = 0) := ⟨_, rfl⟩
  have hst := fun W => strz oname W
  have hst2 := isE oname
  rw [← hbn] at hst hst2
  obtain ⟨kind, opens, closes, start, step, extend, last, floor, fall, count, rule⟩ := put
  simp only [OrderR.agg, OrderR.cells, LotR.agg, LotR.cells, zeroLot, List.cons_append, List.nil_append] at heq ⊢
  rw [← hno]
  rw [← hbn, ← hno] at hz
  subst hk
  have HZ := Lib.hid hz
  clear hz hbp hbn hno
  obtain ⟨named, hnamed⟩ : ∃ s : ByteArray, s = ⟨#[112]⟩ := ⟨_, rfl⟩
  rw [← hnamed]
  have HNA := Lib.hid hnamed
  have hsz : named.size = 1 := by rw [hnamed]; rfl
  have HSZ := Lib.hid hsz
  clear hnamed
  have hmm := @run_makeMap Tryz.prog
  obtain ⟨W1, hW1⟩ : ∃ W1, W1 = (W.alloc (.cells #[.int .i64 3, .string oname, .int .i64 ocoins, .int .i64 obidder, .int .i64 olot, .int .i64 kind, .int .i64 opens, .int .i64 closes, .int .i64 start, .int .i64 step, .int .i64 extend, .int .i64 last, .int .i64 floor, .int .i64 fall, .int .i64 count, .int .i64 rule, .slice A no c, .int .i64 otick] 36)).alloc (.map #[] 0) := ⟨_, rfl⟩
  have HX1 := Lib.hid (show Ac.Blk W1 W.heap.size 36 #[.int .i64 3, .string oname, .int .i64 ocoins, .int .i64 obidder, .int .i64 olot, .int .i64 kind, .int .i64 opens, .int .i64 closes, .int .i64 start, .int .i64 step, .int .i64 extend, .int .i64 last, .int .i64 floor, .int .i64 fall, .int .i64 count, .int .i64 rule, .slice A no c, .int .i64 otick] by rw [hW1]; exact (Blk.new W _ _).alloc _)
  have HM1 := Lib.hid (show MapK (.int .u8) encU W1 (W.heap.size + 1) (hasF named 0) by
    rw [hW1, show hasF named 0 = fun _ => none from by funext x; simp [hasF]]
    have := MapK.made (d := .int .u8) (enc := encU) (W.alloc (.cells #[.int .i64 3, .string oname, .int .i64 ocoins, .int .i64 obidder, .int .i64 olot, .int .i64 kind, .int .i64 opens, .int .i64 closes, .int .i64 start, .int .i64 step, .int .i64 extend, .int .i64 last, .int .i64 floor, .int .i64 fall, .int .i64 count, .int .i64 rule, .slice A no c, .int .i64 otick] 36))
    rwa [World.size_alloc] at this)
  have HB1 := Lib.hid (show Below W.heap.size W W1 by rw [hW1]; exact ((Below.refl _ _).alloc (Nat.le_refl _) _).alloc (by simp) _)
  clear hsz
  go_enter Tryz.func93, Tryz.ntmps93
  dsimp only [List.append]
  go_wp2_with fail
  rw [← hW1]
  clear hW1 hmm
  have X0 := HX1
  have M0 := HM1
  have B0 := HB1
  have hks0 : 0 < named.size := by rw [HSZ.out]; decide
  have es0 : (0 : Int) < (named.size : Int) := by rw [HSZ.out]; decide
  obtain ⟨V1, hput0, hmV, hcV⟩ := M0.out.put (P := Tryz.prog) (mty := 227) (kt := 5) (et := 3) encU_key encU_inj Tryz.underlying227 Tryz.underlying5 (byteAt named 0) 1
  rw [hasF_succ] at hmV
  unfold encU at hput0
  rw [← byteAt_eq named 0 hks0] at hput0
  have M1 := Lib.hid hmV
  have X1 := Lib.hid (X0.out.chg hcV (by omega))
  have B1 := Lib.hid (B0.out.trans (hcV.below B0.out.size fun b hb e => by omega))
  clear hmV hcV
  have en : ¬ (1 : Int) < (named.size : Int) := by rw [HSZ.out]; decide
  have hm := M1.out
  have hx := X1.out
  have HB := B1
  have hlk := fun key => (hm.look (P := Tryz.prog) (mty := 227) (kt := 5) (et := 3) encU_key encU_inj Tryz.underlying227 Tryz.underlying5 (Tryz.zeroValue3 _) key).2
  have lk110 : (Instr.lookup 227 (.map (some (W.heap.size + 1))) (.int .u8 110) false).run Tryz.prog V1 = .ok (.int .i64 0) V1 := by
    have := hlk 110
    rwa [show (hasF named 1 110).getD 0 = (0 : Int) from by rw [HNA.out]; decide] at this
  have lk99 : (Instr.lookup 227 (.map (some (W.heap.size + 1))) (.int .u8 99) false).run Tryz.prog V1 = .ok (.int .i64 0) V1 := by
    have := hlk 99
    rwa [show (hasF named 1 99).getD 0 = (0 : Int) from by rw [HNA.out]; decide] at this
  have lk98 : (Instr.lookup 227 (.map (some (W.heap.size + 1))) (.int .u8 98) false).run Tryz.prog V1 = .ok (.int .i64 0) V1 := by
    have := hlk 98
    rwa [show (hasF named 1 98).getD 0 = (0 : Int) from by rw [HNA.out]; decide] at this
  have lk108 : (Instr.lookup 227 (.map (some (W.heap.size + 1))) (.int .u8 108) false).run Tryz.prog V1 = .ok (.int .i64 0) V1 := by
    have := hlk 108
    rwa [show (hasF named 1 108).getD 0 = (0 : Int) from by rw [HNA.out]; decide] at this
  have lk112 : (Instr.lookup 227 (.map (some (W.heap.size + 1))) (.int .u8 112) false).run Tryz.prog V1 = .ok (.int .i64 1) V1 := by
    have := hlk 112
    rwa [show (hasF named 1 112).getD 0 = (1 : Int) from by rw [HNA.out]; decide] at this
  have lk111 : (Instr.lookup 227 (.map (some (W.heap.size + 1))) (.int .u8 111) false).run Tryz.prog V1 = .ok (.int .i64 0) V1 := by
    have := hlk 111
    rwa [show (hasF named 1 111).getD 0 = (0 : Int) from by rw [HNA.out]; decide] at this
  have lk116 : (Instr.lookup 227 (.map (some (W.heap.size + 1))) (.int .u8 116) false).run Tryz.prog V1 = .ok (.int .i64 0) V1 := by
    have := hlk 116
    rwa [show (hasF named 1 116).getD 0 = (0 : Int) from by rw [HNA.out]; decide] at this
  have x1 : V1.cell? ⟨W.heap.size, 1, none⟩ = some (.string oname) := hx.cell 1
  have x2 : V1.cell? ⟨W.heap.size, 2, none⟩ = some (.int .i64 ocoins) := hx.cell 2
  have x3 : V1.cell? ⟨W.heap.size, 3, none⟩ = some (.int .i64 obidder) := hx.cell 3
  have x4 : V1.cell? ⟨W.heap.size, 4, none⟩ = some (.int .i64 olot) := hx.cell 4
  have x16 : V1.cell? ⟨W.heap.size, 16, none⟩ = some (.slice A no c) := hx.cell 16
  have x17 : V1.cell? ⟨W.heap.size, 17, none⟩ = some (.int .i64 otick) := hx.cell 17
  have x5 : V1.cell? ⟨W.heap.size, 5, none⟩ = some (.int .i64 kind) := hx.cell 5
  have x6 : V1.cell? ⟨W.heap.size, 6, none⟩ = some (.int .i64 opens) := hx.cell 6
  have x7 : V1.cell? ⟨W.heap.size, 7, none⟩ = some (.int .i64 closes) := hx.cell 7
  have x8 : V1.cell? ⟨W.heap.size, 8, none⟩ = some (.int .i64 start) := hx.cell 8
  have x9 : V1.cell? ⟨W.heap.size, 9, none⟩ = some (.int .i64 step) := hx.cell 9
  have x10 : V1.cell? ⟨W.heap.size, 10, none⟩ = some (.int .i64 extend) := hx.cell 10
  have x11 : V1.cell? ⟨W.heap.size, 11, none⟩ = some (.int .i64 last) := hx.cell 11
  have x12 : V1.cell? ⟨W.heap.size, 12, none⟩ = some (.int .i64 floor) := hx.cell 12
  have x13 : V1.cell? ⟨W.heap.size, 13, none⟩ = some (.int .i64 fall) := hx.cell 13
  have x14 : V1.cell? ⟨W.heap.size, 14, none⟩ = some (.int .i64 count) := hx.cell 14
  have x15 : V1.cell? ⟨W.heap.size, 15, none⟩ = some (.int .i64 rule) := hx.cell 15
  clear hm hx hlk
  refine wp_loop_rounds 2 ?_
  rw [rounds_succ]
  go_wp2_with fail
  rw [rounds_succ]
  cases bn with
  | false =>
    have HE := Lib.hid (show z = false from HZ.out.trans (by simp))
    go_wp2_with fail
    go_ret
    exact ⟨by rw [HE.out]; rfl, HB.out⟩
  | true =>
    cases hc : (ocoins == 0) with
    | false =>
      have HE := Lib.hid (show z = false from HZ.out.trans (by simp [hc]))
      go_wp2_with fail
      go_ret
      exact ⟨by rw [HE.out]; rfl, HB.out⟩
    | true =>
      cases hb : (obidder == 0) with
      | false =>
        have HE := Lib.hid (show z = false from HZ.out.trans (by simp [hc, hb]))
        go_wp2_with fail
        go_ret
        exact ⟨by rw [HE.out]; rfl, HB.out⟩
      | true =>
        cases hl : (olot == 0) with
        | false =>
          have HE := Lib.hid (show z = false from HZ.out.trans (by simp [hc, hb, hl]))
          go_wp2_with fail
          go_ret
          exact ⟨by rw [HE.out]; rfl, HB.out⟩
        | true =>
          cases bp with
          | false =>
            cases ho : ((no : Int) == 0) with
            | false =>
              have HE := Lib.hid (show z = false from HZ.out.trans (by simp [hc, hb, hl, ho]))
              go_wp2_with fail
              go_ret
              exact ⟨by rw [HE.out]; rfl, HB.out⟩
            | true =>
              cases ht : (otick == 0) with
              | false =>
                have HE := Lib.hid (show z = false from HZ.out.trans (by simp [hc, hb, hl, ho, ht]))
                go_wp2_with fail
                go_ret
                exact ⟨by rw [HE.out]; rfl, HB.out⟩
              | true =>
                have HE := Lib.hid (show z = true from HZ.out.trans (by simp [hc, hb, hl, ho, ht]))
                go_wp2_with fail
                go_ret
                exact ⟨by rw [HE.out]; rfl, HB.out⟩
          | true =>
            cases ho : ((no : Int) == 0) with
            | false =>
              have HE := Lib.hid (show z = false from HZ.out.trans (by simp [hc, hb, hl, ho]))
              go_wp2_with fail
              go_ret
              exact ⟨by rw [HE.out]; rfl, HB.out⟩
            | true =>
              cases ht : (otick == 0) with
              | false =>
                have HE := Lib.hid (show z = false from HZ.out.trans (by simp [hc, hb, hl, ho, ht]))
                go_wp2_with fail
                go_ret
                exact ⟨by rw [HE.out]; rfl, HB.out⟩
              | true =>
                have HE := Lib.hid (show z = true from HZ.out.trans (by simp [hc, hb, hl, ho, ht]))
                go_wp2_with fail
                go_ret
                exact ⟨by rw [HE.out]; rfl, HB.out⟩
set_option maxRecDepth 100000 in
set_option maxHeartbeats 8000000 in
theorem rzero_6 (o : OrderR) (A : Option Addr) (c : Nat) (hk : o.kind = 6) (W : World) : Calls Tryz.prog 93 #[o.agg (.slice A o.offers.length c), .string ⟨#[116]⟩] W fun e W' => e = .returned (.bool (decide (o.name.size = 0) && (o.coins == 0) && (o.bidder == 0) && (o.lot == 0) && decide (o.put = zeroLot) && ((o.offers.length : Int) == 0))) ∧ Below W.heap.size W W' := by
  obtain ⟨z, hz⟩ : ∃ z, z = (decide (o.name.size = 0) && (o.coins == 0) && (o.bidder == 0) && (o.lot == 0) && decide (o.put = zeroLot) && ((o.offers.length : Int) == 0)) := ⟨_, rfl⟩
  rw [← hz]
  obtain ⟨okind, oname, ocoins, obidder, olot, put, ooff, otick⟩ := o
  simp only at hk hz
  obtain ⟨no, hno⟩ : ∃ n, n = ooff.length := ⟨_, rfl⟩
  obtain ⟨bp, hbp⟩ : ∃ b, b = decide (put = zeroLot) := ⟨_, rfl⟩
  have heq := fun W => eql_lot W put zeroLot
  rw [← hbp] at heq
  obtain ⟨bn, hbn⟩ : ∃ b, b = decide (oname.size = 0) := ⟨_, rfl⟩
  have hst := fun W => strz oname W
  have hst2 := isE oname
  rw [← hbn] at hst hst2
  obtain ⟨kind, opens, closes, start, step, extend, last, floor, fall, count, rule⟩ := put
  simp only [OrderR.agg, OrderR.cells, LotR.agg, LotR.cells, zeroLot, List.cons_append, List.nil_append] at heq ⊢
  rw [← hno]
  rw [← hbp, ← hbn, ← hno] at hz
  subst hk
  have HZ := Lib.hid hz
  clear hz hbp hbn hno
  obtain ⟨named, hnamed⟩ : ∃ s : ByteArray, s = ⟨#[116]⟩ := ⟨_, rfl⟩
  rw [← hnamed]
  have HNA := Lib.hid hnamed
  have hsz : named.size = 1 := by rw [hnamed]; rfl
  have HSZ := Lib.hid hsz
  clear hnamed
  have hmm := @run_makeMap Tryz.prog
  obtain ⟨W1, hW1⟩ : ∃ W1, W1 = (W.alloc (.cells #[.int .i64 6, .string oname, .int .i64 ocoins, .int .i64 obidder, .int .i64 olot, .int .i64 kind, .int .i64 opens, .int .i64 closes, .int .i64 start, .int .i64 step, .int .i64 extend, .int .i64 last, .int .i64 floor, .int .i64 fall, .int .i64 count, .int .i64 rule, .slice A no c, .int .i64 otick] 36)).alloc (.map #[] 0) := ⟨_, rfl⟩
  have HX1 := Lib.hid (show Ac.Blk W1 W.heap.size 36 #[.int .i64 6, .string oname, .int .i64 ocoins, .int .i64 obidder, .int .i64 olot, .int .i64 kind, .int .i64 opens, .int .i64 closes, .int .i64 start, .int .i64 step, .int .i64 extend, .int .i64 last, .int .i64 floor, .int .i64 fall, .int .i64 count, .int .i64 rule, .slice A no c, .int .i64 otick] by rw [hW1]; exact (Blk.new W _ _).alloc _)
  have HM1 := Lib.hid (show MapK (.int .u8) encU W1 (W.heap.size + 1) (hasF named 0) by
    rw [hW1, show hasF named 0 = fun _ => none from by funext x; simp [hasF]]
    have := MapK.made (d := .int .u8) (enc := encU) (W.alloc (.cells #[.int .i64 6, .string oname, .int .i64 ocoins, .int .i64 obidder, .int .i64 olot, .int .i64 kind, .int .i64 opens, .int .i64 closes, .int .i64 start, .int .i64 step, .int .i64 extend, .int .i64 last, .int .i64 floor, .int .i64 fall, .int .i64 count, .int .i64 rule, .slice A no c, .int .i64 otick] 36))
    rwa [World.size_alloc] at this)
  have HB1 := Lib.hid (show Below W.heap.size W W1 by rw [hW1]; exact ((Below.refl _ _).alloc (Nat.le_refl _) _).alloc (by simp) _)
  clear hsz
  go_enter Tryz.func93, Tryz.ntmps93
  dsimp only [List.append]
  go_wp2_with fail
  rw [← hW1]
  clear hW1 hmm
  have X0 := HX1
  have M0 := HM1
  have B0 := HB1
  have hks0 : 0 < named.size := by rw [HSZ.out]; decide
  have es0 : (0 : Int) < (named.size : Int) := by rw [HSZ.out]; decide
  obtain ⟨V1, hput0, hmV, hcV⟩ := M0.out.put (P := Tryz.prog) (mty := 227) (kt := 5) (et := 3) encU_key encU_inj Tryz.underlying227 Tryz.underlying5 (byteAt named 0) 1
  rw [hasF_succ] at hmV
  unfold encU at hput0
  rw [← byteAt_eq named 0 hks0] at hput0
  have M1 := Lib.hid hmV
  have X1 := Lib.hid (X0.out.chg hcV (by omega))
  have B1 := Lib.hid (B0.out.trans (hcV.below B0.out.size fun b hb e => by omega))
  clear hmV hcV
  have en : ¬ (1 : Int) < (named.size : Int) := by rw [HSZ.out]; decide
  have hm := M1.out
  have hx := X1.out
  have HB := B1
  have hlk := fun key => (hm.look (P := Tryz.prog) (mty := 227) (kt := 5) (et := 3) encU_key encU_inj Tryz.underlying227 Tryz.underlying5 (Tryz.zeroValue3 _) key).2
  have lk110 : (Instr.lookup 227 (.map (some (W.heap.size + 1))) (.int .u8 110) false).run Tryz.prog V1 = .ok (.int .i64 0) V1 := by
    have := hlk 110
    rwa [show (hasF named 1 110).getD 0 = (0 : Int) from by rw [HNA.out]; decide] at this
  have lk99 : (Instr.lookup 227 (.map (some (W.heap.size + 1))) (.int .u8 99) false).run Tryz.prog V1 = .ok (.int .i64 0) V1 := by
    have := hlk 99
    rwa [show (hasF named 1 99).getD 0 = (0 : Int) from by rw [HNA.out]; decide] at this
  have lk98 : (Instr.lookup 227 (.map (some (W.heap.size + 1))) (.int .u8 98) false).run Tryz.prog V1 = .ok (.int .i64 0) V1 := by
    have := hlk 98
    rwa [show (hasF named 1 98).getD 0 = (0 : Int) from by rw [HNA.out]; decide] at this
  have lk108 : (Instr.lookup 227 (.map (some (W.heap.size + 1))) (.int .u8 108) false).run Tryz.prog V1 = .ok (.int .i64 0) V1 := by
    have := hlk 108
    rwa [show (hasF named 1 108).getD 0 = (0 : Int) from by rw [HNA.out]; decide] at this
  have lk112 : (Instr.lookup 227 (.map (some (W.heap.size + 1))) (.int .u8 112) false).run Tryz.prog V1 = .ok (.int .i64 0) V1 := by
    have := hlk 112
    rwa [show (hasF named 1 112).getD 0 = (0 : Int) from by rw [HNA.out]; decide] at this
  have lk111 : (Instr.lookup 227 (.map (some (W.heap.size + 1))) (.int .u8 111) false).run Tryz.prog V1 = .ok (.int .i64 0) V1 := by
    have := hlk 111
    rwa [show (hasF named 1 111).getD 0 = (0 : Int) from by rw [HNA.out]; decide] at this
  have lk116 : (Instr.lookup 227 (.map (some (W.heap.size + 1))) (.int .u8 116) false).run Tryz.prog V1 = .ok (.int .i64 1) V1 := by
    have := hlk 116
    rwa [show (hasF named 1 116).getD 0 = (1 : Int) from by rw [HNA.out]; decide] at this
  have x1 : V1.cell? ⟨W.heap.size, 1, none⟩ = some (.string oname) := hx.cell 1
  have x2 : V1.cell? ⟨W.heap.size, 2, none⟩ = some (.int .i64 ocoins) := hx.cell 2
  have x3 : V1.cell? ⟨W.heap.size, 3, none⟩ = some (.int .i64 obidder) := hx.cell 3
  have x4 : V1.cell? ⟨W.heap.size, 4, none⟩ = some (.int .i64 olot) := hx.cell 4
  have x16 : V1.cell? ⟨W.heap.size, 16, none⟩ = some (.slice A no c) := hx.cell 16
  have x17 : V1.cell? ⟨W.heap.size, 17, none⟩ = some (.int .i64 otick) := hx.cell 17
  have x5 : V1.cell? ⟨W.heap.size, 5, none⟩ = some (.int .i64 kind) := hx.cell 5
  have x6 : V1.cell? ⟨W.heap.size, 6, none⟩ = some (.int .i64 opens) := hx.cell 6
  have x7 : V1.cell? ⟨W.heap.size, 7, none⟩ = some (.int .i64 closes) := hx.cell 7
  have x8 : V1.cell? ⟨W.heap.size, 8, none⟩ = some (.int .i64 start) := hx.cell 8
  have x9 : V1.cell? ⟨W.heap.size, 9, none⟩ = some (.int .i64 step) := hx.cell 9
  have x10 : V1.cell? ⟨W.heap.size, 10, none⟩ = some (.int .i64 extend) := hx.cell 10
  have x11 : V1.cell? ⟨W.heap.size, 11, none⟩ = some (.int .i64 last) := hx.cell 11
  have x12 : V1.cell? ⟨W.heap.size, 12, none⟩ = some (.int .i64 floor) := hx.cell 12
  have x13 : V1.cell? ⟨W.heap.size, 13, none⟩ = some (.int .i64 fall) := hx.cell 13
  have x14 : V1.cell? ⟨W.heap.size, 14, none⟩ = some (.int .i64 count) := hx.cell 14
  have x15 : V1.cell? ⟨W.heap.size, 15, none⟩ = some (.int .i64 rule) := hx.cell 15
  clear hm hx hlk
  refine wp_loop_rounds 2 ?_
  rw [rounds_succ]
  go_wp2_with fail
  rw [rounds_succ]
  cases bn with
  | false =>
    have HE := Lib.hid (show z = false from HZ.out.trans (by simp))
    go_wp2_with fail
    go_ret
    exact ⟨by rw [HE.out]; rfl, HB.out⟩
  | true =>
    cases hc : (ocoins == 0) with
    | false =>
      have HE := Lib.hid (show z = false from HZ.out.trans (by simp [hc]))
      go_wp2_with fail
      go_ret
      exact ⟨by rw [HE.out]; rfl, HB.out⟩
    | true =>
      cases hb : (obidder == 0) with
      | false =>
        have HE := Lib.hid (show z = false from HZ.out.trans (by simp [hc, hb]))
        go_wp2_with fail
        go_ret
        exact ⟨by rw [HE.out]; rfl, HB.out⟩
      | true =>
        cases hl : (olot == 0) with
        | false =>
          have HE := Lib.hid (show z = false from HZ.out.trans (by simp [hc, hb, hl]))
          go_wp2_with fail
          go_ret
          exact ⟨by rw [HE.out]; rfl, HB.out⟩
        | true =>
          cases bp with
          | false =>
            have HE := Lib.hid (show z = false from HZ.out.trans (by simp [hc, hb, hl]))
            go_wp2_with fail
            go_ret
            exact ⟨by rw [HE.out]; rfl, HB.out⟩
          | true =>
            cases ho : ((no : Int) == 0) with
            | false =>
              have HE := Lib.hid (show z = false from HZ.out.trans (by simp [hc, hb, hl, ho]))
              go_wp2_with fail
              go_ret
              exact ⟨by rw [HE.out]; rfl, HB.out⟩
            | true =>
              cases ht : (otick == 0) with
              | false =>
                have HE := Lib.hid (show z = true from HZ.out.trans (by simp [hc, hb, hl, ho, ht]))
                go_wp2_with fail
                go_ret
                exact ⟨by rw [HE.out]; rfl, HB.out⟩
              | true =>
                have HE := Lib.hid (show z = true from HZ.out.trans (by simp [hc, hb, hl, ho, ht]))
                go_wp2_with fail
                go_ret
                exact ⟨by rw [HE.out]; rfl, HB.out⟩
end Go.Proofs.YthoaidfpgijbfaaGreat.Ho

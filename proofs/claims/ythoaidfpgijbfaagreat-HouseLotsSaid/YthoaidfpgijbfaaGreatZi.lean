import Derived.Test.YthoaidfpgijbfaaGreatZh
namespace Go.Proofs.YthoaidfpgijbfaaGreat.Ho
open Go.RowKit
open Go.Proofs.YthoaidfpgijbfaaGreat.Vb Go.Proofs.YthoaidfpgijbfaaGreat.Ac
theorem et_lots : ElemT Tryz.prog 88 135 1 8 := elemT_of Tryz.underlying88 (by omega) (z := .pointer none) (by kernel_rfl) rfl
theorem lotOk_kind {l : LotR} (h : lotOk l = true) : ∃ t, kindV l.kind = .iface t (.agg #[]) := by
  unfold lotOk mayB at h
  unfold kindV
  by_cases h1 : l.kind = 1
  · rw [if_pos h1]; exact ⟨_, rfl⟩
  · by_cases h2 : l.kind = 2
    · rw [if_neg h1, if_pos h2]; exact ⟨_, rfl⟩
    · by_cases h3 : l.kind = 3
      · rw [if_neg h1, if_neg h2, if_pos h3]; exact ⟨_, rfl⟩
      · by_cases h4 : l.kind = 4
        · rw [if_neg h1, if_neg h2, if_neg h3, if_pos h4]; exact ⟨_, rfl⟩
        · by_cases h5 : l.kind = 5
          · rw [if_neg h1, if_neg h2, if_neg h3, if_neg h4, if_pos h5]; exact ⟨_, rfl⟩
          · simp [h1, h2, h3, h4, h5] at h
theorem ptrs_snoc (f : Nat → Nat) (n : Nat) : ptrs f (n + 1) = ptrs f n ++ [.pointer (some ⟨f n, 0, none⟩)] := by simp [ptrs, List.range_succ]
theorem ptrs_congr {f g : Nat → Nat} {n : Nat} (h : ∀ i, i < n → f i = g i) : ptrs f n = ptrs g n := by
  unfold ptrs
  refine List.map_congr_left fun i hi => ?_
  rw [h i (List.mem_range.1 hi)]
theorem put_end {W U V : World} {T : Nat → Part} {h pn pc K gl nl : Nat} {va vl vb vs v' : Value} {H : House} {P : LotR} {bl : Nat → Nat} (H0 : HouseAt W T h pn pc va vl vb vs K H) (hls : ∀ n l, H.lots[n]? = some l → LotAt W T n (bl n) l) (hnl : nl = H.lots.length) (hgl : W.heap.size ≤ gl) (hgU : gl < U.heap.size)
    (hrow : RowAt U (fun b => (T b = .lots ∧ b < W.heap.size) ∨ (W.heap.size ≤ b ∧ b ≠ gl)) 135 1 v' (nl + 1) (ptrs bl nl ++ [.pointer (some ⟨gl, 0, none⟩)])) (hcU : Chg (fun b => T b = .hs ∨ T b = .lots) W U)
    (hbU : Blk U h 92 #[.pointer (some ⟨pn, 0, none⟩), va, v', .pointer (some ⟨pc, 0, none⟩), vb, vs]) (hlU : Blk U gl 137 ((newLot P).cells (.slice none 0 0)).toArray) (hcV : Chg (fun b => T b = .cal ∧ b < W.heap.size) U V)
    (hcal : CalAt V (fun b => (T b = .cal ∧ b < W.heap.size) ∨ U.heap.size ≤ b) pc H.now (upd H.due nl (some P.closes))) : ∃ T', HouseIn V T' h K (putH H P) ∧ Moves W T V T' := by
  obtain ⟨T', hT'⟩ : ∃ T' : Nat → Part, T' = fun b => if b < W.heap.size then T b else if b = gl then .lot nl else if b < U.heap.size then .lots else if b < V.heap.size then .cal else .no := ⟨_, rfl⟩
  have hT : ∀ b, b < W.heap.size → T' b = T b := fun b hb => by rw [hT']; simp [hb]
  have hsU := hcU.size
  have hsV := hcV.size
  have hcWV : Chg (fun b => T b = .hs ∨ T b = .lots ∨ T b = .cal) W V := (hcU.mono fun b _ e => e.elim .inl fun e => .inr (.inl e)).step hcV fun b _ e => .inr (.inr e.1)
  have hcX : Chg (fun b => T b = .cal) U V := hcV.mono fun b _ e => e.1
  refine ⟨T', ⟨pn, pc, va, v', vb, vs, ?_⟩, hcWV.mono fun b _ e => ?_, hT⟩
  · refine ⟨(hT h H0.blk.lt).trans H0.top, hbU.chg hcX (fun e => by rw [H0.top] at e; cases e), H0.names.step hcWV (fun b e => by rintro (k | k | k) <;> rw [e] at k <;> cases k) hT, H0.accs.step hcWV (fun b e => ?_) hT, ?_, ?_, H0.book.step hcWV (fun b e => ?_) hT, H0.sales.step hcWV (fun b e => by rintro (k | k | k) <;> rw [e] at k <;> cases k) hT, fun b hb => ?_⟩
    · rcases e with e | ⟨i, e⟩ <;> rintro (k | k | k) <;> rw [e] at k <;> cases k
    · refine ⟨fun i => if i = nl then gl else bl i, ?_, fun n l hn => ?_⟩
      · have h1 : (putH H P).lots.length = nl + 1 := by simp [putH, hnl]
        rw [h1, ptrs_snoc]
        have h2 : ptrs (fun i => if i = nl then gl else bl i) nl = ptrs bl nl := ptrs_congr fun i hi => by simp [show ¬ i = nl by omega]
        rw [h2]
        simp only [if_true]
        have h3 := hrow.chgB hcX (fun b hb e => by
          rcases hrow.blk b hb with k | k
          · rw [k.1] at e; cases e
          · have := H0.out b k.1; rw [this] at e; cases e)
        refine ⟨h3.own, fun b hb => ?_⟩
        have hlt := hrow.lt hb
        rcases hrow.blk b hb with k | k
        · exact (hT b k.2).trans k.1
        · rw [hT']; simp only [show ¬ b < W.heap.size by omega, if_false, k.2, hlt, if_true]
      · by_cases e : n = nl
        · subst e
          have hl : l = newLot P := by
            have : (putH H P).lots[n]? = some (newLot P) := by simp [putH, hnl]
            rw [this] at hn; cases hn; rfl
          subst hl
          simp only [if_true]
          refine ⟨.slice none 0 0, ?_, hlU.chg hcX (fun e => by rw [H0.out gl hgl] at e; cases e), ⟨fun _ => .slice none 0 0, RowAt.nil, fun k l hk => by simp [newLot] at hk⟩⟩
          rw [hT']; simp [show ¬ gl < W.heap.size by omega]
        · simp only [if_neg e]
          have hn' : H.lots[n]? = some l := by
            have h1 := (List.getElem?_eq_some_iff.1 hn).1
            simp only [putH, List.length_append, List.length_singleton] at h1
            simp only [putH] at hn
            rwa [List.getElem?_append_left (by omega)] at hn
          exact (hls n l hn').step hcWV (fun b e => by rcases e with e | e <;> rintro (k | k | k) <;> rw [e] at k <;> cases k) hT
    · show CalAt V _ pc H.now (upd H.due H.lots.length (some P.closes))
      rw [← hnl]
      refine hcal.mono fun b hb hr => ?_
      rcases hr with k | k
      · exact (hT b k.2).trans k.1
      · rw [hT']; simp [show ¬ b < W.heap.size by omega, show ¬ b = gl by omega, show ¬ b < U.heap.size by omega, hb]
    · rcases e with e | e <;> rintro (k | k | k) <;> rw [e] at k <;> cases k
    · rw [hT']; simp [show ¬ b < W.heap.size by omega, show ¬ b = gl by omega, show ¬ b < U.heap.size by omega, show ¬ b < V.heap.size by omega]
  · rcases e with e | e | e <;> exact ⟨by rw [e]; simp, by rw [e]; simp⟩
set_option maxRecDepth 100000 in
set_option maxHeartbeats 8000000 in
theorem hput_ok {W : World} {T : Nat → Part} {h pn pc K : Nat} {va vl vb vs : Value} {H : House} (hH : HouseAt W T h pn pc va vl vb vs K H) (hlen : H.lots.length ≤ 4096) (o : OrderR) (vo : Value) (he : putE H o.put = 0) :
    Calls Tryz.prog 34 #[.pointer (some ⟨h, 0, none⟩), o.agg vo] W fun e W' => e = .returned (.tuple #[.int .i64 H.lots.length, .int .i64 0]) ∧ ∃ T', HouseIn W' T' h K (putH H o.put) ∧ Moves W T W' T' := by
  have hok : lotOk o.put = true := by
    cases h1 : lotOk o.put with
    | true => rfl
    | false => unfold putE at he; rw [if_pos h1] at he; cases he
  unfold putE at he
  rw [if_neg (by rw [hok]; simp)] at he
  have h1 : ¬ o.put.opens < H.now := fun h1 => by rw [if_pos h1] at he; cases he
  rw [if_neg h1] at he
  have h2 : ¬ H.lots.length = 4096 := fun h2 => by rw [if_pos h2] at he; cases he
  have hoc : coinB o.put.closes = true ∧ o.put.opens < o.put.closes := by
    unfold lotOk at hok
    simp only [Bool.and_eq_true, decide_eq_true_eq] at hok
    exact ⟨hok.1.1.2, hok.1.2⟩
  obtain ⟨W1, hW1⟩ : ∃ W1, W1 = W.alloc (.cells (o.cells vo).toArray 36) := ⟨_, rfl⟩
  have hb1 : Below W.heap.size W W1 := by rw [hW1]; exact (Below.refl _ _).alloc (Nat.le_refl _) _
  have hx : Blk W1 W.heap.size 36 (o.cells vo).toArray := by rw [hW1]; exact Blk.new _ _ _
  obtain ⟨A, c, hvl⟩ := hH.lots.form
  have hck := fun w => hcheck_any o.put w
  obtain ⟨tk, hkind⟩ := lotOk_kind hok
  obtain ⟨bl, hbl, hls⟩ := hH.lots
  have HBL := Lib.hid hbl
  have HLS := Lib.hid hls
  rw [hok] at hck
  simp only [if_true] at hck
  have H0 := Lib.hid hH
  have H1 := Lib.hid (hH.grow hb1)
  have HB1 := Lib.hid hb1
  have HX := Lib.hid hx
  have HVL := Lib.hid hvl
  have HCK := Lib.hid hck
  have HOC := Lib.hid hoc
  have HLN := Lib.hid (show H.lots.length < 4096 by omega)
  obtain ⟨okind, oname, ocoins, obidder, olot, ⟨kind, opens, closes, start, step, extend, last, floor, fall, count, rule⟩, ooff, otick⟩ := o
  simp only at HCK HOC h1 hkind
  have HKD := Lib.hid hkind
  obtain ⟨P, hP⟩ : ∃ P : LotR, P = ⟨kind, opens, closes, start, step, extend, last, floor, fall, count, rule⟩ := ⟨_, rfl⟩
  have HP := Lib.hid hP
  simp only [OrderR.agg, OrderR.cells, LotR.cells, List.cons_append, List.nil_append] at hW1 HX ⊢
  rw [← hP]
  have NOW := Lib.hid (show ¬ opens < H.now from h1)
  clear hb1 hx hck hvl he hok h1 h2 hoc hlen hP hkind hbl hls
  go_enter Tryz.func34, Tryz.ntmps34
  go_wp2_with fail
  rw [← hW1]
  refine (HCK.out _).mono ?_
  rintro e W2 ⟨rfl, hb2⟩
  have HB2 := Lib.hid (HB1.out.trans (hb2.mono HB1.out.size))
  have H2 := Lib.hid (H1.out.grow hb2)
  have HX2 := Lib.hid (HX.out.grow hb2)
  clear hb2 hW1
  have x6 : W2.cell? ⟨W.heap.size, 6, none⟩ = some (.int .i64 opens) := HX2.out.cell 6
  have xl := HX2.out.lt
  have c3 := H2.out.cells.2.2.2.1
  have c2 : W2.cell? ⟨h, 2, none⟩ = some (.slice A H.lots.length c) := H2.out.cells.2.2.1.trans (by rw [HVL.out])
  have hl := H2.out.blk.lt
  obtain ⟨now, hnow⟩ : ∃ n, n = H.now := ⟨_, rfl⟩
  have HCAL := Lib.hid (show CalAt W2 (fun b => T b = .cal) pc now H.due by rw [hnow]; exact H2.out.cal)
  have h1 : ¬ opens < now := by have := NOW.out; omega
  obtain ⟨nl, hnl⟩ : ∃ n, n = H.lots.length := ⟨_, rfl⟩
  have h2 : ((nl : Int) == 4096) = false := by have := HLN.out; rw [← hnl] at this; simp; omega
  rw [← hnl] at c2
  have HN := Lib.hid hnl
  have HNOW := Lib.hid hnow
  clear hnow hnl hH
  go_wp2_with fail
  refine wp_region_F (Below W2.heap.size W2) [] (by kernel_rfl) ((Below.refl _ _).drew) (fun hS => ?_)
  refine wpAnyF_take (i := 0) (oi := ⟨some 13, .fieldAddr 36 (.tmp 3) 5, 0, "house.go:144", #[], none⟩) (v := ?_) rfl (by kernel_rfl) (by kernel_rfl) (by kernel_rfl) (by kernel_rfl) (fun _ _ _ h => h) (Or.inl ⟨by rfl, ?_⟩) hS ?_
  rotate_left
  · intro w' _; go_simp; try with_reducible rfl
  try simp only [Act.put, pb, pz, ps]
  refine wpAnyF_take (i := 1) (oi := ⟨some 14, .fieldAddr 33 (.tmp 13) 1, 0, "house.go:144", #[⟨0, .data⟩], none⟩) (v := ?_) rfl (by kernel_rfl) (by kernel_rfl) (by kernel_rfl) (by kernel_rfl) (fun _ _ _ h => h) (Or.inl ⟨by rfl, ?_⟩) hS ?_
  rotate_left
  · intro w' _; go_simp; try with_reducible rfl
  try simp only [Act.put, pb, pz, ps]
  refine wpAnyF_take (i := 2) (oi := ⟨some 15, .load 2 (.tmp 14), 2, "house.go:144", #[⟨1, .data⟩], none⟩) (v := ?_) rfl (by kernel_rfl) (by kernel_rfl) (by kernel_rfl) (by kernel_rfl) (fun _ _ _ h => h) (Or.inl ⟨by rfl, ?_⟩) hS ?_
  rotate_left
  · intro w' hSw; have q0 := (hSw.cell (p := ⟨W.heap.size, 6, none⟩) xl).trans x6; have q1 := (hSw.cell (p := ⟨h, 3, none⟩) hl).trans c3; go_simp; try with_reducible rfl
  try simp only [Act.put, pb, pz, ps]
  refine wpAnyF_take (i := 3) (oi := ⟨some 16, .move (.tmp 0), 23, "house.go:144", #[], none⟩) (v := ?_) rfl (by kernel_rfl) (by kernel_rfl) (by kernel_rfl) (by kernel_rfl) (fun _ _ _ h => h) (Or.inl ⟨by rfl, ?_⟩) hS ?_
  rotate_left
  · intro w' _; go_simp; try with_reducible rfl
  try simp only [Act.put, pb, pz, ps]
  refine wpAnyF_take (i := 4) (oi := ⟨some 17, .nilCheck (.tmp 16), 0, "house.go:144", #[⟨3, .data⟩], none⟩) (v := ?_) rfl (by kernel_rfl) (by kernel_rfl) (by kernel_rfl) (by kernel_rfl) (fun _ _ _ h => h) (Or.inl ⟨by rfl, ?_⟩) hS ?_
  rotate_left
  · intro w' _; go_simp; try with_reducible rfl
  try simp only [Act.put, pb, pz, ps]
  refine wpAnyF_take (i := 5) (oi := ⟨some 18, .fieldAddr 92 (.tmp 17) 0, 0, "house.go:144", #[⟨4, .data⟩], none⟩) (v := ?_) rfl (by kernel_rfl) (by kernel_rfl) (by kernel_rfl) (by kernel_rfl) (fun _ _ _ h => h) (Or.inl ⟨by rfl, ?_⟩) hS ?_
  rotate_left
  · intro w' _; go_simp; try with_reducible rfl
  try simp only [Act.put, pb, pz, ps]
  refine wpAnyF_take (i := 6) (oi := ⟨some 19, .fieldAddr 90 (.tmp 18) 3, 0, "house.go:144", #[⟨5, .data⟩], none⟩) (v := ?_) rfl (by kernel_rfl) (by kernel_rfl) (by kernel_rfl) (by kernel_rfl) (fun _ _ _ h => h) (Or.inl ⟨by rfl, ?_⟩) hS ?_
  rotate_left
  · intro w' _; go_simp; try with_reducible rfl
  try simp only [Act.put, pb, pz, ps]
  refine wpAnyF_take (i := 7) (oi := ⟨some 20, .load 84 (.tmp 19), 84, "house.go:144", #[⟨6, .data⟩], none⟩) (v := ?_) rfl (by kernel_rfl) (by kernel_rfl) (by kernel_rfl) (by kernel_rfl) (fun _ _ _ h => h) (Or.inl ⟨by rfl, ?_⟩) hS ?_
  rotate_left
  · intro w' hSw; have q0 := (hSw.cell (p := ⟨W.heap.size, 6, none⟩) xl).trans x6; have q1 := (hSw.cell (p := ⟨h, 3, none⟩) hl).trans c3; go_simp; try with_reducible rfl
  try simp only [Act.put, pb, pz, ps]
  refine wpAnyF_ready (rs := [8]) (by kernel_rfl) (by simp) ?_
  refine AllReadyF.cons (o := ⟨some 21, .call { callee := .value (.func 58), args := #[.tmp 20], argTypes := #[84] }, 2, "house.go:144", #[⟨7, .data⟩], none⟩) rfl (by rfl) (fun K hK => ?_) ?_
  · go_simp
    refine (tnow_any (W := W2.drew) (HCAL.out.grow (Below.refl _ _).drew)).mono ?_
    rintro e W7 ⟨rfl, rfl⟩
    refine hK.out _ _ ?_ (fun hS => ?_)
    · exact hS
    clear hK K
    try simp only [Act.put, pb, pz, ps]
    refine wpAnyF_take (i := 9) (oi := ⟨some 22, .binOp .lss 2 (.tmp 15) (.tmp 21) 2, 4, "house.go:144", #[⟨2, .data⟩, ⟨8, .data⟩], none⟩) (v := ?_) rfl (by kernel_rfl) (by kernel_rfl) (by kernel_rfl) (by kernel_rfl) (fun _ _ _ h => h) (Or.inl ⟨by rfl, ?_⟩) hS ?_
    rotate_left
    · intro w' _; go_simp; try with_reducible rfl
    try simp only [Act.put, pb, pz, ps]
    refine wpAnyF_take (i := 10) (oi := ⟨some 12, .assign (.tmp 22), 4, "house.go:144", #[⟨9, .data⟩, ⟨8, .chain⟩], none⟩) (v := ?_) rfl (by kernel_rfl) (by kernel_rfl) (by kernel_rfl) (by kernel_rfl) (fun _ _ _ h => h) (Or.inl ⟨by rfl, ?_⟩) hS ?_
    rotate_left
    · intro w' _; go_simp; try with_reducible rfl
    try simp only [Act.put, pb, pz, ps]
    refine wpAnyF_done (by kernel_rfl) ?_ _
    clear hS
    obtain ⟨W3, hW3⟩ : ∃ W3, W3 = W2.drew := ⟨_, rfl⟩
    rw [← hW3]
    have hb3 : Below W2.heap.size W2 W3 := by rw [hW3]; exact (Below.refl _ _).drew
    have HB3 := Lib.hid (HB2.out.trans (hb3.mono HB2.out.size))
    have H3 := Lib.hid (H2.out.grow hb3)
    have HX3 := Lib.hid (HX2.out.grow hb3)
    have y2 : W3.cell? ⟨h, 2, none⟩ = some (.slice A nl c) := by rw [hW3]; exact c2
    have hl3 : h < W3.heap.size := by rw [hW3]; exact hl
    have xl3 : W.heap.size < W3.heap.size := by rw [hW3]; exact xl
    clear c2 c3 x6 hl xl hW3 hb3
    go_wp2_with fail
    have y5 : W3.cell? ⟨W.heap.size, 5, none⟩ = some (.int .i64 kind) := HX3.out.cell 5
    have y6 : W3.cell? ⟨W.heap.size, 6, none⟩ = some (.int .i64 opens) := HX3.out.cell 6
    have y7 : W3.cell? ⟨W.heap.size, 7, none⟩ = some (.int .i64 closes) := HX3.out.cell 7
    have y8 : W3.cell? ⟨W.heap.size, 8, none⟩ = some (.int .i64 start) := HX3.out.cell 8
    have y9 : W3.cell? ⟨W.heap.size, 9, none⟩ = some (.int .i64 step) := HX3.out.cell 9
    have y10 : W3.cell? ⟨W.heap.size, 10, none⟩ = some (.int .i64 extend) := HX3.out.cell 10
    have y11 : W3.cell? ⟨W.heap.size, 11, none⟩ = some (.int .i64 last) := HX3.out.cell 11
    have y12 : W3.cell? ⟨W.heap.size, 12, none⟩ = some (.int .i64 floor) := HX3.out.cell 12
    have y13 : W3.cell? ⟨W.heap.size, 13, none⟩ = some (.int .i64 fall) := HX3.out.cell 13
    have y14 : W3.cell? ⟨W.heap.size, 14, none⟩ = some (.int .i64 count) := HX3.out.cell 14
    have y15 : W3.cell? ⟨W.heap.size, 15, none⟩ = some (.int .i64 rule) := HX3.out.cell 15
    have HROW := Lib.hid (show RowAt W3 (fun b => T b = .lots ∧ b < W.heap.size) 135 1 (.slice A nl c) nl (ptrs bl nl) from by
      have h0 := HBL.out
      rw [HVL.out, ← HN.out] at h0
      exact (h0.mono (R' := fun b => T b = .lots ∧ b < W.heap.size) fun b hb hr => ⟨hr, hb⟩).chg (Chg.of (fun _ => False) HB3.out) fun _ _ _ => id)
    have or1 : ¬ (Value.slice A nl c).ownBlock = some h := fun e => by have h3 := (HROW.out.blk h e).1; rw [H0.out.top] at h3; cases h3
    have ox1 : ¬ (Value.slice A nl c).ownBlock = some W.heap.size := fun e => by have h3 := (HROW.out.blk _ e).2; omega
    have HOR := Lib.hid or1
    refine wp_region_F (Chg (fun b => (Value.slice A nl c).ownBlock = some b) W3) [26] (by kernel_rfl) ((Chg.refl _ W3).grow (Below.refl _ _).drew) (fun hS => ?_)
    refine wpAnyF_take (i := 0) (oi := ⟨some 37, .move (.tmp 0), 23, "house.go:150", #[], none⟩) (v := ?_) rfl (by kernel_rfl) (by kernel_rfl) (by kernel_rfl) (by kernel_rfl) (fun _ _ _ h => h) (Or.inl ⟨by rfl, ?_⟩) hS ?_
    rotate_left
    · intro w' _; go_simp; try with_reducible rfl
    try simp only [Act.put, pb, pz, ps]
    refine wpAnyF_take (i := 1) (oi := ⟨some 38, .move (.tmp 0), 23, "house.go:150", #[], none⟩) (v := ?_) rfl (by kernel_rfl) (by kernel_rfl) (by kernel_rfl) (by kernel_rfl) (fun _ _ _ h => h) (Or.inl ⟨by rfl, ?_⟩) hS ?_
    rotate_left
    · intro w' _; go_simp; try with_reducible rfl
    try simp only [Act.put, pb, pz, ps]
    refine wpAnyF_take (i := 2) (oi := ⟨some 39, .nilCheck (.tmp 38), 0, "house.go:150", #[⟨1, .data⟩], none⟩) (v := ?_) rfl (by kernel_rfl) (by kernel_rfl) (by kernel_rfl) (by kernel_rfl) (fun _ _ _ h => h) (Or.inl ⟨by rfl, ?_⟩) hS ?_
    rotate_left
    · intro w' _; go_simp; try with_reducible rfl
    try simp only [Act.put, pb, pz, ps]
    refine wpAnyF_take (i := 3) (oi := ⟨some 40, .fieldAddr 92 (.tmp 39) 0, 0, "house.go:150", #[⟨2, .data⟩], none⟩) (v := ?_) rfl (by kernel_rfl) (by kernel_rfl) (by kernel_rfl) (by kernel_rfl) (fun _ _ _ h => h) (Or.inl ⟨by rfl, ?_⟩) hS ?_
    rotate_left
    · intro w' _; go_simp; try with_reducible rfl
    try simp only [Act.put, pb, pz, ps]
    refine wpAnyF_take (i := 4) (oi := ⟨some 41, .fieldAddr 90 (.tmp 40) 2, 0, "house.go:150", #[⟨3, .data⟩], none⟩) (v := ?_) rfl (by kernel_rfl) (by kernel_rfl) (by kernel_rfl) (by kernel_rfl) (fun _ _ _ h => h) (Or.inl ⟨by rfl, ?_⟩) hS ?_
    rotate_left
    · intro w' _; go_simp; try with_reducible rfl
    try simp only [Act.put, pb, pz, ps]
    refine wpAnyF_take (i := 5) (oi := ⟨some 42, .load 88 (.tmp 41), 88, "house.go:150", #[⟨4, .data⟩], none⟩) (v := ?_) rfl (by kernel_rfl) (by kernel_rfl) (by kernel_rfl) (by kernel_rfl) (fun _ _ _ h => h) (Or.inl ⟨by rfl, ?_⟩) hS ?_
    rotate_left
    · intro w' hSw; have q0 := (hSw.cell (p := ⟨h, 2, none⟩) hl3 or1).trans y2; have q5 := (hSw.cell (p := ⟨W.heap.size, 5, none⟩) xl3 ox1).trans y5; have q6 := (hSw.cell (p := ⟨W.heap.size, 6, none⟩) xl3 ox1).trans y6; have q7 := (hSw.cell (p := ⟨W.heap.size, 7, none⟩) xl3 ox1).trans y7; have q8 := (hSw.cell (p := ⟨W.heap.size, 8, none⟩) xl3 ox1).trans y8; have q9 := (hSw.cell (p := ⟨W.heap.size, 9, none⟩) xl3 ox1).trans y9; have q10 := (hSw.cell (p := ⟨W.heap.size, 10, none⟩) xl3 ox1).trans y10; have q11 := (hSw.cell (p := ⟨W.heap.size, 11, none⟩) xl3 ox1).trans y11; have q12 := (hSw.cell (p := ⟨W.heap.size, 12, none⟩) xl3 ox1).trans y12; have q13 := (hSw.cell (p := ⟨W.heap.size, 13, none⟩) xl3 ox1).trans y13; have q14 := (hSw.cell (p := ⟨W.heap.size, 14, none⟩) xl3 ox1).trans y14; have q15 := (hSw.cell (p := ⟨W.heap.size, 15, none⟩) xl3 ox1).trans y15; go_simp; try with_reducible rfl
    try simp only [Act.put, pb, pz, ps]
    refine wpAnyF_take (i := 6) (oi := ⟨some 43, .fieldAddr 36 (.tmp 3) 5, 0, "house.go:150", #[], none⟩) (v := ?_) rfl (by kernel_rfl) (by kernel_rfl) (by kernel_rfl) (by kernel_rfl) (fun _ _ _ h => h) (Or.inl ⟨by rfl, ?_⟩) hS ?_
    rotate_left
    · intro w' _; go_simp; try with_reducible rfl
    try simp only [Act.put, pb, pz, ps]
    refine wpAnyF_take (i := 7) (oi := ⟨some 44, .load 33 (.tmp 43), 33, "house.go:150", #[⟨6, .data⟩], none⟩) (v := ?_) rfl (by kernel_rfl) (by kernel_rfl) (by kernel_rfl) (by kernel_rfl) (fun _ _ _ h => h) (Or.inl ⟨by rfl, ?_⟩) hS ?_
    rotate_left
    · intro w' hSw; have q0 := (hSw.cell (p := ⟨h, 2, none⟩) hl3 or1).trans y2; have q5 := (hSw.cell (p := ⟨W.heap.size, 5, none⟩) xl3 ox1).trans y5; have q6 := (hSw.cell (p := ⟨W.heap.size, 6, none⟩) xl3 ox1).trans y6; have q7 := (hSw.cell (p := ⟨W.heap.size, 7, none⟩) xl3 ox1).trans y7; have q8 := (hSw.cell (p := ⟨W.heap.size, 8, none⟩) xl3 ox1).trans y8; have q9 := (hSw.cell (p := ⟨W.heap.size, 9, none⟩) xl3 ox1).trans y9; have q10 := (hSw.cell (p := ⟨W.heap.size, 10, none⟩) xl3 ox1).trans y10; have q11 := (hSw.cell (p := ⟨W.heap.size, 11, none⟩) xl3 ox1).trans y11; have q12 := (hSw.cell (p := ⟨W.heap.size, 12, none⟩) xl3 ox1).trans y12; have q13 := (hSw.cell (p := ⟨W.heap.size, 13, none⟩) xl3 ox1).trans y13; have q14 := (hSw.cell (p := ⟨W.heap.size, 14, none⟩) xl3 ox1).trans y14; have q15 := (hSw.cell (p := ⟨W.heap.size, 15, none⟩) xl3 ox1).trans y15; go_simp; try with_reducible rfl
    try simp only [Act.put, pb, pz, ps]
    refine wpAnyF_take (i := 8) (oi := ⟨some 45, .fieldAddr 36 (.tmp 3) 5, 0, "house.go:150", #[], none⟩) (v := ?_) rfl (by kernel_rfl) (by kernel_rfl) (by kernel_rfl) (by kernel_rfl) (fun _ _ _ h => h) (Or.inl ⟨by rfl, ?_⟩) hS ?_
    rotate_left
    · intro w' _; go_simp; try with_reducible rfl
    try simp only [Act.put, pb, pz, ps]
    refine wpAnyF_take (i := 9) (oi := ⟨some 46, .fieldAddr 33 (.tmp 45) 0, 0, "house.go:150", #[⟨8, .data⟩], none⟩) (v := ?_) rfl (by kernel_rfl) (by kernel_rfl) (by kernel_rfl) (by kernel_rfl) (fun _ _ _ h => h) (Or.inl ⟨by rfl, ?_⟩) hS ?_
    rotate_left
    · intro w' _; go_simp; try with_reducible rfl
    try simp only [Act.put, pb, pz, ps]
    refine wpAnyF_take (i := 10) (oi := ⟨some 47, .load 30 (.tmp 46), 30, "house.go:150", #[⟨9, .data⟩], none⟩) (v := ?_) rfl (by kernel_rfl) (by kernel_rfl) (by kernel_rfl) (by kernel_rfl) (fun _ _ _ h => h) (Or.inl ⟨by rfl, ?_⟩) hS ?_
    rotate_left
    · intro w' hSw; have q0 := (hSw.cell (p := ⟨h, 2, none⟩) hl3 or1).trans y2; have q5 := (hSw.cell (p := ⟨W.heap.size, 5, none⟩) xl3 ox1).trans y5; have q6 := (hSw.cell (p := ⟨W.heap.size, 6, none⟩) xl3 ox1).trans y6; have q7 := (hSw.cell (p := ⟨W.heap.size, 7, none⟩) xl3 ox1).trans y7; have q8 := (hSw.cell (p := ⟨W.heap.size, 8, none⟩) xl3 ox1).trans y8; have q9 := (hSw.cell (p := ⟨W.heap.size, 9, none⟩) xl3 ox1).trans y9; have q10 := (hSw.cell (p := ⟨W.heap.size, 10, none⟩) xl3 ox1).trans y10; have q11 := (hSw.cell (p := ⟨W.heap.size, 11, none⟩) xl3 ox1).trans y11; have q12 := (hSw.cell (p := ⟨W.heap.size, 12, none⟩) xl3 ox1).trans y12; have q13 := (hSw.cell (p := ⟨W.heap.size, 13, none⟩) xl3 ox1).trans y13; have q14 := (hSw.cell (p := ⟨W.heap.size, 14, none⟩) xl3 ox1).trans y14; have q15 := (hSw.cell (p := ⟨W.heap.size, 15, none⟩) xl3 ox1).trans y15; go_simp; try with_reducible rfl
    try simp only [Act.put, pb, pz, ps]
    refine wpAnyF_take (i := 12) (oi := ⟨some 49, .fieldAddr 36 (.tmp 3) 5, 0, "house.go:150", #[], none⟩) (v := ?_) rfl (by kernel_rfl) (by kernel_rfl) (by kernel_rfl) (by kernel_rfl) (fun _ _ _ h => h) (Or.inl ⟨by rfl, ?_⟩) hS ?_
    rotate_left
    · intro w' _; go_simp; try with_reducible rfl
    try simp only [Act.put, pb, pz, ps]
    refine wpAnyF_take (i := 13) (oi := ⟨some 50, .fieldAddr 33 (.tmp 49) 2, 0, "house.go:150", #[⟨12, .data⟩], none⟩) (v := ?_) rfl (by kernel_rfl) (by kernel_rfl) (by kernel_rfl) (by kernel_rfl) (fun _ _ _ h => h) (Or.inl ⟨by rfl, ?_⟩) hS ?_
    rotate_left
    · intro w' _; go_simp; try with_reducible rfl
    try simp only [Act.put, pb, pz, ps]
    refine wpAnyF_take (i := 14) (oi := ⟨some 51, .load 2 (.tmp 50), 2, "house.go:150", #[⟨13, .data⟩], none⟩) (v := ?_) rfl (by kernel_rfl) (by kernel_rfl) (by kernel_rfl) (by kernel_rfl) (fun _ _ _ h => h) (Or.inl ⟨by rfl, ?_⟩) hS ?_
    rotate_left
    · intro w' hSw; have q0 := (hSw.cell (p := ⟨h, 2, none⟩) hl3 or1).trans y2; have q5 := (hSw.cell (p := ⟨W.heap.size, 5, none⟩) xl3 ox1).trans y5; have q6 := (hSw.cell (p := ⟨W.heap.size, 6, none⟩) xl3 ox1).trans y6; have q7 := (hSw.cell (p := ⟨W.heap.size, 7, none⟩) xl3 ox1).trans y7; have q8 := (hSw.cell (p := ⟨W.heap.size, 8, none⟩) xl3 ox1).trans y8; have q9 := (hSw.cell (p := ⟨W.heap.size, 9, none⟩) xl3 ox1).trans y9; have q10 := (hSw.cell (p := ⟨W.heap.size, 10, none⟩) xl3 ox1).trans y10; have q11 := (hSw.cell (p := ⟨W.heap.size, 11, none⟩) xl3 ox1).trans y11; have q12 := (hSw.cell (p := ⟨W.heap.size, 12, none⟩) xl3 ox1).trans y12; have q13 := (hSw.cell (p := ⟨W.heap.size, 13, none⟩) xl3 ox1).trans y13; have q14 := (hSw.cell (p := ⟨W.heap.size, 14, none⟩) xl3 ox1).trans y14; have q15 := (hSw.cell (p := ⟨W.heap.size, 15, none⟩) xl3 ox1).trans y15; go_simp; try with_reducible rfl
    try simp only [Act.put, pb, pz, ps]
    refine wpAnyF_take (i := 15) (oi := ⟨some 52, .fieldAddr 36 (.tmp 3) 5, 0, "house.go:150", #[], none⟩) (v := ?_) rfl (by kernel_rfl) (by kernel_rfl) (by kernel_rfl) (by kernel_rfl) (fun _ _ _ h => h) (Or.inl ⟨by rfl, ?_⟩) hS ?_
    rotate_left
    · intro w' _; go_simp; try with_reducible rfl
    try simp only [Act.put, pb, pz, ps]
    refine wpAnyF_take (i := 16) (oi := ⟨some 53, .fieldAddr 33 (.tmp 52) 2, 0, "house.go:150", #[⟨15, .data⟩], none⟩) (v := ?_) rfl (by kernel_rfl) (by kernel_rfl) (by kernel_rfl) (by kernel_rfl) (fun _ _ _ h => h) (Or.inl ⟨by rfl, ?_⟩) hS ?_
    rotate_left
    · intro w' _; go_simp; try with_reducible rfl
    try simp only [Act.put, pb, pz, ps]
    refine wpAnyF_take (i := 17) (oi := ⟨some 54, .load 2 (.tmp 53), 2, "house.go:150", #[⟨16, .data⟩], none⟩) (v := ?_) rfl (by kernel_rfl) (by kernel_rfl) (by kernel_rfl) (by kernel_rfl) (fun _ _ _ h => h) (Or.inl ⟨by rfl, ?_⟩) hS ?_
    rotate_left
    · intro w' hSw; have q0 := (hSw.cell (p := ⟨h, 2, none⟩) hl3 or1).trans y2; have q5 := (hSw.cell (p := ⟨W.heap.size, 5, none⟩) xl3 ox1).trans y5; have q6 := (hSw.cell (p := ⟨W.heap.size, 6, none⟩) xl3 ox1).trans y6; have q7 := (hSw.cell (p := ⟨W.heap.size, 7, none⟩) xl3 ox1).trans y7; have q8 := (hSw.cell (p := ⟨W.heap.size, 8, none⟩) xl3 ox1).trans y8; have q9 := (hSw.cell (p := ⟨W.heap.size, 9, none⟩) xl3 ox1).trans y9; have q10 := (hSw.cell (p := ⟨W.heap.size, 10, none⟩) xl3 ox1).trans y10; have q11 := (hSw.cell (p := ⟨W.heap.size, 11, none⟩) xl3 ox1).trans y11; have q12 := (hSw.cell (p := ⟨W.heap.size, 12, none⟩) xl3 ox1).trans y12; have q13 := (hSw.cell (p := ⟨W.heap.size, 13, none⟩) xl3 ox1).trans y13; have q14 := (hSw.cell (p := ⟨W.heap.size, 14, none⟩) xl3 ox1).trans y14; have q15 := (hSw.cell (p := ⟨W.heap.size, 15, none⟩) xl3 ox1).trans y15; go_simp; try with_reducible rfl
    try simp only [Act.put, pb, pz, ps]
    refine wpAnyF_take (i := 18) (oi := ⟨some 55, .build 125 #[(0, .const (.int .i64 (-1))), (3, .tmp 54)], 125, "house.go:150", #[⟨17, .data⟩], none⟩) (v := ?_) rfl (by kernel_rfl) (by kernel_rfl) (by kernel_rfl) (by kernel_rfl) (fun _ _ _ h => h) (Or.inl ⟨by rfl, ?_⟩) hS ?_
    rotate_left
    · intro w' _; go_simp; try with_reducible rfl
    try simp only [Act.put, pb, pz, ps]
    refine wpAnyF_ready (rs := [11]) (by kernel_rfl) (by simp) ?_
    refine AllReadyF.cons (o := ⟨some 48, .call { callee := .value (.func 44), args := #[.tmp 47], argTypes := #[30] }, 112, "house.go:150", #[⟨10, .data⟩], none⟩) rfl (by rfl) (fun K hK => ?_) ?_
    · go_simp
      refine (kinds_any kind _).mono ?_
      rintro e w7 ⟨rfl, rfl⟩
      rw [HKD.out]
      refine hK.out _ _ ?_ (fun hS => ?_)
      · exact hS
      clear hK K
      try simp only [Act.put, pb, pz, ps]
      refine wpAnyF_take (i := 19) (oi := ⟨some 56, .build 137 #[(0, .tmp 44), (1, .tmp 48), (2, .tmp 51), (5, .tmp 55)], 137, "house.go:150", #[⟨7, .data⟩, ⟨11, .data⟩, ⟨14, .data⟩, ⟨18, .data⟩], none⟩) (v := ?_) rfl (by kernel_rfl) (by kernel_rfl) (by kernel_rfl) (by kernel_rfl) (fun _ _ _ h => h) (Or.inl ⟨by rfl, ?_⟩) hS ?_
      rotate_left
      · intro w' _; go_simp; try with_reducible rfl
      try simp only [Act.put, pb, pz, ps]
      refine wpAnyF_ready (rs := [20]) (by kernel_rfl) (by simp) ?_
      refine AllReadyF.cons (o := ⟨some 57, .box 137 (.tmp 56), 135, "house.go:150", #[⟨19, .data⟩], none⟩) rfl (by rfl) (fun K hK => ?_) ?_
      · go_simp
        refine hK.out _ _ ?_ (fun hS => ?_)
        · exact ((Chg.refl _ W3).grow ((Below.refl _ _).alloc (Nat.le_refl _) _)).grow (Below.refl _ _).drew
        clear hK K
        try simp only [Act.put, pb, pz, ps]
        obtain ⟨W4, hW4⟩ : ∃ W4, W4 = (W3.alloc (.cells ((newLot P).cells (.slice none 0 0)).toArray 137)).drew := ⟨_, rfl⟩
        have hb4 : Below W3.heap.size W3 W4 := by rw [hW4]; exact ((Below.refl _ _).alloc (Nat.le_refl _) _).drew
        have HL4 := Lib.hid (show Blk W4 W3.heap.size 137 ((newLot P).cells (.slice none 0 0)).toArray by rw [hW4]; exact Blk.new W3 _ _)
        simp only [newLot, LotS.cells, LotR.cells, HP.out, RiseR.cells, HKD.out, List.cons_append, List.nil_append] at hW4
        rw [← hW4] at hS ⊢
        clear hW4
        have HB4 := Lib.hid hb4
        have HRW := Lib.hid ((HROW.out.grow hb4).grow ((Below.refl _ _).alloc (Nat.le_refl _) (.cells #[.pointer (some ⟨W3.heap.size, 0, none⟩)] 135)))
        clear hb4
        refine wpAnyF_ready (rs := [21]) (by kernel_rfl) (by simp) ?_
        refine AllReadyF.cons (o := ⟨some 58, .buildSlice 88 1 #[(0, .tmp 57)], 88, "house.go:150", #[⟨20, .data⟩], none⟩) rfl (by rfl) (fun K hK => ?_) ?_
        · go_simp
          refine hK.out _ _ ?_ (fun hS => ?_)
          · exact hS.grow ((Below.refl _ _).alloc (Nat.le_refl _) _)
          clear hK K
          try simp only [Act.put, pb, pz, ps]
          refine wpAnyF_ready (rs := [22]) (by kernel_rfl) (by simp) ?_
          refine AllReadyF.cons (o := ⟨some 59, .call { callee := .builtin .append, args := #[.tmp 42, .tmp 58], argTypes := #[88, 88] }, 88, "house.go:150", #[⟨5, .data⟩, ⟨21, .data⟩, ⟨11, .chain⟩], none⟩) rfl (by rfl) (fun K hK => ?_) ?_
          · refine step_row (W4.alloc (.cells #[.pointer (some ⟨W3.heap.size, 0, none⟩)] 135)) (.tmp 42) (.tmp 58) rfl et_lots rfl (.slice A nl c) nl (ptrs bl nl) rfl HRW.out (.slice (some ⟨W4.heap.size, 0, none⟩) 1 1) 1 [.pointer (some ⟨W3.heap.size, 0, none⟩)] rfl (Sl.lit1 (Blk.new W4 135 #[.pointer (some ⟨W3.heap.size, 0, none⟩)]) rfl) (by simp [Value.oneCell']) (by have := HLN.out; have := HN.out; omega) (by have := HLN.out; have := HN.out; unfold maxLen; omega) ?_
            intro A3 c3 Z hrZ hcZ
            refine hK.out _ _ ?_ (fun hS => ?_)
            · exact (hS.trans hcZ)
            clear hK K
            try simp only [Act.put, pb, pz, ps]
            have HHZ := Lib.hid (((H3.out.blk.grow HB4.out).alloc (.cells #[.pointer (some ⟨W3.heap.size, 0, none⟩)] 135)).chg hcZ HOR.out)
            have HZR := Lib.hid hrZ
            have HZC := Lib.hid hcZ
            obtain ⟨U, hU⟩ : ∃ U, U = Z.setCell ⟨h, 2, none⟩ (.slice A3 (nl + 1) c3) := ⟨_, rfl⟩
            have HU := Lib.hid hU
            clear hrZ hcZ hU
            refine wpAnyF_takeD [24, 25, 26] (i := 23) (oi := ⟨some 60, .nilCheck (.tmp 37), 0, "house.go:150", #[⟨0, .data⟩, ⟨0, .phase⟩, ⟨1, .phase⟩, ⟨2, .phase⟩, ⟨3, .phase⟩, ⟨4, .phase⟩, ⟨5, .phase⟩, ⟨6, .phase⟩, ⟨7, .phase⟩, ⟨8, .phase⟩, ⟨9, .phase⟩, ⟨10, .phase⟩, ⟨11, .phase⟩, ⟨12, .phase⟩, ⟨13, .phase⟩, ⟨14, .phase⟩, ⟨15, .phase⟩, ⟨16, .phase⟩, ⟨17, .phase⟩, ⟨18, .phase⟩, ⟨19, .phase⟩, ⟨20, .phase⟩, ⟨21, .phase⟩, ⟨22, .phase⟩], none⟩) (v := ?_) rfl (by kernel_rfl) (by kernel_rfl) (by kernel_rfl) (by kernel_rfl) (fun _ _ _ h => h) (Or.inl ⟨by rfl, ?_⟩) hS ?_
            rotate_left
            · intro w' _; go_simp; try with_reducible rfl
            try simp only [Act.put, pb, pz, ps]
            refine wpAnyF_takeD [25, 26] (i := 24) (oi := ⟨some 61, .fieldAddr 92 (.tmp 60) 0, 0, "house.go:150", #[⟨23, .data⟩, ⟨0, .phase⟩, ⟨1, .phase⟩, ⟨2, .phase⟩, ⟨3, .phase⟩, ⟨4, .phase⟩, ⟨5, .phase⟩, ⟨6, .phase⟩, ⟨7, .phase⟩, ⟨8, .phase⟩, ⟨9, .phase⟩, ⟨10, .phase⟩, ⟨11, .phase⟩, ⟨12, .phase⟩, ⟨13, .phase⟩, ⟨14, .phase⟩, ⟨15, .phase⟩, ⟨16, .phase⟩, ⟨17, .phase⟩, ⟨18, .phase⟩, ⟨19, .phase⟩, ⟨20, .phase⟩, ⟨21, .phase⟩, ⟨22, .phase⟩], none⟩) (v := ?_) rfl (by kernel_rfl) (by kernel_rfl) (by kernel_rfl) (by kernel_rfl) (fun _ _ _ h => h) (Or.inl ⟨by rfl, ?_⟩) hS ?_
            rotate_left
            · intro w' _; go_simp; try with_reducible rfl
            try simp only [Act.put, pb, pz, ps]
            refine wpAnyF_take (i := 25) (oi := ⟨some 62, .fieldAddr 90 (.tmp 61) 2, 0, "house.go:150", #[⟨24, .data⟩, ⟨0, .phase⟩, ⟨1, .phase⟩, ⟨2, .phase⟩, ⟨3, .phase⟩, ⟨4, .phase⟩, ⟨5, .phase⟩, ⟨6, .phase⟩, ⟨7, .phase⟩, ⟨8, .phase⟩, ⟨9, .phase⟩, ⟨10, .phase⟩, ⟨11, .phase⟩, ⟨12, .phase⟩, ⟨13, .phase⟩, ⟨14, .phase⟩, ⟨15, .phase⟩, ⟨16, .phase⟩, ⟨17, .phase⟩, ⟨18, .phase⟩, ⟨19, .phase⟩, ⟨20, .phase⟩, ⟨21, .phase⟩, ⟨22, .phase⟩], none⟩) (v := ?_) rfl (by kernel_rfl) (by kernel_rfl) (by kernel_rfl) (by kernel_rfl) (fun _ _ _ h => h) (Or.inl ⟨by rfl, ?_⟩) hS ?_
            rotate_left
            · intro w' _; go_simp; try with_reducible rfl
            try simp only [Act.put, pb, pz, ps]
            refine wpAnyF_ready (rs := [26]) (by kernel_rfl) (by simp) ?_
            refine AllReadyF.fin (o := ⟨none, .store 88 (.tmp 62) (.tmp 59), 0, "house.go:150", #[⟨25, .data⟩, ⟨22, .data⟩, ⟨22, .chain⟩, ⟨0, .phase⟩, ⟨1, .phase⟩, ⟨2, .phase⟩, ⟨3, .phase⟩, ⟨4, .phase⟩, ⟨5, .phase⟩, ⟨6, .phase⟩, ⟨7, .phase⟩, ⟨8, .phase⟩, ⟨9, .phase⟩, ⟨10, .phase⟩, ⟨11, .phase⟩, ⟨12, .phase⟩, ⟨13, .phase⟩, ⟨14, .phase⟩, ⟨15, .phase⟩, ⟨16, .phase⟩, ⟨17, .phase⟩, ⟨18, .phase⟩, ⟨19, .phase⟩, ⟨20, .phase⟩, ⟨21, .phase⟩, ⟨22, .phase⟩], none⟩) rfl (by rfl) (fun K hK => ?_) ?_
            · have f2 := HHZ.out.frozen 2
              have d2 := HHZ.out.cell 2
              go_simp
              rw [← HU.out]
              refine hK.out _ _ ?_
              clear hK K
              try simp only [Act.put, pb, pz, ps]
              refine wpAnyF_done (by kernel_rfl) ?_ _
              clear hS y2 y5 y6 y7 y8 y9 y10 y11 y12 y13 y14 y15 ox1 or1 hl3 xl3
              have hU := HU.out
              have hlW : h < W.heap.size := H0.out.blk.lt
              have hxZ := ((HX3.out.grow HB4.out).alloc (.cells #[.pointer (some ⟨W3.heap.size, 0, none⟩)] 135)).chg HZC.out (fun e => by have := (HROW.out.blk _ e).2; omega)
              have hcU1 : Chg (· = h) Z U := by rw [hU]; exact Chg.set Z ⟨h, 2, none⟩ _
              have HXU := Lib.hid (hxZ.chg hcU1 (by omega))
              have HHU := Lib.hid (show Blk U h 92 #[.pointer (some ⟨pn, 0, none⟩), va, .slice A3 (nl + 1) c3, .pointer (some ⟨pc, 0, none⟩), vb, vs] by rw [hU]; exact HHZ.out.set_ 2 _)
              have HCU := Lib.hid (show Chg (fun b => T b = .hs ∨ T b = .lots) W U from (((Chg.of _ HB3.out).grow HB4.out).grow ((Below.refl _ _).alloc (Nat.le_refl _) (.cells #[.pointer (some ⟨W3.heap.size, 0, none⟩)] 135))).step HZC.out (fun b _ e => .inr (HROW.out.blk b e).1) |>.step hcU1 (fun b _ e => .inl (e ▸ H0.out.top)))
              have HLZ := Lib.hid ((((HL4.out.alloc (.cells #[.pointer (some ⟨W3.heap.size, 0, none⟩)] 135)).chg HZC.out (fun e => by have := (HROW.out.blk _ e).2; have := HB3.out.size; omega))).chg hcU1 (by have := HB3.out.size; omega))
              have HCALU := Lib.hid (show CalAt U (fun b => T b = .cal ∧ b < W.heap.size) pc now H.due from by rw [HNOW.out]; exact H0.out.cal.own.chg HCU.out (fun b _ e => by rintro (e2 | e2) <;> rw [e.1] at e2 <;> cases e2))
              have z7 : U.cell? ⟨W.heap.size, 7, none⟩ = some (.int .i64 closes) := HXU.out.cell 7
              have xlU := HXU.out.lt
              have z3 : U.cell? ⟨h, 3, none⟩ = some (.pointer (some ⟨pc, 0, none⟩)) := HHU.out.cell 3
              have hlU := HHU.out.lt
              clear hU hlW hxZ hcU1
              go_wp2_with fail
              refine wp_region_F (Below U.heap.size U) [9] (by kernel_rfl) ((Below.refl _ _).drew) (fun hS => ?_)
              refine wpAnyF_takeD [1, 2, 3, 4, 9] (i := 0) (oi := ⟨some 63, .move (.tmp 0), 23, "house.go:151", #[], none⟩) (v := ?_) rfl (by kernel_rfl) (by kernel_rfl) (by kernel_rfl) (by kernel_rfl) (fun _ _ _ h => h) (Or.inl ⟨by rfl, ?_⟩) hS ?_
              rotate_left
              · intro w' _; go_simp; try with_reducible rfl
              try simp only [Act.put, pb, pz, ps]
              refine wpAnyF_takeD [2, 3, 4, 9] (i := 1) (oi := ⟨some 64, .nilCheck (.tmp 63), 0, "house.go:151", #[⟨0, .data⟩], none⟩) (v := ?_) rfl (by kernel_rfl) (by kernel_rfl) (by kernel_rfl) (by kernel_rfl) (fun _ _ _ h => h) (Or.inl ⟨by rfl, ?_⟩) hS ?_
              rotate_left
              · intro w' _; go_simp; try with_reducible rfl
              try simp only [Act.put, pb, pz, ps]
              refine wpAnyF_takeD [3, 4, 9] (i := 2) (oi := ⟨some 65, .fieldAddr 92 (.tmp 64) 0, 0, "house.go:151", #[⟨1, .data⟩], none⟩) (v := ?_) rfl (by kernel_rfl) (by kernel_rfl) (by kernel_rfl) (by kernel_rfl) (fun _ _ _ h => h) (Or.inl ⟨by rfl, ?_⟩) hS ?_
              rotate_left
              · intro w' _; go_simp; try with_reducible rfl
              try simp only [Act.put, pb, pz, ps]
              refine wpAnyF_takeD [4, 9] (i := 3) (oi := ⟨some 66, .fieldAddr 90 (.tmp 65) 3, 0, "house.go:151", #[⟨2, .data⟩], none⟩) (v := ?_) rfl (by kernel_rfl) (by kernel_rfl) (by kernel_rfl) (by kernel_rfl) (fun _ _ _ h => h) (Or.inl ⟨by rfl, ?_⟩) hS ?_
              rotate_left
              · intro w' _; go_simp; try with_reducible rfl
              try simp only [Act.put, pb, pz, ps]
              refine wpAnyF_take (i := 4) (oi := ⟨some 67, .load 84 (.tmp 66), 84, "house.go:151", #[⟨3, .data⟩], none⟩) (v := ?_) rfl (by kernel_rfl) (by kernel_rfl) (by kernel_rfl) (by kernel_rfl) (fun _ _ _ h => h) (Or.inl ⟨by rfl, ?_⟩) hS ?_
              rotate_left
              · intro w' hSw; have q0 := (hSw.cell (p := ⟨W.heap.size, 7, none⟩) xlU).trans z7; have q1 := (hSw.cell (p := ⟨h, 3, none⟩) hlU).trans z3; go_simp; try with_reducible rfl
              try simp only [Act.put, pb, pz, ps]
              refine wpAnyF_take (i := 5) (oi := ⟨some 68, .move (.tmp 6), 2, "house.go:151", #[], none⟩) (v := ?_) rfl (by kernel_rfl) (by kernel_rfl) (by kernel_rfl) (by kernel_rfl) (fun _ _ _ h => h) (Or.inl ⟨by rfl, ?_⟩) hS ?_
              rotate_left
              · intro w' _; go_simp; try with_reducible rfl
              try simp only [Act.put, pb, pz, ps]
              refine wpAnyF_takeD [7, 8, 9] (i := 6) (oi := ⟨some 69, .fieldAddr 36 (.tmp 3) 5, 0, "house.go:151", #[], none⟩) (v := ?_) rfl (by kernel_rfl) (by kernel_rfl) (by kernel_rfl) (by kernel_rfl) (fun _ _ _ h => h) (Or.inl ⟨by rfl, ?_⟩) hS ?_
              rotate_left
              · intro w' _; go_simp; try with_reducible rfl
              try simp only [Act.put, pb, pz, ps]
              refine wpAnyF_takeD [8, 9] (i := 7) (oi := ⟨some 70, .fieldAddr 33 (.tmp 69) 2, 0, "house.go:151", #[⟨6, .data⟩], none⟩) (v := ?_) rfl (by kernel_rfl) (by kernel_rfl) (by kernel_rfl) (by kernel_rfl) (fun _ _ _ h => h) (Or.inl ⟨by rfl, ?_⟩) hS ?_
              rotate_left
              · intro w' _; go_simp; try with_reducible rfl
              try simp only [Act.put, pb, pz, ps]
              refine wpAnyF_take (i := 8) (oi := ⟨some 71, .load 2 (.tmp 70), 2, "house.go:151", #[⟨7, .data⟩], none⟩) (v := ?_) rfl (by kernel_rfl) (by kernel_rfl) (by kernel_rfl) (by kernel_rfl) (fun _ _ _ h => h) (Or.inl ⟨by rfl, ?_⟩) hS ?_
              rotate_left
              · intro w' hSw; have q0 := (hSw.cell (p := ⟨W.heap.size, 7, none⟩) xlU).trans z7; have q1 := (hSw.cell (p := ⟨h, 3, none⟩) hlU).trans z3; go_simp; try with_reducible rfl
              try simp only [Act.put, pb, pz, ps]
              refine wpAnyF_ready (rs := [9]) (by kernel_rfl) (by simp) ?_
              refine AllReadyF.fin (o := ⟨some 72, .call { callee := .value (.func 84), args := #[.tmp 67, .tmp 68, .tmp 71], argTypes := #[84, 2, 2] }, 25, "house.go:151", #[⟨4, .data⟩, ⟨5, .data⟩, ⟨8, .data⟩], none⟩) rfl (by rfl) (fun K hK => ?_) ?_
              · go_simp
                refine (tset_any (W := U.drew) (HCALU.out.grow (Below.refl _ _).drew) (n := (nl : Int)) (t := closes) (by omega) (by have := HLN.out; have := HN.out; omega) HOC.out.1 (by have := NOW.out; have := HNOW.out; have := HOC.out.2; omega)).mono ?_
                rintro e V ⟨rfl, hcal, hcV⟩
                have HCALV := Lib.hid hcal
                have HCV := Lib.hid hcV
                clear hcal hcV
                refine hK.out _ _ ?_
                clear hK K
                try simp only [Act.put, pb, pz, ps]
                refine wpAnyF_done (by kernel_rfl) ?_ _
                clear hS z7 z3 xlU hlU
                go_wp2_with fail
                go_ret2
                refine ⟨by rw [← HN.out]; rfl, ?_⟩
                have hgl : W.heap.size ≤ W3.heap.size := HB3.out.size
                have hrowU := HZR.out.chgB (show Chg (· = h) Z U by rw [HU.out]; exact Chg.set Z ⟨h, 2, none⟩ _) (fun b hb e => by
                  rcases HZR.out.blk b hb with k | k
                  · have := k.1; rw [e, H0.out.top] at this; cases this
                  · have h1 := HB4.out.size; have h2 := H0.out.blk.lt; rw [World.size_alloc] at k; omega)
                have h4 := HB4.out.size
                have h5 := HLZ.out.lt
                have h6 : W3.heap.size < W4.heap.size := HL4.out.lt
                exact put_end (P := P) H0.out HLS.out HN.out hgl h5 (hrowU.mono fun b _ k => k.elim .inl fun k => .inr (by rw [World.size_alloc] at k; omega)) HCU.out HHU.out HLZ.out (((Chg.refl _ U).grow (Below.refl _ _).drew).trans HCV.out) (by rw [← HNOW.out, show P.closes = closes by rw [HP.out]]; exact HCALV.out.mono fun b _ k => k.elim .inl .inr)
              exact AllReadyF.nil
            exact AllReadyF.nil
          exact AllReadyF.nil
        exact AllReadyF.nil
      exact AllReadyF.nil
    exact AllReadyF.nil
  exact AllReadyF.nil
end Go.Proofs.YthoaidfpgijbfaaGreat.Ho
namespace Go.Proofs.YthoaidfpgijbfaaGreat.Ho
open Go.RowKit
open Go.Proofs.YthoaidfpgijbfaaGreat.Vb Go.Proofs.YthoaidfpgijbfaaGreat.Ac
theorem hnone_any {W : World} {T : Nat → Part} {h K : Nat} {H : House} (hH : HouseIn W T h K H) : Calls Tryz.prog 30 #[.pointer (some ⟨h, 0, none⟩)] W fun e W' => e = .returned (.bool false) ∧ W' = W := by
  obtain ⟨pn, pc, va, vl, vb, vs, hH⟩ := hH
  have c3 := hH.cells.2.2.2.1
  clear hH
  go_enter Tryz.func30, Tryz.ntmps30
  go_wp2_with fail
  go_ret
  exact ⟨rfl, rfl⟩
def emptyH : House := ⟨[], [], [], 0, [], [], fun _ => none⟩
set_option maxRecDepth 100000 in
theorem hnew_any (W : World) : Calls Tryz.prog 8 #[] W fun e W' => ∃ h T, e = .returned (.pointer (some ⟨h, 0, none⟩)) ∧ HouseIn W' T h 0 emptyH ∧ Below W.heap.size W W' ∧ ∀ b, b < W.heap.size → T b = .no := by
  go_enter Tryz.func8, Tryz.ntmps8
  go_wp2_with fail
  refine (nnew_any (by decide) (by decide) _).mono ?_
  rintro e W1 ⟨pn, rfl, hn, hb1⟩
  have HN := Lib.hid hn
  have HB1 := Lib.hid hb1
  clear hn hb1
  go_wp2_with fail
  refine (tnew_any _).mono ?_
  rintro e W2 ⟨pc, rfl, hc, hb2⟩
  have HC := Lib.hid hc
  have HB2 := Lib.hid hb2
  clear hc hb2
  go_wp2_with fail
  go_ret
  have hs1 := HB1.out.size
  have hs2 := HB2.out.size
  obtain ⟨W3, hW3⟩ : ∃ W3, W3 = W2.alloc (.cells #[.pointer (some ⟨pn, 0, none⟩), .slice none 0 0, .slice none 0 0, .pointer (some ⟨pc, 0, none⟩), .slice none 0 0, .slice none 0 0] 92) := ⟨_, rfl⟩
  have hs3 : W3.heap.size = W2.heap.size + 1 := by rw [hW3]; simp
  have hb3 : Below W2.heap.size W2 W3 := by rw [hW3]; exact (Below.refl _ _).alloc (Nat.le_refl _) _
  have hx : Blk W3 W2.heap.size 92 #[.pointer (some ⟨pn, 0, none⟩), .slice none 0 0, .slice none 0 0, .pointer (some ⟨pc, 0, none⟩), .slice none 0 0, .slice none 0 0] := by rw [hW3]; exact Blk.new _ _ _
  rw [← hW3]
  obtain ⟨T, hT⟩ : ∃ T : Nat → Part, T = fun b => if b < W.heap.size then .no else if b < W1.heap.size then .names else if b < W2.heap.size then .cal else if b < W3.heap.size then .hs else .no := ⟨_, rfl⟩
  refine ⟨W2.heap.size, T, rfl, ⟨pn, pc, .slice none 0 0, .slice none 0 0, .slice none 0 0, .slice none 0 0, ?_, hx, ?_, ⟨fun _ => 0, fun _ => 0, RowAt.nil, fun i a h => by simp [emptyH] at h⟩, ⟨fun _ => 0, RowAt.nil, fun i a h => by simp [emptyH] at h⟩, ?_, ⟨fun _ => .slice none 0 0, RowAt.nil, fun i a h => by simp [emptyH] at h⟩, RowAt.nil, fun b hb => ?_⟩, HB1.out.trans ((HB2.out.mono hs1).trans (hb3.mono (by omega))), fun b hb => ?_⟩
  · rw [hT]; simp [show ¬ W2.heap.size < W.heap.size by omega, show ¬ W2.heap.size < W1.heap.size by omega, hs3]
  · refine ((HN.out.mono (R' := fun b => W.heap.size ≤ b ∧ b < W1.heap.size) fun b hb hr => ⟨hr, hb⟩).grow (HB2.out.trans (hb3.mono hs2))).mono fun b _ hr => ?_
    rw [hT]; simp [show ¬ b < W.heap.size by omega, hr.2]
  · have h1 : CalAt W2 (fun b => W1.heap.size ≤ b ∧ b < W2.heap.size) pc 0 (fun _ => none) := HC.out.mono fun b hb hr => ⟨hr, hb⟩
    have h2 := (h1.grow hb3).mono (R' := fun b => T b = .cal) fun b _ hr => by
      rw [hT]; simp [show ¬ b < W.heap.size by omega, show ¬ b < W1.heap.size by omega, hr.2]
    exact h2
  · rw [hT]; simp [show ¬ b < W.heap.size by omega, show ¬ b < W1.heap.size by omega, show ¬ b < W2.heap.size by omega, show ¬ b < W3.heap.size by omega]
  · rw [hT]; simp [hb]
theorem strz (s : ByteArray) (w : World) : (binOp .eql 9 (.string s) (.string { data := #[] })).run Tryz.prog w = .ok (.bool (decide (s.size = 0))) w := by
  go_simp
  rw [ByteArray.toList_eq]
  obtain ⟨⟨x⟩⟩ := s
  cases x with
  | nil => exact (decide_eq_true (rfl : ({ data := { toList := [] } } : ByteArray) = ByteArray.empty)).symm
  | cons a l =>
    refine (decide_eq_false fun h => ?_).symm
    have h2 := congrArg (fun b : ByteArray => b.data.toList.length) h
    exact Nat.succ_ne_zero _ h2
end Go.Proofs.YthoaidfpgijbfaaGreat.Ho
namespace Go.Proofs.YthoaidfpgijbfaaGreat.Ho
open Go.RowKit
open Go.Proofs.YthoaidfpgijbfaaGreat.Vb Go.Proofs.YthoaidfpgijbfaaGreat.Ac
def zeroLot : LotR := ⟨0, 0, 0, 0, 0, 0, 0, 0, 0, 0, 0⟩
theorem isE (s : ByteArray) : s.toList.isEmpty = decide (s.size = 0) := by
  rw [ByteArray.toList_eq]
  obtain ⟨⟨x⟩⟩ := s
  cases x <;> simp [ByteArray.size]
def spareB (o : OrderR) : Bool :=
  let n := decide (o.name.size = 0); let c := (o.coins == 0); let b := (o.bidder == 0); let l := (o.lot == 0); let p := decide (o.put = zeroLot); let f := ((o.offers.length : Int) == 0); let t := (o.tick == 0)
  if o.kind = 1 then b && l && p && f && t else if o.kind = 2 then n && l && p && f && t else if o.kind = 3 then n && c && b && l && f && t else if o.kind = 4 then n && c && p && t else if o.kind = 5 then n && c && p && f && t else if o.kind = 6 then n && c && b && l && p && f else false
set_option maxRecDepth 100000 in
set_option maxHeartbeats 4000000 in
theorem spare_1 (o : OrderR) (A : Option Addr) (c : Nat) (hk : o.kind = 1) (W : World) : Calls Tryz.prog 31 #[o.agg (.slice A o.offers.length c)] W fun e W' => e = .returned (.bool ((o.bidder == 0) && (o.lot == 0) && decide (o.put = zeroLot) && ((o.offers.length : Int) == 0) && (o.tick == 0))) ∧ Below W.heap.size W W' := by
  obtain ⟨z, hz⟩ : ∃ z, z = ((o.bidder == 0) && (o.lot == 0) && decide (o.put = zeroLot) && ((o.offers.length : Int) == 0) && (o.tick == 0)) := ⟨_, rfl⟩
  rw [← hz]
  obtain ⟨okind, oname, ocoins, obidder, olot, put, ooff, otick⟩ := o
  simp only at hk hz
  obtain ⟨no, hno⟩ : ∃ n, n = ooff.length := ⟨_, rfl⟩
  obtain ⟨bp, hbp⟩ : ∃ b, b = decide (put = zeroLot) := ⟨_, rfl⟩
  have heq := fun W => eql_lot W put zeroLot
  rw [← hbp] at heq
  obtain ⟨bn, hbn⟩ : ∃ b, b = decide (oname.size = 0) := ⟨_, rfl⟩
  have hst := fun W => strz oname W
  have hst2 := isE oname
  rw [← hbn] at hst hst2
  obtain ⟨kind, opens, closes, start, step, extend, last, floor, fall, count, rule⟩ := put
  simp only [OrderR.agg, OrderR.cells, LotR.agg, LotR.cells, zeroLot, List.cons_append, List.nil_append] at heq ⊢
  rw [← hno]
  rw [← hbp, ← hno] at hz
  subst hk
  have HZ := Lib.hid hz
  clear hz hbp hbn hno
  cases hb : (obidder == 0) with
  | false =>
    have HE := Lib.hid (show z = false from HZ.out.trans (by rw [hb]; simp))
    go_enter Tryz.func31, Tryz.ntmps31
    go_wp2_with fail
    go_ret
    exact ⟨by rw [HE.out]; rfl, (Below.refl _ _).alloc (Nat.le_refl _) _⟩
  | true =>
    cases hl : (olot == 0) with
    | false =>
      have HE := Lib.hid (show z = false from HZ.out.trans (by rw [hb, hl]; simp))
      go_enter Tryz.func31, Tryz.ntmps31
      go_wp2_with fail
      go_ret
      exact ⟨by rw [HE.out]; rfl, (Below.refl _ _).alloc (Nat.le_refl _) _⟩
    | true =>
      cases bp with
      | false =>
        have HE := Lib.hid (show z = false from HZ.out.trans (by simp [hb, hl]))
        go_enter Tryz.func31, Tryz.ntmps31
        go_wp2_with fail
        go_ret
        exact ⟨by rw [HE.out]; rfl, (Below.refl _ _).alloc (Nat.le_refl _) _⟩
      | true =>
        cases hf : ((no : Int) == 0) with
        | false =>
          have HE := Lib.hid (show z = false from HZ.out.trans (by rw [hb, hl, hf]; simp))
          go_enter Tryz.func31, Tryz.ntmps31
          go_wp2_with fail
          go_ret
          exact ⟨by rw [HE.out]; rfl, (Below.refl _ _).alloc (Nat.le_refl _) _⟩
        | true =>
          cases ht : (otick == 0) with
          | false =>
            have HE := Lib.hid (show z = false from HZ.out.trans (by rw [hb, hl, hf, ht]; simp))
            go_enter Tryz.func31, Tryz.ntmps31
            go_wp2_with fail
            go_ret
            exact ⟨by rw [HE.out]; rfl, (Below.refl _ _).alloc (Nat.le_refl _) _⟩
          | true =>
            have HE := Lib.hid (show z = true from HZ.out.trans (by rw [hb, hl, hf, ht]; rfl))
            go_enter Tryz.func31, Tryz.ntmps31
            go_wp2_with fail
            go_ret
            exact ⟨by rw [HE.out]; rfl, (Below.refl _ _).alloc (Nat.le_refl _) _⟩
set_option maxRecDepth 100000 in
set_option maxHeartbeats 4000000 in
theorem spare_2 (o : OrderR) (A : Option Addr) (c : Nat) (hk : o.kind = 2) (W : World) : Calls Tryz.prog 31 #[o.agg (.slice A o.offers.length c)] W fun e W' => e = .returned (.bool (decide (o.name.size = 0) && (o.lot == 0) && decide (o.put = zeroLot) && ((o.offers.length : Int) == 0) && (o.tick == 0))) ∧ Below W.heap.size W W' := by
  obtain ⟨z, hz⟩ : ∃ z, z = (decide (o.name.size = 0) && (o.lot == 0) && decide (o.put = zeroLot) && ((o.offers.length : Int) == 0) && (o.tick == 0)) := ⟨_, rfl⟩
  rw [← hz]
  obtain ⟨okind, oname, ocoins, obidder, olot, put, ooff, otick⟩ := o
  simp only at hk hz
  obtain ⟨no, hno⟩ : ∃ n, n = ooff.length := ⟨_, rfl⟩
  obtain ⟨bp, hbp⟩ : ∃ b, b = decide (put = zeroLot) := ⟨_, rfl⟩
  have heq := fun W => eql_lot W put zeroLot
  rw [← hbp] at heq
  obtain ⟨bn, hbn⟩ : ∃ b, b = decide (oname.size = 0) := ⟨_, rfl⟩
  have hst := fun W => strz oname W
  have hst2 := isE oname
  rw [← hbn] at hst hst2
  obtain ⟨kind, opens, closes, start, step, extend, last, floor, fall, count, rule⟩ := put
  simp only [OrderR.agg, OrderR.cells, LotR.agg, LotR.cells, zeroLot, List.cons_append, List.nil_append] at heq ⊢
  rw [← hno]
  rw [← hbp, ← hbn, ← hno] at hz
  subst hk
  have HZ := Lib.hid hz
  clear hz hbp hbn hno
  cases bn with
  | false =>
    have HE := Lib.hid (show z = false from HZ.out.trans (by simp))
    go_enter Tryz.func31, Tryz.ntmps31
    go_wp2_with fail
    go_ret
    exact ⟨by rw [HE.out]; rfl, (Below.refl _ _).alloc (Nat.le_refl _) _⟩
  | true =>
    cases hl : (olot == 0) with
    | false =>
      have HE := Lib.hid (show z = false from HZ.out.trans (by rw [hl]; simp))
      go_enter Tryz.func31, Tryz.ntmps31
      go_wp2_with fail
      go_ret
      exact ⟨by rw [HE.out]; rfl, (Below.refl _ _).alloc (Nat.le_refl _) _⟩
    | true =>
      cases bp with
      | false =>
        have HE := Lib.hid (show z = false from HZ.out.trans (by simp [hl]))
        go_enter Tryz.func31, Tryz.ntmps31
        go_wp2_with fail
        go_ret
        exact ⟨by rw [HE.out]; rfl, (Below.refl _ _).alloc (Nat.le_refl _) _⟩
      | true =>
        cases hf : ((no : Int) == 0) with
        | false =>
          have HE := Lib.hid (show z = false from HZ.out.trans (by rw [hl, hf]; simp))
          go_enter Tryz.func31, Tryz.ntmps31
          go_wp2_with fail
          go_ret
          exact ⟨by rw [HE.out]; rfl, (Below.refl _ _).alloc (Nat.le_refl _) _⟩
        | true =>
          cases ht : (otick == 0) with
          | false =>
            have HE := Lib.hid (show z = false from HZ.out.trans (by rw [hl, hf, ht]; simp))
            go_enter Tryz.func31, Tryz.ntmps31
            go_wp2_with fail
            go_ret
            exact ⟨by rw [HE.out]; rfl, (Below.refl _ _).alloc (Nat.le_refl _) _⟩
          | true =>
            have HE := Lib.hid (show z = true from HZ.out.trans (by rw [hl, hf, ht]; rfl))
            go_enter Tryz.func31, Tryz.ntmps31
            go_wp2_with fail
            go_ret
            exact ⟨by rw [HE.out]; rfl, (Below.refl _ _).alloc (Nat.le_refl _) _⟩
set_option maxRecDepth 100000 in
set_option maxHeartbeats 4000000 in
theorem spare_3 (o : OrderR) (A : Option Addr) (c : Nat) (hk : o.kind = 3) (W : World) : Calls Tryz.prog 31 #[o.agg (.slice A o.offers.length c)] W fun e W' => e = .returned (.bool (decide (o.name.size = 0) && (o.coins == 0) && (o.bidder == 0) && (o.lot == 0) && ((o.offers.length : Int) == 0) && (o.tick == 0))) ∧ Below W.heap.size W W' := by
  obtain ⟨z, hz⟩ : ∃ z, z = (decide (o.name.size = 0) && (o.coins == 0) && (o.bidder == 0) && (o.lot == 0) && ((o.offers.length : Int) == 0) && (o.tick == 0)) := ⟨_, rfl⟩
  rw [← hz]
  obtain ⟨okind, oname, ocoins, obidder, olot, put, ooff, otick⟩ := o
  simp only at hk hz
  obtain ⟨no, hno⟩ : ∃ n, n = ooff.length := ⟨_, rfl⟩
  obtain ⟨bp, hbp⟩ : ∃ b, b = decide (put = zeroLot) := ⟨_, rfl⟩
  have heq := fun W => eql_lot W put zeroLot
  rw [← hbp] at heq
  obtain ⟨bn, hbn⟩ : ∃ b, b = decide (oname.size = 0) := ⟨_, rfl⟩
  have hst := fun W => strz oname W
  have hst2 := isE oname
  rw [← hbn] at hst hst2
  obtain ⟨kind, opens, closes, start, step, extend, last, floor, fall, count, rule⟩ := put
  simp only [OrderR.agg, OrderR.cells, LotR.agg, LotR.cells, zeroLot, List.cons_append, List.nil_append] at heq ⊢
  rw [← hno]
  rw [← hbn, ← hno] at hz
  subst hk
  have HZ := Lib.hid hz
  clear hz hbp hbn hno
  cases bn with
  | false =>
    have HE := Lib.hid (show z = false from HZ.out.trans (by simp))
    go_enter Tryz.func31, Tryz.ntmps31
    go_wp2_with fail
    go_ret
    exact ⟨by rw [HE.out]; rfl, (Below.refl _ _).alloc (Nat.le_refl _) _⟩
  | true =>
    cases hc : (ocoins == 0) with
    | false =>
      have HE := Lib.hid (show z = false from HZ.out.trans (by rw [hc]; simp))
      go_enter Tryz.func31, Tryz.ntmps31
      go_wp2_with fail
      go_ret
      exact ⟨by rw [HE.out]; rfl, (Below.refl _ _).alloc (Nat.le_refl _) _⟩
    | true =>
      cases hb : (obidder == 0) with
      | false =>
        have HE := Lib.hid (show z = false from HZ.out.trans (by rw [hc, hb]; simp))
        go_enter Tryz.func31, Tryz.ntmps31
        go_wp2_with fail
        go_ret
        exact ⟨by rw [HE.out]; rfl, (Below.refl _ _).alloc (Nat.le_refl _) _⟩
      | true =>
        cases hl : (olot == 0) with
        | false =>
          have HE := Lib.hid (show z = false from HZ.out.trans (by rw [hc, hb, hl]; simp))
          go_enter Tryz.func31, Tryz.ntmps31
          go_wp2_with fail
          go_ret
          exact ⟨by rw [HE.out]; rfl, (Below.refl _ _).alloc (Nat.le_refl _) _⟩
        | true =>
          cases hf : ((no : Int) == 0) with
          | false =>
            have HE := Lib.hid (show z = false from HZ.out.trans (by rw [hc, hb, hl, hf]; simp))
            go_enter Tryz.func31, Tryz.ntmps31
            go_wp2_with fail
            go_ret
            exact ⟨by rw [HE.out]; rfl, (Below.refl _ _).alloc (Nat.le_refl _) _⟩
          | true =>
            cases ht : (otick == 0) with
            | false =>
              have HE := Lib.hid (show z = false from HZ.out.trans (by rw [hc, hb, hl, hf, ht]; simp))
              go_enter Tryz.func31, Tryz.ntmps31
              go_wp2_with fail
              go_ret
              exact ⟨by rw [HE.out]; rfl, (Below.refl _ _).alloc (Nat.le_refl _) _⟩
            | true =>
              have HE := Lib.hid (show z = true from HZ.out.trans (by rw [hc, hb, hl, hf, ht]; rfl))
              go_enter Tryz.func31, Tryz.ntmps31
              go_wp2_with fail
              go_ret
              exact ⟨by rw [HE.out]; rfl, (Below.refl _ _).alloc (Nat.le_refl _) _⟩
set_option maxRecDepth 100000 in
set_option maxHeartbeats 4000000 in
theorem spare_4 (o : OrderR) (A : Option Addr) (c : Nat) (hk : o.kind = 4) (W : World) : Calls Tryz.prog 31 #[o.agg (.slice A o.offers.length c)] W fun e W' => e = .returned (.bool (decide (o.name.size = 0) && (o.coins == 0) && decide (o.put = zeroLot) && (o.tick == 0))) ∧ Below W.heap.size W W' := by
  obtain ⟨z, hz⟩ : ∃ z, z = (decide (o.name.size = 0) && (o.coins == 0) && decide (o.put = zeroLot) && (o.tick == 0)) := ⟨_, rfl⟩
  rw [← hz]
  obtain ⟨okind, oname, ocoins, obidder, olot, put, ooff, otick⟩ := o
  simp only at hk hz
  obtain ⟨no, hno⟩ : ∃ n, n = ooff.length := ⟨_, rfl⟩
  obtain ⟨bp, hbp⟩ : ∃ b, b = decide (put = zeroLot) := ⟨_, rfl⟩
  have heq := fun W => eql_lot W put zeroLot
  rw [← hbp] at heq
  obtain ⟨bn, hbn⟩ : ∃ b, b = decide (oname.size = 0) := ⟨_, rfl⟩
  have hst := fun W => strz oname W
  have hst2 := isE oname
  rw [← hbn] at hst hst2
  obtain ⟨kind, opens, closes, start, step, extend, last, floor, fall, count, rule⟩ := put
  simp only [OrderR.agg, OrderR.cells, LotR.agg, LotR.cells, zeroLot, List.cons_append, List.nil_append] at heq ⊢
  rw [← hno]
  rw [← hbp, ← hbn] at hz
  subst hk
  have HZ := Lib.hid hz
  clear hz hbp hbn hno
  cases bn with
  | false =>
    have HE := Lib.hid (show z = false from HZ.out.trans (by simp))
    go_enter Tryz.func31, Tryz.ntmps31
    go_wp2_with fail
    go_ret
    exact ⟨by rw [HE.out]; rfl, (Below.refl _ _).alloc (Nat.le_refl _) _⟩
  | true =>
    cases hc : (ocoins == 0) with
    | false =>
      have HE := Lib.hid (show z = false from HZ.out.trans (by rw [hc]; simp))
      go_enter Tryz.func31, Tryz.ntmps31
      go_wp2_with fail
      go_ret
      exact ⟨by rw [HE.out]; rfl, (Below.refl _ _).alloc (Nat.le_refl _) _⟩
    | true =>
      cases bp with
      | false =>
        have HE := Lib.hid (show z = false from HZ.out.trans (by simp [hc]))
        go_enter Tryz.func31, Tryz.ntmps31
        go_wp2_with fail
        go_ret
        exact ⟨by rw [HE.out]; rfl, (Below.refl _ _).alloc (Nat.le_refl _) _⟩
      | true =>
        cases ht : (otick == 0) with
        | false =>
          have HE := Lib.hid (show z = false from HZ.out.trans (by rw [hc, ht]; simp))
          go_enter Tryz.func31, Tryz.ntmps31
          go_wp2_with fail
          go_ret
          exact ⟨by rw [HE.out]; rfl, (Below.refl _ _).alloc (Nat.le_refl _) _⟩
        | true =>
          have HE := Lib.hid (show z = true from HZ.out.trans (by rw [hc, ht]; rfl))
          go_enter Tryz.func31, Tryz.ntmps31
          go_wp2_with fail
          go_ret
          exact ⟨by rw [HE.out]; rfl, (Below.refl _ _).alloc (Nat.le_refl _) _⟩
set_option maxRecDepth 100000 in
set_option maxHeartbeats 4000000 in
theorem spare_5 (o : OrderR) (A : Option Addr) (c : Nat) (hk : o.kind = 5) (W : World) : Calls Tryz.prog 31 #[o.agg (.slice A o.offers.length c)] W fun e W' => e = .returned (.bool (decide (o.name.size = 0) && (o.coins == 0) && decide (o.put = zeroLot) && ((o.offers.length : Int) == 0) && (o.tick == 0))) ∧ Below W.heap.size W W' := by
  obtain ⟨z, hz⟩ : ∃ z, z = (decide (o.name.size = 0) && (o.coins == 0) && decide (o.put = zeroLot) && ((o.offers.length : Int) == 0) && (o.tick == 0)) := ⟨_, rfl⟩
  rw [← hz]
  obtain ⟨okind, oname, ocoins, obidder, olot, put, ooff, otick⟩ := o
  simp only at hk hz
  obtain ⟨no, hno⟩ : ∃ n, n = ooff.length := ⟨_, rfl⟩
  obtain ⟨bp, hbp⟩ : ∃ b, b = decide (put = zeroLot) := ⟨_, rfl⟩
  have heq := fun W => eql_lot W put zeroLot
  rw [← hbp] at heq
  obtain ⟨bn, hbn⟩ : ∃ b, b = decide (oname.size = 0) := ⟨_, rfl⟩
  have hst := fun W => strz oname W
  have hst2 := isE oname
  rw [← hbn] at hst hst2
  obtain ⟨kind, opens, closes, start, step, extend, last, floor, fall, count, rule⟩ := put
  simp only [OrderR.agg, OrderR.cells, LotR.agg, LotR.cells, zeroLot, List.cons_append, List.nil_append] at heq ⊢
  rw [← hno]
  rw [← hbp, ← hbn, ← hno] at hz
  subst hk
  have HZ := Lib.hid hz
  clear hz hbp hbn hno
  cases bn with
  | false =>
    have HE := Lib.hid (show z = false from HZ.out.trans (by simp))
    go_enter Tryz.func31, Tryz.ntmps31
    go_wp2_with fail
    go_ret
    exact ⟨by rw [HE.out]; rfl, (Below.refl _ _).alloc (Nat.le_refl _) _⟩
  | true =>
    cases hc : (ocoins == 0) with
    | false =>
      have HE := Lib.hid (show z = false from HZ.out.trans (by rw [hc]; simp))
      go_enter Tryz.func31, Tryz.ntmps31
      go_wp2_with fail
      go_ret
      exact ⟨by rw [HE.out]; rfl, (Below.refl _ _).alloc (Nat.le_refl _) _⟩
    | true =>
      cases bp with
      | false =>
        have HE := Lib.hid (show z = false from HZ.out.trans (by simp [hc]))
        go_enter Tryz.func31, Tryz.ntmps31
        go_wp2_with fail
        go_ret
        exact ⟨by rw [HE.out]; rfl, (Below.refl _ _).alloc (Nat.le_refl _) _⟩
      | true =>
        cases hf : ((no : Int) == 0) with
        | false =>
          have HE := Lib.hid (show z = false from HZ.out.trans (by rw [hc, hf]; simp))
          go_enter Tryz.func31, Tryz.ntmps31
          go_wp2_with fail
          go_ret
          exact ⟨by rw [HE.out]; rfl, (Below.refl _ _).alloc (Nat.le_refl _) _⟩
        | true =>
          cases ht : (otick == 0) with
          | false =>
            have HE := Lib.hid (show z = false from HZ.out.trans (by rw [hc, hf, ht]; simp))
            go_enter Tryz.func31, Tryz.ntmps31
            go_wp2_with fail
            go_ret
            exact ⟨by rw [HE.out]; rfl, (Below.refl _ _).alloc (Nat.le_refl _) _⟩
          | true =>
            have HE := Lib.hid (show z = true from HZ.out.trans (by rw [hc, hf, ht]; rfl))
            go_enter Tryz.func31, Tryz.ntmps31
            go_wp2_with fail
            go_ret
            exact ⟨by rw [HE.out]; rfl, (Below.refl _ _).alloc (Nat.le_refl _) _⟩
set_option maxRecDepth 100000 in
set_option maxHeartbeats 4000000 in
theorem spare_6 (o : OrderR) (A : Option Addr) (c : Nat) (hk : o.kind = 6) (W : World) : Calls Tryz.prog 31 #[o.agg (.slice A o.offers.length c)] W fun e W' => e = .returned (.bool (decide (o.name.size = 0) && (o.coins == 0) && (o.bidder == 0) && (o.lot == 0) && decide (o.put = zeroLot) && ((o.offers.length : Int) == 0))) ∧ Below W.heap.size W W' := by
  obtain ⟨z, hz⟩ : ∃ z, z = (decide (o.name.size = 0) && (o.coins == 0) && (o.bidder == 0) && (o.lot == 0) && decide (o.put = zeroLot) && ((o.offers.length : Int) == 0)) := ⟨_, rfl⟩
  rw [← hz]
  obtain ⟨okind, oname, ocoins, obidder, olot, put, ooff, otick⟩ := o
  simp only at hk hz
  obtain ⟨no, hno⟩ : ∃ n, n = ooff.length := ⟨_, rfl⟩
  obtain ⟨bp, hbp⟩ : ∃ b, b = decide (put = zeroLot) := ⟨_, rfl⟩
  have heq := fun W => eql_lot W put zeroLot
  rw [← hbp] at heq
  obtain ⟨bn, hbn⟩ : ∃ b, b = decide (oname.size = 0) := ⟨_, rfl⟩
  have hst := fun W => strz oname W
  have hst2 := isE oname
  rw [← hbn] at hst hst2
  obtain ⟨kind, opens, closes, start, step, extend, last, floor, fall, count, rule⟩ := put
  simp only [OrderR.agg, OrderR.cells, LotR.agg, LotR.cells, zeroLot, List.cons_append, List.nil_append] at heq ⊢
  rw [← hno]
  rw [← hbp, ← hbn, ← hno] at hz
  subst hk
  have HZ := Lib.hid hz
  clear hz hbp hbn hno
  cases bn with
  | false =>
    have HE := Lib.hid (show z = false from HZ.out.trans (by simp))
    go_enter Tryz.func31, Tryz.ntmps31
    go_wp2_with fail
    go_ret
    exact ⟨by rw [HE.out]; rfl, (Below.refl _ _).alloc (Nat.le_refl _) _⟩
  | true =>
    cases hc : (ocoins == 0) with
    | false =>
      have HE := Lib.hid (show z = false from HZ.out.trans (by rw [hc]; simp))
      go_enter Tryz.func31, Tryz.ntmps31
      go_wp2_with fail
      go_ret
      exact ⟨by rw [HE.out]; rfl, (Below.refl _ _).alloc (Nat.le_refl _) _⟩
    | true =>
      cases hb : (obidder == 0) with
      | false =>
        have HE := Lib.hid (show z = false from HZ.out.trans (by rw [hc, hb]; simp))
        go_enter Tryz.func31, Tryz.ntmps31
        go_wp2_with fail
        go_ret
        exact ⟨by rw [HE.out]; rfl, (Below.refl _ _).alloc (Nat.le_refl _) _⟩
      | true =>
        cases hl : (olot == 0) with
        | false =>
          have HE := Lib.hid (show z = false from HZ.out.trans (by rw [hc, hb, hl]; simp))
          go_enter Tryz.func31, Tryz.ntmps31
          go_wp2_with fail
          go_ret
          exact ⟨by rw [HE.out]; rfl, (Below.refl _ _).alloc (Nat.le_refl _) _⟩
        | true =>
          cases bp with
          | false =>
            have HE := Lib.hid (show z = false from HZ.out.trans (by simp [hc, hb, hl]))
            go_enter Tryz.func31, Tryz.ntmps31
            go_wp2_with fail
            go_ret
            exact ⟨by rw [HE.out]; rfl, (Below.refl _ _).alloc (Nat.le_refl _) _⟩
          | true =>
            cases hf : ((no : Int) == 0) with
            | false =>
              have HE := Lib.hid (show z = false from HZ.out.trans (by rw [hc, hb, hl, hf]; simp))
              go_enter Tryz.func31, Tryz.ntmps31
              go_wp2_with fail
              go_ret
              exact ⟨by rw [HE.out]; rfl, (Below.refl _ _).alloc (Nat.le_refl _) _⟩
            | true =>
              have HE := Lib.hid (show z = true from HZ.out.trans (by rw [hc, hb, hl, hf]; rfl))
              go_enter Tryz.func31, Tryz.ntmps31
              go_wp2_with fail
              go_ret
              exact ⟨by rw [HE.out]; rfl, (Below.refl _ _).alloc (Nat.le_refl _) _⟩
set_option maxRecDepth 100000 in
set_option maxHeartbeats 4000000 in
theorem spare_0 (o : OrderR) (A : Option Addr) (c : Nat) (h1 : (o.kind == 1) = false) (h2 : (o.kind == 2) = false) (h3 : (o.kind == 3) = false) (h4 : (o.kind == 4) = false) (h5 : (o.kind == 5) = false) (h6 : (o.kind == 6) = false) (W : World) : Calls Tryz.prog 31 #[o.agg (.slice A o.offers.length c)] W fun e W' => e = .returned (.bool false) ∧ Below W.heap.size W W' := by
  obtain ⟨okind, oname, ocoins, obidder, olot, put, ooff, otick⟩ := o
  simp only at h1 h2 h3 h4 h5 h6
  obtain ⟨no, hno⟩ : ∃ n, n = ooff.length := ⟨_, rfl⟩
  obtain ⟨bp, hbp⟩ : ∃ b, b = decide (put = zeroLot) := ⟨_, rfl⟩
  have heq := fun W => eql_lot W put zeroLot
  rw [← hbp] at heq
  obtain ⟨bn, hbn⟩ : ∃ b, b = decide (oname.size = 0) := ⟨_, rfl⟩
  have hst := fun W => strz oname W
  have hst2 := isE oname
  rw [← hbn] at hst hst2
  obtain ⟨kind, opens, closes, start, step, extend, last, floor, fall, count, rule⟩ := put
  simp only [OrderR.agg, OrderR.cells, LotR.agg, LotR.cells, zeroLot, List.cons_append, List.nil_append] at heq ⊢
  rw [← hno]
  clear hst hst2 heq hbp hbn hno
  go_enter Tryz.func31, Tryz.ntmps31
  go_wp2_with fail
  go_ret
  exact ⟨rfl, (Below.refl _ _).alloc (Nat.le_refl _) _⟩
theorem spare_any (o : OrderR) (A : Option Addr) (c : Nat) (W : World) : Calls Tryz.prog 31 #[o.agg (.slice A o.offers.length c)] W fun e W' => e = .returned (.bool (spareB o)) ∧ Below W.heap.size W W' := by
  unfold spareB
  dsimp only
  by_cases h1 : o.kind = 1
  · rw [if_pos h1]; exact spare_1 o A c h1 W
  · rw [if_neg h1]
    by_cases h2 : o.kind = 2
    · rw [if_pos h2]; exact spare_2 o A c h2 W
    · rw [if_neg h2]
      by_cases h3 : o.kind = 3
      · rw [if_pos h3]; exact spare_3 o A c h3 W
      · rw [if_neg h3]
        by_cases h4 : o.kind = 4
        · rw [if_pos h4]; exact spare_4 o A c h4 W
        · rw [if_neg h4]
          by_cases h5 : o.kind = 5
          · rw [if_pos h5]; exact spare_5 o A c h5 W
          · rw [if_neg h5]
            by_cases h6 : o.kind = 6
            · rw [if_pos h6]; exact spare_6 o A c h6 W
            · rw [if_neg h6]; exact spare_0 o A c (by simpa using h1) (by simpa using h2) (by simpa using h3) (by simpa using h4) (by simpa using h5) (by simpa using h6) W
end Go.Proofs.YthoaidfpgijbfaaGreat.Ho

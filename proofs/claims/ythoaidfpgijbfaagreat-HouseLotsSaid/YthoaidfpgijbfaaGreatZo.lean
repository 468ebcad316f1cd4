import Derived.Test.YthoaidfpgijbfaaGreatZn
import Derived.Test.YthoaidfpgijbfaaGreatZm
namespace Go.Proofs.YthoaidfpgijbfaaGreat.Ho
open Go.RowKit
open Go.Proofs.YthoaidfpgijbfaaGreat.Vb Go.Proofs.YthoaidfpgijbfaaGreat.Ac
theorem results_cell_row2 {P : Program} {fn : Func} {p q : Tmp} {ty : TypeId} (h : fn.results = #[.cell p ty, .tmp q]) (tmps : Array Value) (w : World) (g : Nat) (t : TypeId) (cs : Array Value) (fr : Nat × Nat) (d : TypeDesc)
    (hp : tmps.getD p undef = .pointer (some ⟨g, 0, none⟩)) (hg : w.heap[g]? = some (.cells cs t fr))
    (hu : P.underlying ty = some d) (hd : (match d with | .struct _ | .array _ _ => true | _ => false) = true) (hi : (P.info? ty).map (·.size) = some cs.size) :
    (results fn tmps).run P w = .ok (.tuple #[.agg cs, tmps.getD q undef]) w := by
  have hp' : tmps[p]?.getD undef = .pointer (some ⟨g, 0, none⟩) := by simpa using hp
  simp [results, h, hp', asAddr, run_loadVar_row w g t ty cs fr d hg hu hd hi]
theorem below_setRow {B : Nat} {a w : World} (h : Below B a w) {g : Nat} (hg : B ≤ g) (cs : Array Value) : Below B a (w.setRow g cs) :=
  ⟨h.os, h.tape, h.output, by rw [setRow_size]; exact h.size, fun k hk => (setRow_other w g k cs (by omega)).trans (h.block k hk)⟩
theorem lotOk_good {p : LotR} (h : lotOk p = true) : (1 ≤ p.kind ∧ p.kind ≤ 5) ∧ (p.kind = 2 → fallLot p = true) := by
  unfold lotOk mayB at h
  simp only [Bool.and_eq_true] at h
  have h2 := h.2
  split at h2
  · exact ⟨by omega, by omega⟩
  · split at h2
    · exact ⟨by omega, fun _ => h2⟩
    · split at h2
      · exact ⟨by omega, by omega⟩
      · split at h2
        · exact ⟨by omega, by omega⟩
        · split at h2
          · exact ⟨by omega, by omega⟩
          · cases h2
theorem price_any {W : World} {T : Nat → Part} {n b : Nat} {l : LotS} (h : LotAt W T n b l) (hok : lotOk l.put = true) (t : Int) : Calls Tryz.prog (priceF l.put.kind) #[.agg #[], .pointer (some ⟨b, 0, none⟩), .int .i64 t] W fun e W' => e = .returned (.int .i64 (priceL l t)) ∧ Below W.heap.size W W' := by
  obtain ⟨hk, hf⟩ := lotOk_good hok
  have h5 : l.put.kind = 1 ∨ l.put.kind = 2 ∨ l.put.kind = 3 ∨ l.put.kind = 4 ∨ l.put.kind = 5 := by omega
  unfold priceL priceF
  rcases h5 with e | e | e | e | e <;> rw [e] <;> simp (config := { decide := true }) only [if_true, if_false]
  · exact price1 h t
  · exact price2 h (hf e) t
  · exact price3 h t
  · exact price4 h t
  · exact price5 h t
def lotNow (l : LotS) (now : Int) : List Value := l.put.cells ++ [.int .i64 l.closes, .bool l.closed, .int .i64 (priceL l now), .int .i64 (if l.put.kind = 1 then l.rise.leader else -1), .int .i64 l.stands.length]
theorem LotAt.cellsL {W : World} {T : Nat → Part} {n b : Nat} {l : LotS} (h : LotAt W T n b l) : W.cell? ⟨b, 11, none⟩ = some (kindV l.put.kind) ∧ W.cell? ⟨b, 12, none⟩ = some (.int .i64 l.closes) ∧ W.cell? ⟨b, 13, none⟩ = some (.bool l.closed) ∧ (∃ A c, W.cell? ⟨b, 14, none⟩ = some (.slice A l.stands.length c)) ∧ W.cell? ⟨b, 15, none⟩ = some (.int .i64 l.rise.leader) ∧ W.cell? ⟨b, 0, none⟩ = some (.int .i64 l.put.kind) := by
  obtain ⟨v, _, hb, hs⟩ := h
  obtain ⟨A, c, hv⟩ := hs.form
  subst hv
  exact ⟨hb.cell 11, hb.cell 12, hb.cell 13, ⟨A, c, hb.cell 14⟩, hb.cell 15, hb.cell 0⟩
theorem hLot_err {W : World} {T : Nat → Part} {h K : Nat} {H : House} (hH : HouseIn W T h K H) {x : Int} (hx : x < 0 ∨ (H.lots.length : Int) ≤ x) :
    Calls Tryz.prog 49 #[.pointer (some ⟨h, 0, none⟩), .int .i64 x] W fun e W' => e = .returned (.tuple #[.agg #[.int .i64 0, .int .i64 0, .int .i64 0, .int .i64 0, .int .i64 0, .int .i64 0, .int .i64 0, .int .i64 0, .int .i64 0, .int .i64 0, .int .i64 0, .int .i64 0, .bool false, .int .i64 0, .int .i64 0, .int .i64 0], .int .i64 4]) ∧ Below W.heap.size W W' := by
  obtain ⟨W1, hW1⟩ : ∃ W1, W1 = W.alloc (.cells #[.int .i64 0, .int .i64 0, .int .i64 0, .int .i64 0, .int .i64 0, .int .i64 0, .int .i64 0, .int .i64 0, .int .i64 0, .int .i64 0, .int .i64 0, .int .i64 0, .bool false, .int .i64 0, .int .i64 0, .int .i64 0] 119) := ⟨_, rfl⟩
  have hb1 : Below W.heap.size W W1 := by rw [hW1]; exact (Below.refl _ _).alloc (Nat.le_refl _) _
  have hx1 : Ac.Blk W1 W.heap.size 119 #[.int .i64 0, .int .i64 0, .int .i64 0, .int .i64 0, .int .i64 0, .int .i64 0, .int .i64 0, .int .i64 0, .int .i64 0, .int .i64 0, .int .i64 0, .int .i64 0, .bool false, .int .i64 0, .int .i64 0, .int .i64 0] := by rw [hW1]; exact Blk.new _ _ _
  have HL := Lib.hid (hlot_err (hH.grow hb1) hx)
  have HB1 := Lib.hid hb1
  have HX1 := Lib.hid hx1
  clear hH hb1 hx1 hx
  go_enter Tryz.func49, Tryz.ntmps49
  go_wp2_with fail
  rw [← hW1]
  clear hW1
  refine HL.out.mono ?_
  rintro e W2 ⟨rfl, rfl⟩
  go_wp2_with (refine wpList_store_row rfl 119 (.tmp 4) (.tmp 17) rfl W.heap.size #[.int .i64 0, .int .i64 0, .int .i64 0, .int .i64 0, .int .i64 0, .int .i64 0, .int .i64 0, .int .i64 0, .int .i64 0, .int .i64 0, .int .i64 0, .int .i64 0, .bool false, .int .i64 0, .int .i64 0, .int .i64 0] rfl rfl 119 _ HX1.out (by kernel_rfl) rfl (by kernel_rfl) ?_)
  refine bodyPost_ret (results_cell_row2 rfl _ _ W.heap.size 119 #[.int .i64 0, .int .i64 0, .int .i64 0, .int .i64 0, .int .i64 0, .int .i64 0, .int .i64 0, .int .i64 0, .int .i64 0, .int .i64 0, .int .i64 0, .int .i64 0, .bool false, .int .i64 0, .int .i64 0, .int .i64 0] (0, 0) _ rfl (setRow_heap _ _ _ _ _ _ HX1.out) Tryz.underlying119 rfl (by kernel_rfl)) rfl ⟨rfl, ?_⟩
  exact below_setRow HB1.out (Nat.le_refl _) _
set_option maxRecDepth 100000 in
set_option maxHeartbeats 4000000 in
theorem hLot_ok {W : World} {T : Nat → Part} {h K : Nat} {H : House} (hH : HouseIn W T h K H) {i : Nat} {l : LotS} (hi : H.lots[i]? = some l) (hok : lotOk l.put = true) :
    Calls Tryz.prog 49 #[.pointer (some ⟨h, 0, none⟩), .int .i64 i] W fun e W' => e = .returned (.tuple #[.agg (lotNow l H.now).toArray, .int .i64 0]) ∧ Below W.heap.size W W' := by
  obtain ⟨W1, hW1⟩ : ∃ W1, W1 = W.alloc (.cells #[.int .i64 0, .int .i64 0, .int .i64 0, .int .i64 0, .int .i64 0, .int .i64 0, .int .i64 0, .int .i64 0, .int .i64 0, .int .i64 0, .int .i64 0, .int .i64 0, .bool false, .int .i64 0, .int .i64 0, .int .i64 0] 119) := ⟨_, rfl⟩
  have hb1 : Below W.heap.size W W1 := by rw [hW1]; exact (Below.refl _ _).alloc (Nat.le_refl _) _
  have hx1 : Ac.Blk W1 W.heap.size 119 #[.int .i64 0, .int .i64 0, .int .i64 0, .int .i64 0, .int .i64 0, .int .i64 0, .int .i64 0, .int .i64 0, .int .i64 0, .int .i64 0, .int .i64 0, .int .i64 0, .bool false, .int .i64 0, .int .i64 0, .int .i64 0] := by rw [hW1]; exact Blk.new _ _ _
  have HL := Lib.hid (hlot_ok (hH.grow hb1) hi)
  have HB1 := Lib.hid hb1
  have HX1 := Lib.hid hx1
  obtain ⟨pn, pc, va, vl, vb, vs, hA⟩ := hH.grow hb1
  have c3 := hA.cells.2.2.2.1
  have lh := hA.cells.2.2.2.2.2.2
  have HCAL := Lib.hid hA.cal
  have HOK := Lib.hid hok
  clear hH hb1 hx1 hi hA
  obtain ⟨pv, hpv⟩ : ∃ z, z = priceL l H.now := ⟨_, rfl⟩
  have HPV := Lib.hid hpv
  obtain ⟨nw, hnw⟩ : ∃ z, z = H.now := ⟨_, rfl⟩
  rw [← hnw] at HCAL
  have HNW := Lib.hid hnw
  have HLN := Lib.hid (show lotNow l H.now = l.put.cells ++ [.int .i64 l.closes, .bool l.closed, .int .i64 pv, .int .i64 (if l.put.kind = 1 then l.rise.leader else -1), .int .i64 l.stands.length] by rw [hpv]; rfl)
  obtain ⟨lnc, hlnc⟩ : ∃ z, z = (lotNow l H.now).toArray := ⟨_, rfl⟩
  rw [← hlnc]
  have HLC := Lib.hid hlnc
  clear hpv hnw hlnc
  go_enter Tryz.func49, Tryz.ntmps49
  go_wp2_with fail
  rw [← hW1]
  clear hW1
  refine HL.out.mono ?_
  rintro e W2 ⟨⟨b, rfl, hlat⟩, rfl⟩
  obtain ⟨l11, l12, l13, ⟨sA, sc, l14⟩, l15, l0⟩ := hlat.cellsL
  obtain ⟨_, _, _, _, lb, lr⟩ := hlat.price
  have HLAT := Lib.hid hlat
  have HR := Lib.hid lr
  obtain ⟨clo, hclo⟩ : ∃ z, z = l.closes := ⟨_, rfl⟩
  obtain ⟨cld, hcld⟩ : ∃ z, z = l.closed := ⟨_, rfl⟩
  obtain ⟨ns, hns⟩ : ∃ z, z = l.stands.length := ⟨_, rfl⟩
  obtain ⟨ld, hld⟩ : ∃ z, z = l.rise.leader := ⟨_, rfl⟩
  obtain ⟨kd, hkd⟩ : ∃ z, z = l.put.kind := ⟨_, rfl⟩
  have HLN2 := HLN.out
  rw [← hclo, ← hcld, ← hns, ← hld, ← hkd] at HLN2
  rw [← hclo] at l12
  rw [← hcld] at l13
  rw [← hns] at l14
  rw [← hld] at l15
  have HKD := Lib.hid hkd
  rw [← hkd] at l0 l11
  obtain ⟨kv, hkv⟩ := kind_iface (lotOk_good HOK.out).1
  rw [← hkd] at hkv
  have HKV := Lib.hid hkv
  rw [hkv] at l11
  generalize hput : l.put = P at HR HLN2
  have HPUT := Lib.hid hput
  obtain ⟨kind, opens, closes, start, step, extend, last, floor, fall, count, rule⟩ := P
  simp only [LotR.cells, List.cons_append, List.nil_append] at HR HLN2
  have HLX := Lib.hid HLN2
  have nb : ¬ b = W.heap.size := fun e => by
    have h1 := HX1.out
    obtain ⟨v, _, h2, _⟩ := HLAT.out
    unfold Ac.Blk at h1 h2
    rw [e, h1] at h2
    injection h2 with h2
    injection h2 with _ h3
    revert h3
    decide
  clear hlat lr hclo hcld hns hld hkd hkv hput HLN2
  go_wp2_with fail
  refine wp_region_F (Below W2.heap.size W2) [19] (by kernel_rfl) ((Below.refl _ _).drew) (fun hS => ?_)
  refine wpAnyF_take (i := 0) (oi := ⟨some 19, .move (.tmp 6), 135, "house.go:293", #[], none⟩) (v := ?_) rfl (by kernel_rfl) (by kernel_rfl) (by kernel_rfl) (by kernel_rfl) (fun _ _ _ h => h) (Or.inl ⟨by rfl, ?_⟩) hS ?_
  rotate_left
  · intro w' _; go_simp; try with_reducible rfl
  try simp only [Act.put, pb, pz, ps]
  refine wpAnyF_take (i := 1) (oi := ⟨some 20, .nilCheck (.tmp 19), 0, "house.go:293", #[⟨0, .data⟩], none⟩) (v := ?_) rfl (by kernel_rfl) (by kernel_rfl) (by kernel_rfl) (by kernel_rfl) (fun _ _ _ h => h) (Or.inl ⟨by rfl, ?_⟩) hS ?_
  rotate_left
  · intro w' _; go_simp; try with_reducible rfl
  try simp only [Act.put, pb, pz, ps]
  refine wpAnyF_take (i := 2) (oi := ⟨some 21, .fieldAddr 137 (.tmp 20) 0, 0, "house.go:293", #[⟨1, .data⟩], none⟩) (v := ?_) rfl (by kernel_rfl) (by kernel_rfl) (by kernel_rfl) (by kernel_rfl) (fun _ _ _ h => h) (Or.inl ⟨by rfl, ?_⟩) hS ?_
  rotate_left
  · intro w' _; go_simp; try with_reducible rfl
  try simp only [Act.put, pb, pz, ps]
  refine wpAnyF_take (i := 3) (oi := ⟨some 22, .load 33 (.tmp 21), 33, "house.go:293", #[⟨2, .data⟩], none⟩) (v := ?_) rfl (by kernel_rfl) (by kernel_rfl) (by kernel_rfl) (by kernel_rfl) (fun _ _ _ h => h) (Or.inl ⟨by rfl, ?_⟩) hS ?_
  rotate_left
  · intro w' hSw; refine Eq.trans (exec_load_mid 33 (.tmp 21) (by rfl) b 0 (by rfl) [.int .i64 kind, .int .i64 opens, .int .i64 closes, .int .i64 start, .int .i64 step, .int .i64 extend, .int .i64 last, .int .i64 floor, .int .i64 fall, .int .i64 count, .int .i64 rule] _ (fun j v hj => (hSw.cell (p := ⟨b, 0 + j, none⟩) lb).trans (HR.out j v hj)) Tryz.underlying33 rfl (by kernel_rfl)) ?_; with_reducible rfl
  try simp only [Act.put, pb, pz, ps]
  refine wpAnyF_take (i := 4) (oi := ⟨some 23, .move (.tmp 6), 135, "house.go:293", #[], none⟩) (v := ?_) rfl (by kernel_rfl) (by kernel_rfl) (by kernel_rfl) (by kernel_rfl) (fun _ _ _ h => h) (Or.inl ⟨by rfl, ?_⟩) hS ?_
  rotate_left
  · intro w' _; go_simp; try with_reducible rfl
  try simp only [Act.put, pb, pz, ps]
  refine wpAnyF_take (i := 5) (oi := ⟨some 24, .nilCheck (.tmp 23), 0, "house.go:293", #[⟨4, .data⟩], none⟩) (v := ?_) rfl (by kernel_rfl) (by kernel_rfl) (by kernel_rfl) (by kernel_rfl) (fun _ _ _ h => h) (Or.inl ⟨by rfl, ?_⟩) hS ?_
  rotate_left
  · intro w' _; go_simp; try with_reducible rfl
  try simp only [Act.put, pb, pz, ps]
  refine wpAnyF_take (i := 6) (oi := ⟨some 25, .fieldAddr 137 (.tmp 24) 2, 0, "house.go:293", #[⟨5, .data⟩], none⟩) (v := ?_) rfl (by kernel_rfl) (by kernel_rfl) (by kernel_rfl) (by kernel_rfl) (fun _ _ _ h => h) (Or.inl ⟨by rfl, ?_⟩) hS ?_
  rotate_left
  · intro w' _; go_simp; try with_reducible rfl
  try simp only [Act.put, pb, pz, ps]
  refine wpAnyF_take (i := 7) (oi := ⟨some 26, .load 2 (.tmp 25), 2, "house.go:293", #[⟨6, .data⟩], none⟩) (v := ?_) rfl (by kernel_rfl) (by kernel_rfl) (by kernel_rfl) (by kernel_rfl) (fun _ _ _ h => h) (Or.inl ⟨by rfl, ?_⟩) hS ?_
  rotate_left
  · intro w' hSw; have q12 := (hSw.cell (p := ⟨b, 12, none⟩) lb).trans l12; have q13 := (hSw.cell (p := ⟨b, 13, none⟩) lb).trans l13; have q14 := (hSw.cell (p := ⟨b, 14, none⟩) lb).trans l14; go_simp; try with_reducible rfl
  try simp only [Act.put, pb, pz, ps]
  refine wpAnyF_take (i := 8) (oi := ⟨some 27, .move (.tmp 6), 135, "house.go:293", #[], none⟩) (v := ?_) rfl (by kernel_rfl) (by kernel_rfl) (by kernel_rfl) (by kernel_rfl) (fun _ _ _ h => h) (Or.inl ⟨by rfl, ?_⟩) hS ?_
  rotate_left
  · intro w' _; go_simp; try with_reducible rfl
  try simp only [Act.put, pb, pz, ps]
  refine wpAnyF_take (i := 9) (oi := ⟨some 28, .nilCheck (.tmp 27), 0, "house.go:293", #[⟨8, .data⟩], none⟩) (v := ?_) rfl (by kernel_rfl) (by kernel_rfl) (by kernel_rfl) (by kernel_rfl) (fun _ _ _ h => h) (Or.inl ⟨by rfl, ?_⟩) hS ?_
  rotate_left
  · intro w' _; go_simp; try with_reducible rfl
  try simp only [Act.put, pb, pz, ps]
  refine wpAnyF_take (i := 10) (oi := ⟨some 29, .fieldAddr 137 (.tmp 28) 3, 0, "house.go:293", #[⟨9, .data⟩], none⟩) (v := ?_) rfl (by kernel_rfl) (by kernel_rfl) (by kernel_rfl) (by kernel_rfl) (fun _ _ _ h => h) (Or.inl ⟨by rfl, ?_⟩) hS ?_
  rotate_left
  · intro w' _; go_simp; try with_reducible rfl
  try simp only [Act.put, pb, pz, ps]
  refine wpAnyF_take (i := 11) (oi := ⟨some 30, .load 4 (.tmp 29), 4, "house.go:293", #[⟨10, .data⟩], none⟩) (v := ?_) rfl (by kernel_rfl) (by kernel_rfl) (by kernel_rfl) (by kernel_rfl) (fun _ _ _ h => h) (Or.inl ⟨by rfl, ?_⟩) hS ?_
  rotate_left
  · intro w' hSw; have q12 := (hSw.cell (p := ⟨b, 12, none⟩) lb).trans l12; have q13 := (hSw.cell (p := ⟨b, 13, none⟩) lb).trans l13; have q14 := (hSw.cell (p := ⟨b, 14, none⟩) lb).trans l14; go_simp; try with_reducible rfl
  try simp only [Act.put, pb, pz, ps]
  refine wpAnyF_take (i := 12) (oi := ⟨some 31, .move (.tmp 6), 135, "house.go:293", #[], none⟩) (v := ?_) rfl (by kernel_rfl) (by kernel_rfl) (by kernel_rfl) (by kernel_rfl) (fun _ _ _ h => h) (Or.inl ⟨by rfl, ?_⟩) hS ?_
  rotate_left
  · intro w' _; go_simp; try with_reducible rfl
  try simp only [Act.put, pb, pz, ps]
  refine wpAnyF_take (i := 13) (oi := ⟨some 32, .nilCheck (.tmp 31), 0, "house.go:293", #[⟨12, .data⟩], none⟩) (v := ?_) rfl (by kernel_rfl) (by kernel_rfl) (by kernel_rfl) (by kernel_rfl) (fun _ _ _ h => h) (Or.inl ⟨by rfl, ?_⟩) hS ?_
  rotate_left
  · intro w' _; go_simp; try with_reducible rfl
  try simp only [Act.put, pb, pz, ps]
  refine wpAnyF_take (i := 14) (oi := ⟨some 33, .fieldAddr 137 (.tmp 32) 4, 0, "house.go:293", #[⟨13, .data⟩], none⟩) (v := ?_) rfl (by kernel_rfl) (by kernel_rfl) (by kernel_rfl) (by kernel_rfl) (fun _ _ _ h => h) (Or.inl ⟨by rfl, ?_⟩) hS ?_
  rotate_left
  · intro w' _; go_simp; try with_reducible rfl
  try simp only [Act.put, pb, pz, ps]
  refine wpAnyF_take (i := 15) (oi := ⟨some 34, .load 99 (.tmp 33), 99, "house.go:293", #[⟨14, .data⟩], none⟩) (v := ?_) rfl (by kernel_rfl) (by kernel_rfl) (by kernel_rfl) (by kernel_rfl) (fun _ _ _ h => h) (Or.inl ⟨by rfl, ?_⟩) hS ?_
  rotate_left
  · intro w' hSw; have q12 := (hSw.cell (p := ⟨b, 12, none⟩) lb).trans l12; have q13 := (hSw.cell (p := ⟨b, 13, none⟩) lb).trans l13; have q14 := (hSw.cell (p := ⟨b, 14, none⟩) lb).trans l14; go_simp; try with_reducible rfl
  try simp only [Act.put, pb, pz, ps]
  refine wpAnyF_take (i := 16) (oi := ⟨some 35, .call { callee := .builtin .len, args := #[.tmp 34], argTypes := #[99] }, 3, "house.go:293", #[⟨15, .data⟩], none⟩) (v := ?_) rfl (by kernel_rfl) (by kernel_rfl) (by kernel_rfl) (by kernel_rfl) (fun _ _ _ h => h) (Or.inl ⟨by rfl, ?_⟩) hS ?_
  rotate_left
  · intro w' hSw; have q12 := (hSw.cell (p := ⟨b, 12, none⟩) lb).trans l12; have q13 := (hSw.cell (p := ⟨b, 13, none⟩) lb).trans l13; have q14 := (hSw.cell (p := ⟨b, 14, none⟩) lb).trans l14; go_simp; try with_reducible rfl
  try simp only [Act.put, pb, pz, ps]
  refine wpAnyF_take (i := 17) (oi := ⟨some 36, .build 119 #[(0, .tmp 22), (1, .tmp 26), (2, .tmp 30), (4, .const (.int .i64 (-1))), (5, .tmp 35)], 119, "house.go:293", #[⟨3, .data⟩, ⟨7, .data⟩, ⟨11, .data⟩, ⟨16, .data⟩], none⟩) (v := ?_) rfl (by kernel_rfl) (by kernel_rfl) (by kernel_rfl) (by kernel_rfl) (fun _ _ _ h => h) (Or.inl ⟨by rfl, ?_⟩) hS ?_
  rotate_left
  · intro w' _; go_simp; try with_reducible rfl
  try simp only [Act.put, pb, pz, ps]
  refine wpAnyF_ready (rs := [18]) (by kernel_rfl) (by simp) ?_
  refine AllReadyF.cons (o := ⟨some 8, .alloc 119, 0, "house.go:293", #[], none⟩) rfl (by rfl) (fun K hK => ?_) ?_
  · go_simp
    refine hK.out _ _ ?_ (fun hS => ?_)
    · exact hS.alloc hS.size _
    clear hK K
    try simp only [Act.put, pb, pz, ps]
    refine wpAnyF_ready (rs := [19]) (by kernel_rfl) (by simp) ?_
    refine AllReadyF.fin (o := ⟨none, .store 119 (.tmp 8) (.tmp 36), 0, "house.go:293", #[⟨18, .data⟩, ⟨17, .data⟩, ⟨0, .phase⟩, ⟨1, .phase⟩, ⟨2, .phase⟩, ⟨3, .phase⟩, ⟨4, .phase⟩, ⟨5, .phase⟩, ⟨6, .phase⟩, ⟨7, .phase⟩, ⟨8, .phase⟩, ⟨9, .phase⟩, ⟨10, .phase⟩, ⟨11, .phase⟩, ⟨12, .phase⟩, ⟨13, .phase⟩, ⟨14, .phase⟩, ⟨15, .phase⟩, ⟨16, .phase⟩, ⟨17, .phase⟩, ⟨18, .phase⟩], none⟩) rfl (by rfl) (fun K hK => ?_) ?_
    · go_simp
      refine hK.out _ _ ?_
      clear hK K
      try simp only [Act.put, pb, pz, ps]
      refine wpAnyF_done (by kernel_rfl) ?_ _
      clear hS
      obtain ⟨W3, hW3⟩ : ∃ W3, W3 = (W2.alloc (.cells #[.int .i64 kind, .int .i64 opens, .int .i64 closes, .int .i64 start, .int .i64 step, .int .i64 extend, .int .i64 last, .int .i64 floor, .int .i64 fall, .int .i64 count, .int .i64 rule, .int .i64 clo, .bool cld, .int .i64 0, .int .i64 (-1), .int .i64 ns] 119)).drew := ⟨_, rfl⟩
      have hb3 : Below W2.heap.size W2 W3 := by rw [hW3]; exact ((Below.refl _ _).alloc (Nat.le_refl _) _).drew
      have HX8 := Lib.hid (show Ac.Blk W3 W2.heap.size 119 #[.int .i64 kind, .int .i64 opens, .int .i64 closes, .int .i64 start, .int .i64 step, .int .i64 extend, .int .i64 last, .int .i64 floor, .int .i64 fall, .int .i64 count, .int .i64 rule, .int .i64 clo, .bool cld, .int .i64 0, .int .i64 (-1), .int .i64 ns] by rw [hW3]; exact Blk.new W2 _ _)
      have HX3 := Lib.hid (HX1.out.grow hb3)
      have HB3 := Lib.hid (HB1.out.trans (hb3.mono HB1.out.size))
      have HLAT3 := Lib.hid (HLAT.out.step (T' := T) (Chg.of (fun _ => False) hb3) (fun _ _ => id) fun _ _ => rfl)
      have HCAL3 := Lib.hid (HCAL.out.grow hb3)
      have HB23 := Lib.hid hb3.size
      have y11 := (hb3.cell (p := ⟨b, 11, none⟩) lb).trans l11
      have y15 := (hb3.cell (p := ⟨b, 15, none⟩) lb).trans l15
      have y0 := (hb3.cell (p := ⟨b, 0, none⟩) lb).trans l0
      have y3 := (hb3.cell (p := ⟨h, 3, none⟩) lh).trans c3
      have lb3 := Nat.lt_of_lt_of_le lb hb3.size
      have lh3 := Nat.lt_of_lt_of_le lh hb3.size
      have HLB := Lib.hid (show ¬ b = W2.heap.size by omega)
      rw [← hW3]
      clear hW3 hb3 l11 l12 l13 l14 l15 l0 c3 lb lh
      go_wp2_with fail
      refine wp_region_F (Below W3.heap.size W3) [15] (by kernel_rfl) ((Below.refl _ _).drew) (fun hS => ?_)
      refine wpAnyF_take (i := 0) (oi := ⟨some 37, .move (.tmp 6), 135, "house.go:294", #[], none⟩) (v := ?_) rfl (by kernel_rfl) (by kernel_rfl) (by kernel_rfl) (by kernel_rfl) (fun _ _ _ h => h) (Or.inl ⟨by rfl, ?_⟩) hS ?_
      rotate_left
      · intro w' _; go_simp; try with_reducible rfl
      try simp only [Act.put, pb, pz, ps]
      refine wpAnyF_take (i := 1) (oi := ⟨some 38, .nilCheck (.tmp 37), 0, "house.go:294", #[⟨0, .data⟩], none⟩) (v := ?_) rfl (by kernel_rfl) (by kernel_rfl) (by kernel_rfl) (by kernel_rfl) (fun _ _ _ h => h) (Or.inl ⟨by rfl, ?_⟩) hS ?_
      rotate_left
      · intro w' _; go_simp; try with_reducible rfl
      try simp only [Act.put, pb, pz, ps]
      refine wpAnyF_take (i := 2) (oi := ⟨some 39, .fieldAddr 137 (.tmp 38) 1, 0, "house.go:294", #[⟨1, .data⟩], none⟩) (v := ?_) rfl (by kernel_rfl) (by kernel_rfl) (by kernel_rfl) (by kernel_rfl) (fun _ _ _ h => h) (Or.inl ⟨by rfl, ?_⟩) hS ?_
      rotate_left
      · intro w' _; go_simp; try with_reducible rfl
      try simp only [Act.put, pb, pz, ps]
      refine wpAnyF_take (i := 3) (oi := ⟨some 40, .load 112 (.tmp 39), 112, "house.go:294", #[⟨2, .data⟩], none⟩) (v := ?_) rfl (by kernel_rfl) (by kernel_rfl) (by kernel_rfl) (by kernel_rfl) (fun _ _ _ h => h) (Or.inl ⟨by rfl, ?_⟩) hS ?_
      rotate_left
      · intro w' hSw; have q11 := (hSw.cell (p := ⟨b, 11, none⟩) lb3).trans y11; have q3 := (hSw.cell (p := ⟨h, 3, none⟩) lh3).trans y3; go_simp; try with_reducible rfl
      try simp only [Act.put, pb, pz, ps]
      refine wpAnyF_take (i := 4) (oi := ⟨some 41, .move (.tmp 6), 135, "house.go:294", #[], none⟩) (v := ?_) rfl (by kernel_rfl) (by kernel_rfl) (by kernel_rfl) (by kernel_rfl) (fun _ _ _ h => h) (Or.inl ⟨by rfl, ?_⟩) hS ?_
      rotate_left
      · intro w' _; go_simp; try with_reducible rfl
      try simp only [Act.put, pb, pz, ps]
      refine wpAnyF_take (i := 5) (oi := ⟨some 42, .move (.tmp 0), 23, "house.go:294", #[], none⟩) (v := ?_) rfl (by kernel_rfl) (by kernel_rfl) (by kernel_rfl) (by kernel_rfl) (fun _ _ _ h => h) (Or.inl ⟨by rfl, ?_⟩) hS ?_
      rotate_left
      · intro w' _; go_simp; try with_reducible rfl
      try simp only [Act.put, pb, pz, ps]
      refine wpAnyF_take (i := 6) (oi := ⟨some 43, .nilCheck (.tmp 42), 0, "house.go:294", #[⟨5, .data⟩], none⟩) (v := ?_) rfl (by kernel_rfl) (by kernel_rfl) (by kernel_rfl) (by kernel_rfl) (fun _ _ _ h => h) (Or.inl ⟨by rfl, ?_⟩) hS ?_
      rotate_left
      · intro w' _; go_simp; try with_reducible rfl
      try simp only [Act.put, pb, pz, ps]
      refine wpAnyF_take (i := 7) (oi := ⟨some 44, .fieldAddr 92 (.tmp 43) 0, 0, "house.go:294", #[⟨6, .data⟩], none⟩) (v := ?_) rfl (by kernel_rfl) (by kernel_rfl) (by kernel_rfl) (by kernel_rfl) (fun _ _ _ h => h) (Or.inl ⟨by rfl, ?_⟩) hS ?_
      rotate_left
      · intro w' _; go_simp; try with_reducible rfl
      try simp only [Act.put, pb, pz, ps]
      refine wpAnyF_take (i := 8) (oi := ⟨some 45, .fieldAddr 90 (.tmp 44) 3, 0, "house.go:294", #[⟨7, .data⟩], none⟩) (v := ?_) rfl (by kernel_rfl) (by kernel_rfl) (by kernel_rfl) (by kernel_rfl) (fun _ _ _ h => h) (Or.inl ⟨by rfl, ?_⟩) hS ?_
      rotate_left
      · intro w' _; go_simp; try with_reducible rfl
      try simp only [Act.put, pb, pz, ps]
      refine wpAnyF_take (i := 9) (oi := ⟨some 46, .load 84 (.tmp 45), 84, "house.go:294", #[⟨8, .data⟩], none⟩) (v := ?_) rfl (by kernel_rfl) (by kernel_rfl) (by kernel_rfl) (by kernel_rfl) (fun _ _ _ h => h) (Or.inl ⟨by rfl, ?_⟩) hS ?_
      rotate_left
      · intro w' hSw; have q11 := (hSw.cell (p := ⟨b, 11, none⟩) lb3).trans y11; have q3 := (hSw.cell (p := ⟨h, 3, none⟩) lh3).trans y3; go_simp; try with_reducible rfl
      try simp only [Act.put, pb, pz, ps]
      refine wpAnyF_take (i := 11) (oi := ⟨some 48, .nilCheck (.tmp 40), 112, "house.go:294", #[⟨3, .data⟩], none⟩) (v := ?_) rfl (by kernel_rfl) (by kernel_rfl) (by kernel_rfl) (by kernel_rfl) (fun _ _ _ h => h) (Or.inl ⟨by rfl, ?_⟩) hS ?_
      rotate_left
      · intro w' _; go_simp; try with_reducible rfl
      try simp only [Act.put, pb, pz, ps]
      refine wpAnyF_take (i := 12) (oi := ⟨some 49, .move (.tmp 40), 112, "house.go:294", #[⟨3, .data⟩, ⟨11, .data⟩], none⟩) (v := ?_) rfl (by kernel_rfl) (by kernel_rfl) (by kernel_rfl) (by kernel_rfl) (fun _ _ _ h => h) (Or.inl ⟨by rfl, ?_⟩) hS ?_
      rotate_left
      · intro w' _; go_simp; try with_reducible rfl
      try simp only [Act.put, pb, pz, ps]
      refine wpAnyF_ready (rs := [10]) (by kernel_rfl) (by simp) ?_
      refine AllReadyF.cons (o := ⟨some 47, .call { callee := .value (.func 58), args := #[.tmp 46], argTypes := #[84] }, 2, "house.go:294", #[⟨9, .data⟩], none⟩) rfl (by rfl) (fun K hK => ?_) ?_
      · go_simp
        refine (tnow_any (W := W3.drew) (HCAL3.out.grow (Below.refl _ _).drew)).mono ?_
        rintro e w7 ⟨rfl, rfl⟩
        refine hK.out _ _ ?_ (fun hS => ?_)
        · exact hS
        clear hK K
        try simp only [Act.put, pb, pz, ps]
        refine wpAnyF_ready (rs := [13]) (by kernel_rfl) (by simp) ?_
        refine AllReadyF.cons (o := ⟨some 50, .call { callee := .invoke (.tmp 49) "gavel/house.price", args := #[.tmp 41, .tmp 47], argTypes := #[135, 2] }, 2, "house.go:294", #[⟨12, .data⟩, ⟨4, .data⟩, ⟨10, .data⟩, ⟨10, .chain⟩], none⟩) rfl (by rfl) (fun K hK => ?_) ?_
        · refine step_price (k := l.put.kind) rfl rfl (lotOk_good HOK.out).1 (by rw [← HKD.out]; exact HKV.out.symm) rfl rfl ?_
          refine (price_any (HLAT3.out.step (T' := T) (Chg.of (fun _ => False) (Below.refl _ _).drew) (fun _ _ => id) fun _ _ => rfl) HOK.out nw).mono ?_
          rintro e W4 ⟨rfl, hb4⟩
          refine ⟨_, rfl, ?_⟩
          rw [show priceL l nw = pv by rw [HPV.out, HNW.out]]
          have hb4 : Below W3.heap.size W3 W4 := (Below.refl _ _).drew.trans (hb4.mono (Nat.le_refl _))
          have hx8 := HX8.out.grow hb4
          have c13 := hx8.cell 13
          have f13 := hx8.frozen 13
          have HX84 := Lib.hid hx8
          have HX4 := Lib.hid (HX3.out.grow hb4)
          have HB4 := Lib.hid (HB3.out.trans (hb4.mono HB3.out.size))
          have HB34 := Lib.hid hb4
          have z15 := (hb4.cell (p := ⟨b, 15, none⟩) lb3).trans y15
          have z0 := (hb4.cell (p := ⟨b, 0, none⟩) lb3).trans y0
          clear hx8 hb4
          refine hK.out _ _ ?_ (fun hS => ?_)
          · exact HB34.out
          clear hK K
          try simp only [Act.put, pb, pz, ps]
          refine wpAnyF_take (i := 14) (oi := ⟨some 51, .fieldAddr 119 (.tmp 8) 3, 0, "house.go:294", #[⟨0, .phase⟩, ⟨1, .phase⟩, ⟨2, .phase⟩, ⟨3, .phase⟩, ⟨4, .phase⟩, ⟨5, .phase⟩, ⟨6, .phase⟩, ⟨7, .phase⟩, ⟨8, .phase⟩, ⟨9, .phase⟩, ⟨10, .phase⟩, ⟨11, .phase⟩, ⟨12, .phase⟩, ⟨13, .phase⟩], none⟩) (v := ?_) rfl (by kernel_rfl) (by kernel_rfl) (by kernel_rfl) (by kernel_rfl) (fun _ _ _ h => h) (Or.inl ⟨by rfl, ?_⟩) hS ?_
          rotate_left
          · intro w' _; go_simp; try with_reducible rfl
          try simp only [Act.put, pb, pz, ps]
          refine wpAnyF_ready (rs := [15]) (by kernel_rfl) (by simp) ?_
          refine AllReadyF.fin (o := ⟨none, .store 2 (.tmp 51) (.tmp 50), 0, "house.go:294", #[⟨14, .data⟩, ⟨13, .data⟩, ⟨13, .chain⟩, ⟨0, .phase⟩, ⟨1, .phase⟩, ⟨2, .phase⟩, ⟨3, .phase⟩, ⟨4, .phase⟩, ⟨5, .phase⟩, ⟨6, .phase⟩, ⟨7, .phase⟩, ⟨8, .phase⟩, ⟨9, .phase⟩, ⟨10, .phase⟩, ⟨11, .phase⟩, ⟨12, .phase⟩, ⟨13, .phase⟩], none⟩) rfl (by rfl) (fun K hK => ?_) ?_
          · go_simp
            refine hK.out _ _ ?_
            clear hK K
            try simp only [Act.put, pb, pz, ps]
            refine wpAnyF_done (by kernel_rfl) ?_ _
            clear hS y11 y15 y0 y3 lb3 lh3
            obtain ⟨W5, hW5⟩ : ∃ W5, W5 = W4.setCell ⟨W2.heap.size, 13, none⟩ (.int .i64 pv) := ⟨_, rfl⟩
            have hc5 : Chg (· = W2.heap.size) W4 W5 := by rw [hW5]; exact Chg.set W4 ⟨W2.heap.size, 13, none⟩ _
            have HX85 := Lib.hid (show Ac.Blk W5 W2.heap.size 119 #[.int .i64 kind, .int .i64 opens, .int .i64 closes, .int .i64 start, .int .i64 step, .int .i64 extend, .int .i64 last, .int .i64 floor, .int .i64 fall, .int .i64 count, .int .i64 rule, .int .i64 clo, .bool cld, .int .i64 pv, .int .i64 (-1), .int .i64 ns] by rw [hW5]; exact HX84.out.set_ 13 _)
            have HX5 := Lib.hid (HX4.out.chg hc5 (by have := HX1.out.lt; omega))
            have HB5 := Lib.hid (show Below W.heap.size W W5 from HB4.out.trans (hc5.below HB4.out.size (fun x hx e => by have := HB1.out.size; omega)))
            have z15 := (hc5.cell (p := ⟨b, 15, none⟩) (block_lt_of_cell z15) HLB.out).trans z15
            have z0 := (hc5.cell (p := ⟨b, 0, none⟩) (block_lt_of_cell z0) HLB.out).trans z0
            rw [← hW5]
            have c14 := HX85.out.cell 14
            have f14 := HX85.out.frozen 14
            clear hW5 hc5 c13 f13
            by_cases hk1 : kd = 1
            · have HE := Lib.hid (show lnc = #[.int .i64 kind, .int .i64 opens, .int .i64 closes, .int .i64 start, .int .i64 step, .int .i64 extend, .int .i64 last, .int .i64 floor, .int .i64 fall, .int .i64 count, .int .i64 rule, .int .i64 clo, .bool cld, .int .i64 pv, .int .i64 ld, .int .i64 ns] by rw [HLC.out, HLX.out, if_pos hk1])
              have hk2 : (kd == 1) = true := by simp [hk1]
              clear hk1
              go_wp2_with (first | (refine wpList_load_row rfl 119 (.tmp 8) rfl W2.heap.size rfl 119 #[.int .i64 kind, .int .i64 opens, .int .i64 closes, .int .i64 start, .int .i64 step, .int .i64 extend, .int .i64 last, .int .i64 floor, .int .i64 fall, .int .i64 count, .int .i64 rule, .int .i64 clo, .bool cld, .int .i64 pv, .int .i64 ld, .int .i64 ns] (0, 0) _ (HX85.out.set_ 14 _) Tryz.underlying119 rfl (by kernel_rfl) ?_) | (refine wpList_store_row rfl 119 (.tmp 4) (.tmp 64) rfl W.heap.size #[.int .i64 kind, .int .i64 opens, .int .i64 closes, .int .i64 start, .int .i64 step, .int .i64 extend, .int .i64 last, .int .i64 floor, .int .i64 fall, .int .i64 count, .int .i64 rule, .int .i64 clo, .bool cld, .int .i64 pv, .int .i64 ld, .int .i64 ns] rfl rfl 119 _ (HX5.out.far (Nat.ne_of_lt HX1.out.lt) _) (by kernel_rfl) rfl (by kernel_rfl) ?_))
              refine bodyPost_ret (results_cell_row2 rfl _ _ W.heap.size 119 #[.int .i64 kind, .int .i64 opens, .int .i64 closes, .int .i64 start, .int .i64 step, .int .i64 extend, .int .i64 last, .int .i64 floor, .int .i64 fall, .int .i64 count, .int .i64 rule, .int .i64 clo, .bool cld, .int .i64 pv, .int .i64 ld, .int .i64 ns] (0, 0) _ rfl (setRow_heap _ _ _ _ _ _ (HX5.out.far (Nat.ne_of_lt HX1.out.lt) _)) Tryz.underlying119 rfl (by kernel_rfl)) rfl ⟨by rw [HE.out]; rfl, ?_⟩
              exact below_setRow (HB5.out.setCell (p := ⟨W2.heap.size, 14, none⟩) (Nat.le_of_lt HX1.out.lt) _) (Nat.le_refl _) _
            · have HE := Lib.hid (show lnc = #[.int .i64 kind, .int .i64 opens, .int .i64 closes, .int .i64 start, .int .i64 step, .int .i64 extend, .int .i64 last, .int .i64 floor, .int .i64 fall, .int .i64 count, .int .i64 rule, .int .i64 clo, .bool cld, .int .i64 pv, .int .i64 (-1), .int .i64 ns] by rw [HLC.out, HLX.out, if_neg hk1])
              have hk2 : (kd == 1) = false := by simp [hk1]
              clear hk1
              go_wp2_with (first | (refine wpList_load_row rfl 119 (.tmp 8) rfl W2.heap.size rfl 119 #[.int .i64 kind, .int .i64 opens, .int .i64 closes, .int .i64 start, .int .i64 step, .int .i64 extend, .int .i64 last, .int .i64 floor, .int .i64 fall, .int .i64 count, .int .i64 rule, .int .i64 clo, .bool cld, .int .i64 pv, .int .i64 (-1), .int .i64 ns] (0, 0) _ HX85.out Tryz.underlying119 rfl (by kernel_rfl) ?_) | (refine wpList_store_row rfl 119 (.tmp 4) (.tmp 64) rfl W.heap.size #[.int .i64 kind, .int .i64 opens, .int .i64 closes, .int .i64 start, .int .i64 step, .int .i64 extend, .int .i64 last, .int .i64 floor, .int .i64 fall, .int .i64 count, .int .i64 rule, .int .i64 clo, .bool cld, .int .i64 pv, .int .i64 (-1), .int .i64 ns] rfl rfl 119 _ HX5.out (by kernel_rfl) rfl (by kernel_rfl) ?_))
              refine bodyPost_ret (results_cell_row2 rfl _ _ W.heap.size 119 #[.int .i64 kind, .int .i64 opens, .int .i64 closes, .int .i64 start, .int .i64 step, .int .i64 extend, .int .i64 last, .int .i64 floor, .int .i64 fall, .int .i64 count, .int .i64 rule, .int .i64 clo, .bool cld, .int .i64 pv, .int .i64 (-1), .int .i64 ns] (0, 0) _ rfl (setRow_heap _ _ _ _ _ _ HX5.out) Tryz.underlying119 rfl (by kernel_rfl)) rfl ⟨by rw [HE.out]; rfl, ?_⟩
              exact below_setRow HB5.out (Nat.le_refl _) _
          exact AllReadyF.nil
        exact AllReadyF.nil
      exact AllReadyF.nil
    exact AllReadyF.nil
  exact AllReadyF.nil
end Go.Proofs.YthoaidfpgijbfaaGreat.Ho
namespace Go.Proofs.YthoaidfpgijbfaaGreat.Ho
open Go.RowKit
open Go.Proofs.YthoaidfpgijbfaaGreat.Vb Go.Proofs.YthoaidfpgijbfaaGreat.Ac
theorem et_rlot : ElemT Tryz.prog 50 127 19 168 := elemT_of Tryz.underlying50 (by omega) (z := .agg #[.int .i64 0, .int .i64 0, .int .i64 0, .int .i64 0, .int .i64 0, .int .i64 0, .int .i64 0, .int .i64 0, .int .i64 0, .int .i64 0, .int .i64 0, .int .i64 0, .bool false, .slice none 0 0, .int .i64 0, .int .i64 0, .int .i64 0, .int .i64 0, .int .i64 0]) (by kernel_rfl) rfl
theorem rlotsCells_one {ls : List LotS} {vo : Nat → Value} (h : ∀ k l, ls[k]? = some l → ∃ A c, vo k = .slice A l.stands.length c) : ∀ u ∈ rlotsCells ls vo, u.oneCell' = true := by
  intro u hu
  unfold rlotsCells at hu
  obtain ⟨y, hy, huy⟩ := List.mem_flatten.1 hu
  obtain ⟨k, hk, rfl⟩ := List.mem_mapIdx.1 hy
  obtain ⟨A, c, hv⟩ := h k ls[k] (by simp [hk])
  rw [hv] at huy
  unfold rlotCells at huy
  simp at huy
  rcases huy with rfl | rfl | rfl | rfl | rfl | rfl | rfl | rfl | rfl | rfl | rfl | rfl | rfl | rfl | rfl | rfl | rfl | rfl | rfl <;> rfl
theorem rlotsCells_snoc (ls : List LotS) (l : LotS) (vo : Nat → Value) (v : Value) : rlotsCells (ls ++ [l]) (fun k => if k = ls.length then v else vo k) = rlotsCells ls vo ++ rlotCells l v := by
  unfold rlotsCells
  rw [mapIdx_snoc, List.flatten_append]
  simp only [if_true, List.flatten_cons, List.flatten_nil, List.append_nil]
  congr 2
  exact mapIdx_congr' fun i x hi => by simp [show ¬ i = ls.length by omega]
set_option maxRecDepth 100000 in
set_option maxHeartbeats 8000000 in
theorem rput_err {W : World} {R : Nat → Prop} {r : Nat} {H : House} (hR : RefIn W R r H) (hlen : H.lots.length ≤ 4096) (o : OrderR) (vo : Value) (he : putE H o.put ≠ 0) :
    Calls Tryz.prog 96 #[.pointer (some ⟨r, 0, none⟩), o.agg vo] W fun e W' => e = .returned (.tuple #[.int .i64 0, .int .i64 (putE H o.put)]) ∧ Below W.heap.size W W' := by
  obtain ⟨W1, hW1⟩ : ∃ W1, W1 = W.alloc (.cells (o.cells vo).toArray 36) := ⟨_, rfl⟩
  have hb1 : Below W.heap.size W W1 := by rw [hW1]; exact (Below.refl _ _).alloc (Nat.le_refl _) _
  have hx : Ac.Blk W1 W.heap.size 36 (o.cells vo).toArray := by rw [hW1]; exact Blk.new _ _ _
  have hck := fun w => rcheck_any o.put w
  obtain ⟨z, hz⟩ : ∃ z, z = putE H o.put := ⟨_, rfl⟩
  rw [← hz] at he ⊢
  unfold putE at hz
  obtain ⟨vn, vb, vp, vl, vs, vk, h1⟩ := hR.grow hb1
  obtain ⟨A, c, hvl⟩ := h1.lots.form
  subst hvl
  have HR1 := Lib.hid h1
  have HB1 := Lib.hid hb1
  have HX := Lib.hid hx
  have HNE := Lib.hid he
  obtain ⟨nl, hnl⟩ : ∃ n, n = H.lots.length := ⟨_, rfl⟩
  obtain ⟨now, hnow⟩ : ∃ n, n = H.now := ⟨_, rfl⟩
  have c3 := h1.cells.2.2.2.1
  have c6 := h1.cells.2.2.2.2.2.2.1
  have rl := h1.blk.lt
  rw [← hnl] at hz c3 hlen
  rw [← hnow] at hz c6
  obtain ⟨okind, oname, ocoins, obidder, olot, ⟨kind, opens, closes, start, step, extend, last, floor, fall, count, rule⟩, ooff, otick⟩ := o
  simp only [OrderR.agg, OrderR.cells, LotR.cells, List.cons_append, List.nil_append] at hW1 hx ⊢
  simp only at hck hz
  have x6 : W1.cell? ⟨W.heap.size, 6, none⟩ = some (.int .i64 opens) := hx.cell 6
  have xl := hx.lt
  cases hok : lotOk ⟨kind, opens, closes, start, step, extend, last, floor, fall, count, rule⟩ with
  | false =>
    rw [hok] at hck hz
    simp only [if_true, Bool.false_eq_true, if_false] at hck hz
    have HCK := Lib.hid hck
    subst hz
    clear hR h1 hb1 hx hck hok hnl hnow he
    go_enter Tryz.func96, Tryz.ntmps96
    go_wp2_with fail
    rw [← hW1]
    refine (HCK.out _).mono ?_
    rintro e W2 ⟨rfl, hb2⟩
    have HB2 := Lib.hid (HB1.out.trans (hb2.mono HB1.out.size))
    clear hb2 hW1
    go_wp2_with fail
    go_ret2
    exact ⟨rfl, HB2.out⟩
  | true =>
    rw [hok] at hck hz
    simp only [if_true] at hck
    rw [if_neg (by decide)] at hz
    have HCK := Lib.hid hck
    clear hR h1 hb1 hx hck hok hnl hnow he
    go_enter Tryz.func96, Tryz.ntmps96
    go_wp2_with fail
    rw [← hW1]
    refine (HCK.out _).mono ?_
    rintro e W2 ⟨rfl, hb2⟩
    have HB2 := Lib.hid (HB1.out.trans (hb2.mono HB1.out.size))
    have y6 := (hb2.cell (p := ⟨W.heap.size, 6, none⟩) xl).trans x6
    have d3 := (hb2.cell (p := ⟨r, 3, none⟩) rl).trans c3
    have d6 := (hb2.cell (p := ⟨r, 6, none⟩) rl).trans c6
    have rl2 := Nat.lt_of_lt_of_le rl hb2.size
    have xl2 := Nat.lt_of_lt_of_le xl hb2.size
    clear hb2 hW1 x6 c3 c6 rl xl
    go_wp2_with fail
    refine wp_region_F (Below W2.heap.size W2) [] (by kernel_rfl) ((Below.refl _ _).drew) (fun hS => ?_)
    refine wpAnyF_take (i := 0) (oi := ⟨some 11, .fieldAddr 36 (.tmp 3) 5, 0, "ref.go:211", #[], none⟩) (v := ?_) rfl (by kernel_rfl) (by kernel_rfl) (by kernel_rfl) (by kernel_rfl) (fun _ _ _ h => h) (Or.inl ⟨by rfl, ?_⟩) hS ?_
    rotate_left
    · intro w' _; go_simp; try with_reducible rfl
    try simp only [Act.put, pb, pz, ps]
    refine wpAnyF_take (i := 1) (oi := ⟨some 12, .fieldAddr 33 (.tmp 11) 1, 0, "ref.go:211", #[⟨0, .data⟩], none⟩) (v := ?_) rfl (by kernel_rfl) (by kernel_rfl) (by kernel_rfl) (by kernel_rfl) (fun _ _ _ h => h) (Or.inl ⟨by rfl, ?_⟩) hS ?_
    rotate_left
    · intro w' _; go_simp; try with_reducible rfl
    try simp only [Act.put, pb, pz, ps]
    refine wpAnyF_take (i := 2) (oi := ⟨some 13, .load 2 (.tmp 12), 2, "ref.go:211", #[⟨1, .data⟩], none⟩) (v := ?_) rfl (by kernel_rfl) (by kernel_rfl) (by kernel_rfl) (by kernel_rfl) (fun _ _ _ h => h) (Or.inl ⟨by rfl, ?_⟩) hS ?_
    rotate_left
    · intro w' hSw; have q0 := (hSw.cell (p := ⟨W.heap.size, 6, none⟩) xl2).trans y6; have q1 := (hSw.cell (p := ⟨r, 6, none⟩) rl2).trans d6; go_simp; try with_reducible rfl
    try simp only [Act.put, pb, pz, ps]
    refine wpAnyF_take (i := 3) (oi := ⟨some 14, .move (.tmp 0), 47, "ref.go:211", #[], none⟩) (v := ?_) rfl (by kernel_rfl) (by kernel_rfl) (by kernel_rfl) (by kernel_rfl) (fun _ _ _ h => h) (Or.inl ⟨by rfl, ?_⟩) hS ?_
    rotate_left
    · intro w' _; go_simp; try with_reducible rfl
    try simp only [Act.put, pb, pz, ps]
    refine wpAnyF_take (i := 4) (oi := ⟨some 15, .nilCheck (.tmp 14), 0, "ref.go:211", #[⟨3, .data⟩], none⟩) (v := ?_) rfl (by kernel_rfl) (by kernel_rfl) (by kernel_rfl) (by kernel_rfl) (fun _ _ _ h => h) (Or.inl ⟨by rfl, ?_⟩) hS ?_
    rotate_left
    · intro w' _; go_simp; try with_reducible rfl
    try simp only [Act.put, pb, pz, ps]
    refine wpAnyF_take (i := 5) (oi := ⟨some 16, .fieldAddr 52 (.tmp 15) 6, 0, "ref.go:211", #[⟨4, .data⟩], none⟩) (v := ?_) rfl (by kernel_rfl) (by kernel_rfl) (by kernel_rfl) (by kernel_rfl) (fun _ _ _ h => h) (Or.inl ⟨by rfl, ?_⟩) hS ?_
    rotate_left
    · intro w' _; go_simp; try with_reducible rfl
    try simp only [Act.put, pb, pz, ps]
    refine wpAnyF_take (i := 6) (oi := ⟨some 17, .load 2 (.tmp 16), 2, "ref.go:211", #[⟨5, .data⟩], none⟩) (v := ?_) rfl (by kernel_rfl) (by kernel_rfl) (by kernel_rfl) (by kernel_rfl) (fun _ _ _ h => h) (Or.inl ⟨by rfl, ?_⟩) hS ?_
    rotate_left
    · intro w' hSw; have q0 := (hSw.cell (p := ⟨W.heap.size, 6, none⟩) xl2).trans y6; have q1 := (hSw.cell (p := ⟨r, 6, none⟩) rl2).trans d6; go_simp; try with_reducible rfl
    try simp only [Act.put, pb, pz, ps]
    refine wpAnyF_take (i := 7) (oi := ⟨some 18, .binOp .lss 2 (.tmp 13) (.tmp 17) 2, 4, "ref.go:211", #[⟨2, .data⟩, ⟨6, .data⟩], none⟩) (v := ?_) rfl (by kernel_rfl) (by kernel_rfl) (by kernel_rfl) (by kernel_rfl) (fun _ _ _ h => h) (Or.inl ⟨by rfl, ?_⟩) hS ?_
    rotate_left
    · intro w' _; go_simp; try with_reducible rfl
    try simp only [Act.put, pb, pz, ps]
    refine wpAnyF_done (by kernel_rfl) ?_ _
    have HS := Lib.hid hS
    clear hS
    have d3' : W2.drew.cell? ⟨r, 3, none⟩ = some (.slice A nl c) := d3
    clear d3
    by_cases h1 : opens < now
    · rw [if_pos h1] at hz
      subst hz
      go_wp2_with fail
      go_ret2
      exact ⟨rfl, HB2.out.trans (HS.out.mono HB2.out.size)⟩
    · rw [if_neg h1] at hz
      by_cases h2 : nl = 4096
      · rw [if_pos h2] at hz
        subst hz
        subst h2
        go_wp2_with fail
        go_ret2
        exact ⟨rfl, HB2.out.trans (HS.out.mono HB2.out.size)⟩
      · rw [if_neg h2] at hz
        exact absurd hz HNE.out
set_option maxRecDepth 100000 in
set_option maxHeartbeats 8000000 in
theorem rput_ok {W : World} {R : Nat → Prop} {r : Nat} {H : House} (hR : RefIn W R r H) (hlen : H.lots.length ≤ 4096) (o : OrderR) (vo : Value) (he : putE H o.put = 0) :
    Calls Tryz.prog 96 #[.pointer (some ⟨r, 0, none⟩), o.agg vo] W fun e W' => e = .returned (.tuple #[.int .i64 H.lots.length, .int .i64 0]) ∧ RefIn W' (fun b => R b ∨ W.heap.size ≤ b) r (putH H o.put) ∧ Chg (· = r) W W' := by
  have hok : lotOk o.put = true := by
    cases h1 : lotOk o.put with
    | true => rfl
    | false => unfold putE at he; rw [if_pos h1] at he; cases he
  unfold putE at he
  rw [if_neg (by rw [hok]; simp)] at he
  have hop : ¬ o.put.opens < H.now := fun h1 => by rw [if_pos h1] at he; cases he
  rw [if_neg hop] at he
  have hle : ¬ H.lots.length = 4096 := fun h2 => by rw [if_pos h2] at he; cases he
  obtain ⟨W1, hW1⟩ : ∃ W1, W1 = W.alloc (.cells (o.cells vo).toArray 36) := ⟨_, rfl⟩
  have hb1 : Below W.heap.size W W1 := by rw [hW1]; exact (Below.refl _ _).alloc (Nat.le_refl _) _
  have hx : Ac.Blk W1 W.heap.size 36 (o.cells vo).toArray := by rw [hW1]; exact Blk.new _ _ _
  have hck := fun w => rcheck_any o.put w
  rw [hok] at hck
  simp only [if_true] at hck
  have hrl0 : r < W.heap.size := by obtain ⟨_, _, _, _, _, _, h⟩ := hR; exact h.blk.lt
  obtain ⟨P, hP⟩ : ∃ P, P = o.put := ⟨_, rfl⟩
  have HP := Lib.hid hP
  have HR0 := Lib.hid hR
  have HB1 := Lib.hid hb1
  have HX := Lib.hid hx
  have HCK := Lib.hid hck
  obtain ⟨vn, vb, vp, vl, vs, vk, h1⟩ := hR.grow hb1
  have c6 := h1.cells.2.2.2.2.2.2.1
  have rl := h1.blk.lt
  obtain ⟨now, hnow⟩ : ∃ n, n = H.now := ⟨_, rfl⟩
  rw [← hnow] at c6 hop
  rw [← hP]
  obtain ⟨okind, oname, ocoins, obidder, olot, ⟨kind, opens, closes, start, step, extend, last, floor, fall, count, rule⟩, ooff, otick⟩ := o
  simp only [OrderR.agg, OrderR.cells, LotR.cells, List.cons_append, List.nil_append] at hW1 hx ⊢
  simp only at hP hop HCK HP
  have x6 : W1.cell? ⟨W.heap.size, 6, none⟩ = some (.int .i64 opens) := hx.cell 6
  have xl := hx.lt
  have HRA1 := Lib.hid h1
  have HLE := Lib.hid (show H.lots.length ≤ 4095 by omega)
  have HNOW := Lib.hid hnow
  clear hR h1 hb1 hx hck hok he hle hlen hP hnow
  go_enter Tryz.func96, Tryz.ntmps96
  go_wp2_with fail
  rw [← hW1]
  refine (HCK.out _).mono ?_
  rintro e W2 ⟨rfl, hb2⟩
  have HB2 := Lib.hid (HB1.out.trans (hb2.mono HB1.out.size))
  have HX2 := Lib.hid (HX.out.grow hb2)
  have HRA2 := Lib.hid (HRA1.out.grow hb2)
  have y6 := (hb2.cell (p := ⟨W.heap.size, 6, none⟩) xl).trans x6
  have d6 := (hb2.cell (p := ⟨r, 6, none⟩) rl).trans c6
  have rl2 := Nat.lt_of_lt_of_le rl hb2.size
  have xl2 := Nat.lt_of_lt_of_le xl hb2.size
  clear hb2 hW1 x6 c6 rl xl
  go_wp2_with fail
  refine wp_region_F (Below W2.heap.size W2) [] (by kernel_rfl) ((Below.refl _ _).drew) (fun hS => ?_)
  refine wpAnyF_take (i := 0) (oi := ⟨some 11, .fieldAddr 36 (.tmp 3) 5, 0, "ref.go:211", #[], none⟩) (v := ?_) rfl (by kernel_rfl) (by kernel_rfl) (by kernel_rfl) (by kernel_rfl) (fun _ _ _ h => h) (Or.inl ⟨by rfl, ?_⟩) hS ?_
  rotate_left
  · intro w' _; go_simp; try with_reducible rfl
  try simp only [Act.put, pb, pz, ps]
  refine wpAnyF_take (i := 1) (oi := ⟨some 12, .fieldAddr 33 (.tmp 11) 1, 0, "ref.go:211", #[⟨0, .data⟩], none⟩) (v := ?_) rfl (by kernel_rfl) (by kernel_rfl) (by kernel_rfl) (by kernel_rfl) (fun _ _ _ h => h) (Or.inl ⟨by rfl, ?_⟩) hS ?_
  rotate_left
  · intro w' _; go_simp; try with_reducible rfl
  try simp only [Act.put, pb, pz, ps]
  refine wpAnyF_take (i := 2) (oi := ⟨some 13, .load 2 (.tmp 12), 2, "ref.go:211", #[⟨1, .data⟩], none⟩) (v := ?_) rfl (by kernel_rfl) (by kernel_rfl) (by kernel_rfl) (by kernel_rfl) (fun _ _ _ h => h) (Or.inl ⟨by rfl, ?_⟩) hS ?_
  rotate_left
  · intro w' hSw; have q0 := (hSw.cell (p := ⟨W.heap.size, 6, none⟩) xl2).trans y6; have q1 := (hSw.cell (p := ⟨r, 6, none⟩) rl2).trans d6; go_simp; try with_reducible rfl
  try simp only [Act.put, pb, pz, ps]
  refine wpAnyF_take (i := 3) (oi := ⟨some 14, .move (.tmp 0), 47, "ref.go:211", #[], none⟩) (v := ?_) rfl (by kernel_rfl) (by kernel_rfl) (by kernel_rfl) (by kernel_rfl) (fun _ _ _ h => h) (Or.inl ⟨by rfl, ?_⟩) hS ?_
  rotate_left
  · intro w' _; go_simp; try with_reducible rfl
  try simp only [Act.put, pb, pz, ps]
  refine wpAnyF_take (i := 4) (oi := ⟨some 15, .nilCheck (.tmp 14), 0, "ref.go:211", #[⟨3, .data⟩], none⟩) (v := ?_) rfl (by kernel_rfl) (by kernel_rfl) (by kernel_rfl) (by kernel_rfl) (fun _ _ _ h => h) (Or.inl ⟨by rfl, ?_⟩) hS ?_
  rotate_left
  · intro w' _; go_simp; try with_reducible rfl
  try simp only [Act.put, pb, pz, ps]
  refine wpAnyF_take (i := 5) (oi := ⟨some 16, .fieldAddr 52 (.tmp 15) 6, 0, "ref.go:211", #[⟨4, .data⟩], none⟩) (v := ?_) rfl (by kernel_rfl) (by kernel_rfl) (by kernel_rfl) (by kernel_rfl) (fun _ _ _ h => h) (Or.inl ⟨by rfl, ?_⟩) hS ?_
  rotate_left
  · intro w' _; go_simp; try with_reducible rfl
  try simp only [Act.put, pb, pz, ps]
  refine wpAnyF_take (i := 6) (oi := ⟨some 17, .load 2 (.tmp 16), 2, "ref.go:211", #[⟨5, .data⟩], none⟩) (v := ?_) rfl (by kernel_rfl) (by kernel_rfl) (by kernel_rfl) (by kernel_rfl) (fun _ _ _ h => h) (Or.inl ⟨by rfl, ?_⟩) hS ?_
  rotate_left
  · intro w' hSw; have q0 := (hSw.cell (p := ⟨W.heap.size, 6, none⟩) xl2).trans y6; have q1 := (hSw.cell (p := ⟨r, 6, none⟩) rl2).trans d6; go_simp; try with_reducible rfl
  try simp only [Act.put, pb, pz, ps]
  refine wpAnyF_take (i := 7) (oi := ⟨some 18, .binOp .lss 2 (.tmp 13) (.tmp 17) 2, 4, "ref.go:211", #[⟨2, .data⟩, ⟨6, .data⟩], none⟩) (v := ?_) rfl (by kernel_rfl) (by kernel_rfl) (by kernel_rfl) (by kernel_rfl) (fun _ _ _ h => h) (Or.inl ⟨by rfl, ?_⟩) hS ?_
  rotate_left
  · intro w' _; go_simp; try with_reducible rfl
  try simp only [Act.put, pb, pz, ps]
  refine wpAnyF_done (by kernel_rfl) ?_ _
  obtain ⟨W3, hW3⟩ : ∃ W3, W3 = W2.drew := ⟨_, rfl⟩
  rw [← hW3]
  have hb3 : Below W2.heap.size W2 W3 := by rw [hW3]; exact (Below.refl _ _).drew
  have HB3 := Lib.hid (HB2.out.trans (hb3.mono HB2.out.size))
  have hx3 := HX2.out.grow hb3
  obtain ⟨A, c, hvl⟩ := HRA2.out.lots.form
  subst hvl
  have hra3 := HRA2.out.grow hb3
  obtain ⟨nl, hnl⟩ : ∃ n, n = H.lots.length := ⟨_, rfl⟩
  have r3 := hra3.cells.2.2.2.1
  rw [← hnl] at r3
  have HNL := Lib.hid hnl
  have h2 : ¬ (4096 : Int) ≤ (nl : Int) := by have := HLE.out; omega
  have z5 : W3.cell? ⟨W.heap.size, 5, none⟩ = some (.int .i64 kind) := hx3.cell 5
  have z6 : W3.cell? ⟨W.heap.size, 6, none⟩ = some (.int .i64 opens) := hx3.cell 6
  have z7 : W3.cell? ⟨W.heap.size, 7, none⟩ = some (.int .i64 closes) := hx3.cell 7
  have z8 : W3.cell? ⟨W.heap.size, 8, none⟩ = some (.int .i64 start) := hx3.cell 8
  have z9 : W3.cell? ⟨W.heap.size, 9, none⟩ = some (.int .i64 step) := hx3.cell 9
  have z10 : W3.cell? ⟨W.heap.size, 10, none⟩ = some (.int .i64 extend) := hx3.cell 10
  have z11 : W3.cell? ⟨W.heap.size, 11, none⟩ = some (.int .i64 last) := hx3.cell 11
  have z12 : W3.cell? ⟨W.heap.size, 12, none⟩ = some (.int .i64 floor) := hx3.cell 12
  have z13 : W3.cell? ⟨W.heap.size, 13, none⟩ = some (.int .i64 fall) := hx3.cell 13
  have z14 : W3.cell? ⟨W.heap.size, 14, none⟩ = some (.int .i64 count) := hx3.cell 14
  have z15 : W3.cell? ⟨W.heap.size, 15, none⟩ = some (.int .i64 rule) := hx3.cell 15
  have HRA3 := Lib.hid hra3
  clear hS hW3 hb3 hx3 hra3 hnl d6 y6 rl2 xl2
  go_wp2_with (refine wpList_store_row rfl 127 (.tmp 6) (.tmp 34) rfl W3.heap.size #[.int .i64 kind, .int .i64 opens, .int .i64 closes, .int .i64 start, .int .i64 step, .int .i64 extend, .int .i64 last, .int .i64 floor, .int .i64 fall, .int .i64 count, .int .i64 rule, .int .i64 closes, .bool false, .slice none 0 0, .int .i64 (-1), .int .i64 0, .int .i64 0, .int .i64 closes, .int .i64 0] rfl rfl 127 #[.int .i64 0, .int .i64 0, .int .i64 0, .int .i64 0, .int .i64 0, .int .i64 0, .int .i64 0, .int .i64 0, .int .i64 0, .int .i64 0, .int .i64 0, .int .i64 0, .bool false, .slice none 0 0, .int .i64 0, .int .i64 0, .int .i64 0, .int .i64 0, .int .i64 0] (Blk.new W3 _ _) (by kernel_rfl) rfl (by kernel_rfl) ?_)
  obtain ⟨U, hU⟩ : ∃ U, U = (W3.alloc (.cells #[.int .i64 0, .int .i64 0, .int .i64 0, .int .i64 0, .int .i64 0, .int .i64 0, .int .i64 0, .int .i64 0, .int .i64 0, .int .i64 0, .int .i64 0, .int .i64 0, .bool false, .slice none 0 0, .int .i64 0, .int .i64 0, .int .i64 0, .int .i64 0, .int .i64 0] 127)).setRow W3.heap.size #[.int .i64 kind, .int .i64 opens, .int .i64 closes, .int .i64 start, .int .i64 step, .int .i64 extend, .int .i64 last, .int .i64 floor, .int .i64 fall, .int .i64 count, .int .i64 rule, .int .i64 closes, .bool false, .slice none 0 0, .int .i64 (-1), .int .i64 0, .int .i64 0, .int .i64 closes, .int .i64 0] := ⟨_, rfl⟩
  have hbU : Below W3.heap.size W3 U := by rw [hU]; exact below_setRow ((Below.refl _ _).alloc (Nat.le_refl _) _) (Nat.le_refl _) _
  have HXU := Lib.hid (show Ac.Blk U W3.heap.size 127 #[.int .i64 kind, .int .i64 opens, .int .i64 closes, .int .i64 start, .int .i64 step, .int .i64 extend, .int .i64 last, .int .i64 floor, .int .i64 fall, .int .i64 count, .int .i64 rule, .int .i64 closes, .bool false, .slice none 0 0, .int .i64 (-1), .int .i64 0, .int .i64 0, .int .i64 closes, .int .i64 0] by rw [hU]; exact Blk.setRow (Blk.new W3 _ _) _)
  have HBU := Lib.hid (HB3.out.trans (hbU.mono HB3.out.size))
  have hraU := HRA3.out.grow hbU
  obtain ⟨vol, hbk, hvo⟩ := hraU.lots
  rw [← HNL.out] at hbk
  have r3U := hraU.cells.2.2.2.1
  rw [← HNL.out] at r3U
  have rlU := hraU.blk.lt
  have HBK := Lib.hid hbk
  have HVO := Lib.hid hvo
  have HONE := Lib.hid (rlotsCells_one (vo := vol) fun k l hk => (hvo k l hk).1)
  have HRA := Lib.hid hraU
  have HBD := Lib.hid (show nl ≤ 4096 by rw [HNL.out]; have := HLE.out; omega)
  have hs3 := HB3.out.size
  rw [← hU]
  clear hU hbU hbk hvo hraU r3 z5 z6 z7 z8 z9 z10 z11 z12 z13 z14 z15
  refine wp_region_F (Below U.heap.size U) [11] (by kernel_rfl) ((Below.refl _ _).drew) (fun hS => ?_)
  refine wpAnyF_take (i := 0) (oi := ⟨some 35, .move (.tmp 0), 47, "ref.go:218", #[], none⟩) (v := ?_) rfl (by kernel_rfl) (by kernel_rfl) (by kernel_rfl) (by kernel_rfl) (fun _ _ _ h => h) (Or.inl ⟨by rfl, ?_⟩) hS ?_
  rotate_left
  · intro w' _; go_simp; try with_reducible rfl
  try simp only [Act.put, pb, pz, ps]
  refine wpAnyF_take (i := 1) (oi := ⟨some 36, .move (.tmp 0), 47, "ref.go:218", #[], none⟩) (v := ?_) rfl (by kernel_rfl) (by kernel_rfl) (by kernel_rfl) (by kernel_rfl) (fun _ _ _ h => h) (Or.inl ⟨by rfl, ?_⟩) hS ?_
  rotate_left
  · intro w' _; go_simp; try with_reducible rfl
  try simp only [Act.put, pb, pz, ps]
  refine wpAnyF_take (i := 2) (oi := ⟨some 37, .nilCheck (.tmp 36), 0, "ref.go:218", #[⟨1, .data⟩], none⟩) (v := ?_) rfl (by kernel_rfl) (by kernel_rfl) (by kernel_rfl) (by kernel_rfl) (fun _ _ _ h => h) (Or.inl ⟨by rfl, ?_⟩) hS ?_
  rotate_left
  · intro w' _; go_simp; try with_reducible rfl
  try simp only [Act.put, pb, pz, ps]
  refine wpAnyF_take (i := 3) (oi := ⟨some 38, .fieldAddr 52 (.tmp 37) 3, 0, "ref.go:218", #[⟨2, .data⟩], none⟩) (v := ?_) rfl (by kernel_rfl) (by kernel_rfl) (by kernel_rfl) (by kernel_rfl) (fun _ _ _ h => h) (Or.inl ⟨by rfl, ?_⟩) hS ?_
  rotate_left
  · intro w' _; go_simp; try with_reducible rfl
  try simp only [Act.put, pb, pz, ps]
  refine wpAnyF_take (i := 4) (oi := ⟨some 39, .load 50 (.tmp 38), 50, "ref.go:218", #[⟨3, .data⟩], none⟩) (v := ?_) rfl (by kernel_rfl) (by kernel_rfl) (by kernel_rfl) (by kernel_rfl) (fun _ _ _ h => h) (Or.inl ⟨by rfl, ?_⟩) hS ?_
  rotate_left
  · intro w' hSw; have q3 := (hSw.cell (p := ⟨r, 3, none⟩) rlU).trans r3U; go_simp; try with_reducible rfl
  try simp only [Act.put, pb, pz, ps]
  refine wpAnyF_take (i := 6) (oi := ⟨some 41, .load 127 (.tmp 6), 127, "ref.go:218", #[], none⟩) (v := ?_) rfl (by kernel_rfl) (by kernel_rfl) (by kernel_rfl) (by kernel_rfl) (fun _ _ _ h => h) (Or.inl ⟨by rfl, ?_⟩) hS ?_
  rotate_left
  · intro w' hSw; refine Eq.trans (exec_load_row 127 (.tmp 6) (by rfl) W3.heap.size (by rfl) 127 #[.int .i64 kind, .int .i64 opens, .int .i64 closes, .int .i64 start, .int .i64 step, .int .i64 extend, .int .i64 last, .int .i64 floor, .int .i64 fall, .int .i64 count, .int .i64 rule, .int .i64 closes, .bool false, .slice none 0 0, .int .i64 (-1), .int .i64 0, .int .i64 0, .int .i64 closes, .int .i64 0] (0, 0) _ (HXU.out.grow hSw) Tryz.underlying127 rfl (by kernel_rfl)) ?_; with_reducible rfl
  try simp only [Act.put, pb, pz, ps]
  refine wpAnyF_ready (rs := [5, 7]) (by kernel_rfl) (by simp) ?_
  refine AllReadyF.cons (o := ⟨some 40, .call { callee := .builtin .append, args := #[.const (.slice none 0 0), .tmp 39], argTypes := #[50, 50] }, 50, "ref.go:218", #[⟨4, .data⟩], none⟩) rfl (by rfl) (fun K hK => ?_) ?_
  · refine step_row _ _ _ rfl et_rlot rfl (.slice none 0 0) 0 [] rfl (RowAt.nil (R := fun _ => False)) (.slice A nl c) nl (rlotsCells H.lots vol) rfl (Sl.grow HBK.out hS) (HONE.out) (by have := HBD.out; omega) (by have := HBD.out; unfold maxLen; omega) ?_
    intro A5 c5 Z5 hr5 hc5
    have hz5 : 0 + nl = nl := Nat.zero_add _
    rw [List.nil_append, hz5] at hr5
    rw [hz5]
    have HC5 := Lib.hid (below_nil hc5)
    have HR5 := Lib.hid (show RowAt Z5 (fun b => U.heap.size ≤ b) 127 19 (.slice A5 nl c5) nl (rlotsCells H.lots vol) from hr5.mono fun b _ hb => hb.elim False.elim fun e => by have := hS.size; omega)
    clear hr5 hc5 hz5
    refine hK.out _ _ ?_ (fun hS => ?_)
    · exact hS.trans (HC5.out.mono hS.size)
    clear hK K
    try simp only [Act.put, pb, pz, ps]
    refine wpAnyF_ready (rs := [7]) (by kernel_rfl) (by simp) ?_
    refine AllReadyF.cons (o := ⟨some 42, .buildSlice 50 1 #[(0, .tmp 41)], 50, "ref.go:218", #[⟨6, .data⟩], none⟩) rfl (by rfl) (fun K hK => ?_) ?_
    · go_simp
      refine hK.out _ _ ?_ (fun hS => ?_)
      · exact hS.alloc hS.size _
      clear hK K
      try simp only [Act.put, pb, pz, ps]
      have HL7 := Lib.hid (show Ac.Blk (Z5.alloc (.cells #[.int .i64 kind, .int .i64 opens, .int .i64 closes, .int .i64 start, .int .i64 step, .int .i64 extend, .int .i64 last, .int .i64 floor, .int .i64 fall, .int .i64 count, .int .i64 rule, .int .i64 closes, .bool false, .slice none 0 0, .int .i64 (-1), .int .i64 0, .int .i64 0, .int .i64 closes, .int .i64 0] 127)) Z5.heap.size 127 #[.int .i64 kind, .int .i64 opens, .int .i64 closes, .int .i64 start, .int .i64 step, .int .i64 extend, .int .i64 last, .int .i64 floor, .int .i64 fall, .int .i64 count, .int .i64 rule, .int .i64 closes, .bool false, .slice none 0 0, .int .i64 (-1), .int .i64 0, .int .i64 0, .int .i64 closes, .int .i64 0] from Blk.new Z5 _ _)
      have HR5 := Lib.hid (HR5.out.grow ((Below.refl _ _).alloc (Nat.le_refl _) (.cells #[.int .i64 kind, .int .i64 opens, .int .i64 closes, .int .i64 start, .int .i64 step, .int .i64 extend, .int .i64 last, .int .i64 floor, .int .i64 fall, .int .i64 count, .int .i64 rule, .int .i64 closes, .bool false, .slice none 0 0, .int .i64 (-1), .int .i64 0, .int .i64 0, .int .i64 closes, .int .i64 0] 127)))
      refine wpAnyF_ready (rs := [8]) (by kernel_rfl) (by simp) ?_
      refine AllReadyF.cons (o := ⟨some 43, .call { callee := .builtin .append, args := #[.tmp 40, .tmp 42], argTypes := #[50, 50] }, 50, "ref.go:218", #[⟨5, .data⟩, ⟨7, .data⟩, ⟨5, .chain⟩], none⟩) rfl (by rfl) (fun K hK => ?_) ?_
      · refine step_row _ _ _ rfl et_rlot rfl (.slice A5 nl c5) nl (rlotsCells H.lots vol) rfl HR5.out (.slice (some ⟨Z5.heap.size, 0, none⟩) 1 1) 1 [.int .i64 kind, .int .i64 opens, .int .i64 closes, .int .i64 start, .int .i64 step, .int .i64 extend, .int .i64 last, .int .i64 floor, .int .i64 fall, .int .i64 count, .int .i64 rule, .int .i64 closes, .bool false, .slice none 0 0, .int .i64 (-1), .int .i64 0, .int .i64 0, .int .i64 closes, .int .i64 0] rfl (Sl.lit1 HL7.out rfl) (by simp [Value.oneCell']) (by have := HBD.out; omega) (by have := HBD.out; unfold maxLen; omega) ?_
        intro A8 c8 Z8 hr8 hc8
        have HB8 := Lib.hid (show Below U.heap.size U Z8 from hS.trans (hc8.below hS.size fun b hb e => by have := HR5.out.blk b e; omega))
        have HR8 := Lib.hid (show RowAt Z8 (fun b => U.heap.size ≤ b) 127 19 (.slice A8 (nl + 1) c8) (nl + 1) (rlotsCells H.lots vol ++ [.int .i64 kind, .int .i64 opens, .int .i64 closes, .int .i64 start, .int .i64 step, .int .i64 extend, .int .i64 last, .int .i64 floor, .int .i64 fall, .int .i64 count, .int .i64 rule, .int .i64 closes, .bool false, .slice none 0 0, .int .i64 (-1), .int .i64 0, .int .i64 0, .int .i64 closes, .int .i64 0]) from hr8.mono fun b _ hb => hb.elim id fun e => by have := hS.size; omega)
        clear hr8 hc8
        refine hK.out _ _ ?_ (fun hS => ?_)
        · exact HB8.out
        clear hK K
        try simp only [Act.put, pb, pz, ps]
        refine wpAnyF_takeD [10, 11] (i := 9) (oi := ⟨some 44, .nilCheck (.tmp 35), 0, "ref.go:218", #[⟨0, .data⟩, ⟨0, .phase⟩, ⟨1, .phase⟩, ⟨2, .phase⟩, ⟨3, .phase⟩, ⟨4, .phase⟩, ⟨5, .phase⟩, ⟨6, .phase⟩, ⟨7, .phase⟩, ⟨8, .phase⟩], none⟩) (v := ?_) rfl (by kernel_rfl) (by kernel_rfl) (by kernel_rfl) (by kernel_rfl) (fun _ _ _ h => h) (Or.inl ⟨by rfl, ?_⟩) hS ?_
        rotate_left
        · intro w' _; go_simp; try with_reducible rfl
        try simp only [Act.put, pb, pz, ps]
        refine wpAnyF_take (i := 10) (oi := ⟨some 45, .fieldAddr 52 (.tmp 44) 3, 0, "ref.go:218", #[⟨9, .data⟩, ⟨0, .phase⟩, ⟨1, .phase⟩, ⟨2, .phase⟩, ⟨3, .phase⟩, ⟨4, .phase⟩, ⟨5, .phase⟩, ⟨6, .phase⟩, ⟨7, .phase⟩, ⟨8, .phase⟩], none⟩) (v := ?_) rfl (by kernel_rfl) (by kernel_rfl) (by kernel_rfl) (by kernel_rfl) (fun _ _ _ h => h) (Or.inl ⟨by rfl, ?_⟩) hS ?_
        rotate_left
        · intro w' _; go_simp; try with_reducible rfl
        try simp only [Act.put, pb, pz, ps]
        refine wpAnyF_ready (rs := [11]) (by kernel_rfl) (by simp) ?_
        refine AllReadyF.fin (o := ⟨none, .store 50 (.tmp 45) (.tmp 43), 0, "ref.go:218", #[⟨10, .data⟩, ⟨8, .data⟩, ⟨8, .chain⟩, ⟨0, .phase⟩, ⟨1, .phase⟩, ⟨2, .phase⟩, ⟨3, .phase⟩, ⟨4, .phase⟩, ⟨5, .phase⟩, ⟨6, .phase⟩, ⟨7, .phase⟩, ⟨8, .phase⟩], none⟩) rfl (by rfl) (fun K hK => ?_) ?_
        · have hrz := HRA.out.blk.grow HB8.out
          have f5 := hrz.frozen 3
          have d5 := hrz.cell 3
          clear hrz
          go_simp
          refine hK.out _ _ ?_
          clear hK K
          try simp only [Act.put, pb, pz, ps]
          refine wpAnyF_done (by kernel_rfl) ?_ _
          clear hS r3U rlU
          obtain ⟨V, hV⟩ : ∃ V, V = Z8.setCell ⟨r, 3, none⟩ (.slice A8 (nl + 1) c8) := ⟨_, rfl⟩
          have hcV : Chg (· = r) Z8 V := by rw [hV]; exact Chg.set Z8 ⟨r, 3, none⟩ _
          have hrV : Ac.Blk V r 52 #[vn, vb, vp, .slice A8 (nl + 1) c8, vs, vk, .int .i64 H.now] := by rw [hV]; exact (HRA.out.blk.grow HB8.out).set_ 3 _
          have d3 : V.cell? ⟨r, 3, none⟩ = some (.slice A8 (nl + 1) c8) := hrV.cell 3
          have lr := hrV.lt
          have hw1 : IntKind.i64.wrap (nl : Int) = (nl : Int) := IntWalk.i64_in _ (by have := HBD.out; omega)
          have HRV := Lib.hid hrV
          have HCV := Lib.hid hcV
          rw [← hV]
          clear hV hrV hcV
          go_wp2_with fail
          go_ret2
          refine ⟨by rw [← HNL.out]; rfl, ?_, ?_⟩
          · have hA := HRA.out
            have hcUV : Chg (· = r) U V := (Chg.of _ HB8.out).trans HCV.out
            have hsub : ∀ b, b < U.heap.size → R b → (R b ∨ W.heap.size ≤ b) := fun b _ h => .inl h
            have hnx : ∀ b, b < U.heap.size → R b → ¬ b = r := fun b _ h e => hA.not (e ▸ h)
            refine ⟨vn, vb, vp, .slice A8 (nl + 1) c8, vs, vk, HRV.out, fun h => h.elim hA.not fun h => by omega, Sl.step hA.names hcUV hnx hsub, Sl.step hA.buds hcUV hnx hsub, Sl.step hA.spent hcUV hnx hsub, ?_, Sl.step hA.sales hcUV hnx hsub, hA.book.step hcUV hnx hsub⟩
            refine ⟨fun k => if k = nl then .slice none 0 0 else vol k, ?_, fun k l hk => ?_⟩
            · show Sl V _ _ (H.lots ++ [newLot P]).length 19 (rlotsCells (H.lots ++ [newLot P]) _)
              have hsn := rlotsCells_snoc H.lots (newLot P) vol (.slice none 0 0)
              rw [← HNL.out] at hsn
              rw [hsn, List.length_append, List.length_singleton, ← HNL.out]
              have hce : rlotCells (newLot P) (.slice none 0 0) = [.int .i64 kind, .int .i64 opens, .int .i64 closes, .int .i64 start, .int .i64 step, .int .i64 extend, .int .i64 last, .int .i64 floor, .int .i64 fall, .int .i64 count, .int .i64 rule, .int .i64 closes, .bool false, .slice none 0 0, .int .i64 (-1), .int .i64 0, .int .i64 0, .int .i64 closes, .int .i64 0] := by rw [HP.out]; rfl
              rw [hce]
              exact Sl.step HR8.out.sl HCV.out (fun b _ h e => by have := HRA.out.blk.lt; omega) fun b _ h => .inr (by have := HBU.out.size; omega)
            · by_cases hkn : k = nl
              · subst hkn
                have : l = newLot P := by
                  have h1 : (H.lots ++ [newLot P])[k]? = some l := hk
                  rw [List.getElem?_append_right (by rw [← HNL.out]; exact Nat.le_refl _), ← HNL.out] at h1
                  simpa using h1.symm
                subst this
                simp only [if_true]
                exact ⟨⟨none, 0, rfl⟩, fun _ => .nilFunc, ⟨by simp [newLot, standCells], none, 0, rfl, Nat.le_refl _, Nat.zero_le _, fun h => absurd h (by simp [newLot])⟩, fun k s hk => by simp [newLot] at hk⟩
              · have hk2 : H.lots[k]? = some l := by
                  have h1 : (H.lots ++ [newLot P])[k]? = some l := hk
                  have h2 := (List.getElem?_eq_some_iff.1 h1).1
                  rw [List.length_append, ← HNL.out] at h2
                  simp at h2
                  rwa [List.getElem?_append_left (by rw [← HNL.out]; omega)] at h1
                simp only
                rw [if_neg hkn]
                exact ⟨(HVO.out k l hk2).1, (HVO.out k l hk2).2.step hcUV hnx hsub⟩
          · exact (((Chg.of (· = r) HBU.out).step (Chg.of (fun _ => False) HB8.out) fun _ _ h => h.elim).step HCV.out fun b _ e => e)
        exact AllReadyF.nil
      exact AllReadyF.nil
    exact AllReadyF.nil
  refine AllReadyF.cons (o := ⟨some 42, .buildSlice 50 1 #[(0, .tmp 41)], 50, "ref.go:218", #[⟨6, .data⟩], none⟩) rfl (by rfl) (fun K hK => ?_) ?_
  · go_simp
    refine hK.out _ _ ?_ (fun hS => ?_)
    · exact hS.alloc hS.size _
    clear hK K
    try simp only [Act.put, pb, pz, ps]
    have HL7 := Lib.hid (show Ac.Blk (U.drew.alloc (.cells #[.int .i64 kind, .int .i64 opens, .int .i64 closes, .int .i64 start, .int .i64 step, .int .i64 extend, .int .i64 last, .int .i64 floor, .int .i64 fall, .int .i64 count, .int .i64 rule, .int .i64 closes, .bool false, .slice none 0 0, .int .i64 (-1), .int .i64 0, .int .i64 0, .int .i64 closes, .int .i64 0] 127)) U.heap.size 127 #[.int .i64 kind, .int .i64 opens, .int .i64 closes, .int .i64 start, .int .i64 step, .int .i64 extend, .int .i64 last, .int .i64 floor, .int .i64 fall, .int .i64 count, .int .i64 rule, .int .i64 closes, .bool false, .slice none 0 0, .int .i64 (-1), .int .i64 0, .int .i64 0, .int .i64 closes, .int .i64 0] from Blk.new U.drew _ _)
    refine wpAnyF_ready (rs := [5]) (by kernel_rfl) (by simp) ?_
    refine AllReadyF.cons (o := ⟨some 40, .call { callee := .builtin .append, args := #[.const (.slice none 0 0), .tmp 39], argTypes := #[50, 50] }, 50, "ref.go:218", #[⟨4, .data⟩], none⟩) rfl (by rfl) (fun K hK => ?_) ?_
    · refine step_row _ _ _ rfl et_rlot rfl (.slice none 0 0) 0 [] rfl (RowAt.nil (R := fun _ => False)) (.slice A nl c) nl (rlotsCells H.lots vol) rfl (Sl.grow HBK.out hS) (HONE.out) (by have := HBD.out; omega) (by have := HBD.out; unfold maxLen; omega) ?_
      intro A5 c5 Z5 hr5 hc5
      have hz5 : 0 + nl = nl := Nat.zero_add _
      rw [List.nil_append, hz5] at hr5
      rw [hz5]
      have HC5 := Lib.hid (below_nil hc5)
      have HR5 := Lib.hid (show RowAt Z5 (fun b => U.heap.size ≤ b) 127 19 (.slice A5 nl c5) nl (rlotsCells H.lots vol) from hr5.mono fun b _ hb => hb.elim False.elim fun e => by have := hS.size; omega)
      clear hr5 hc5 hz5
      have HL7 := Lib.hid (HL7.out.grow HC5.out)
      refine hK.out _ _ ?_ (fun hS => ?_)
      · exact hS.trans (HC5.out.mono hS.size)
      clear hK K
      try simp only [Act.put, pb, pz, ps]
      refine wpAnyF_ready (rs := [8]) (by kernel_rfl) (by simp) ?_
      refine AllReadyF.cons (o := ⟨some 43, .call { callee := .builtin .append, args := #[.tmp 40, .tmp 42], argTypes := #[50, 50] }, 50, "ref.go:218", #[⟨5, .data⟩, ⟨7, .data⟩, ⟨5, .chain⟩], none⟩) rfl (by rfl) (fun K hK => ?_) ?_
      · refine step_row _ _ _ rfl et_rlot rfl (.slice A5 nl c5) nl (rlotsCells H.lots vol) rfl HR5.out (.slice (some ⟨U.heap.size, 0, none⟩) 1 1) 1 [.int .i64 kind, .int .i64 opens, .int .i64 closes, .int .i64 start, .int .i64 step, .int .i64 extend, .int .i64 last, .int .i64 floor, .int .i64 fall, .int .i64 count, .int .i64 rule, .int .i64 closes, .bool false, .slice none 0 0, .int .i64 (-1), .int .i64 0, .int .i64 0, .int .i64 closes, .int .i64 0] rfl (Sl.lit1 HL7.out rfl) (by simp [Value.oneCell']) (by have := HBD.out; omega) (by have := HBD.out; unfold maxLen; omega) ?_
        intro A8 c8 Z8 hr8 hc8
        have HB8 := Lib.hid (show Below U.heap.size U Z8 from hS.trans (hc8.below hS.size fun b hb e => by have := HR5.out.blk b e; omega))
        have HR8 := Lib.hid (show RowAt Z8 (fun b => U.heap.size ≤ b) 127 19 (.slice A8 (nl + 1) c8) (nl + 1) (rlotsCells H.lots vol ++ [.int .i64 kind, .int .i64 opens, .int .i64 closes, .int .i64 start, .int .i64 step, .int .i64 extend, .int .i64 last, .int .i64 floor, .int .i64 fall, .int .i64 count, .int .i64 rule, .int .i64 closes, .bool false, .slice none 0 0, .int .i64 (-1), .int .i64 0, .int .i64 0, .int .i64 closes, .int .i64 0]) from hr8.mono fun b _ hb => hb.elim id fun e => by have := hS.size; omega)
        clear hr8 hc8
        refine hK.out _ _ ?_ (fun hS => ?_)
        · exact HB8.out
        clear hK K
        try simp only [Act.put, pb, pz, ps]
        refine wpAnyF_takeD [10, 11] (i := 9) (oi := ⟨some 44, .nilCheck (.tmp 35), 0, "ref.go:218", #[⟨0, .data⟩, ⟨0, .phase⟩, ⟨1, .phase⟩, ⟨2, .phase⟩, ⟨3, .phase⟩, ⟨4, .phase⟩, ⟨5, .phase⟩, ⟨6, .phase⟩, ⟨7, .phase⟩, ⟨8, .phase⟩], none⟩) (v := ?_) rfl (by kernel_rfl) (by kernel_rfl) (by kernel_rfl) (by kernel_rfl) (fun _ _ _ h => h) (Or.inl ⟨by rfl, ?_⟩) hS ?_
        rotate_left
        · intro w' _; go_simp; try with_reducible rfl
        try simp only [Act.put, pb, pz, ps]
        refine wpAnyF_take (i := 10) (oi := ⟨some 45, .fieldAddr 52 (.tmp 44) 3, 0, "ref.go:218", #[⟨9, .data⟩, ⟨0, .phase⟩, ⟨1, .phase⟩, ⟨2, .phase⟩, ⟨3, .phase⟩, ⟨4, .phase⟩, ⟨5, .phase⟩, ⟨6, .phase⟩, ⟨7, .phase⟩, ⟨8, .phase⟩], none⟩) (v := ?_) rfl (by kernel_rfl) (by kernel_rfl) (by kernel_rfl) (by kernel_rfl) (fun _ _ _ h => h) (Or.inl ⟨by rfl, ?_⟩) hS ?_
        rotate_left
        · intro w' _; go_simp; try with_reducible rfl
        try simp only [Act.put, pb, pz, ps]
        refine wpAnyF_ready (rs := [11]) (by kernel_rfl) (by simp) ?_
        refine AllReadyF.fin (o := ⟨none, .store 50 (.tmp 45) (.tmp 43), 0, "ref.go:218", #[⟨10, .data⟩, ⟨8, .data⟩, ⟨8, .chain⟩, ⟨0, .phase⟩, ⟨1, .phase⟩, ⟨2, .phase⟩, ⟨3, .phase⟩, ⟨4, .phase⟩, ⟨5, .phase⟩, ⟨6, .phase⟩, ⟨7, .phase⟩, ⟨8, .phase⟩], none⟩) rfl (by rfl) (fun K hK => ?_) ?_
        · have hrz := HRA.out.blk.grow HB8.out
          have f5 := hrz.frozen 3
          have d5 := hrz.cell 3
          clear hrz
          go_simp
          refine hK.out _ _ ?_
          clear hK K
          try simp only [Act.put, pb, pz, ps]
          refine wpAnyF_done (by kernel_rfl) ?_ _
          clear hS r3U rlU
          obtain ⟨V, hV⟩ : ∃ V, V = Z8.setCell ⟨r, 3, none⟩ (.slice A8 (nl + 1) c8) := ⟨_, rfl⟩
          have hcV : Chg (· = r) Z8 V := by rw [hV]; exact Chg.set Z8 ⟨r, 3, none⟩ _
          have hrV : Ac.Blk V r 52 #[vn, vb, vp, .slice A8 (nl + 1) c8, vs, vk, .int .i64 H.now] := by rw [hV]; exact (HRA.out.blk.grow HB8.out).set_ 3 _
          have d3 : V.cell? ⟨r, 3, none⟩ = some (.slice A8 (nl + 1) c8) := hrV.cell 3
          have lr := hrV.lt
          have hw1 : IntKind.i64.wrap (nl : Int) = (nl : Int) := IntWalk.i64_in _ (by have := HBD.out; omega)
          have HRV := Lib.hid hrV
          have HCV := Lib.hid hcV
          rw [← hV]
          clear hV hrV hcV
          go_wp2_with fail
          go_ret2
          refine ⟨by rw [← HNL.out]; rfl, ?_, ?_⟩
          · have hA := HRA.out
            have hcUV : Chg (· = r) U V := (Chg.of _ HB8.out).trans HCV.out
            have hsub : ∀ b, b < U.heap.size → R b → (R b ∨ W.heap.size ≤ b) := fun b _ h => .inl h
            have hnx : ∀ b, b < U.heap.size → R b → ¬ b = r := fun b _ h e => hA.not (e ▸ h)
            refine ⟨vn, vb, vp, .slice A8 (nl + 1) c8, vs, vk, HRV.out, fun h => h.elim hA.not fun h => by omega, Sl.step hA.names hcUV hnx hsub, Sl.step hA.buds hcUV hnx hsub, Sl.step hA.spent hcUV hnx hsub, ?_, Sl.step hA.sales hcUV hnx hsub, hA.book.step hcUV hnx hsub⟩
            refine ⟨fun k => if k = nl then .slice none 0 0 else vol k, ?_, fun k l hk => ?_⟩
            · show Sl V _ _ (H.lots ++ [newLot P]).length 19 (rlotsCells (H.lots ++ [newLot P]) _)
              have hsn := rlotsCells_snoc H.lots (newLot P) vol (.slice none 0 0)
              rw [← HNL.out] at hsn
              rw [hsn, List.length_append, List.length_singleton, ← HNL.out]
              have hce : rlotCells (newLot P) (.slice none 0 0) = [.int .i64 kind, .int .i64 opens, .int .i64 closes, .int .i64 start, .int .i64 step, .int .i64 extend, .int .i64 last, .int .i64 floor, .int .i64 fall, .int .i64 count, .int .i64 rule, .int .i64 closes, .bool false, .slice none 0 0, .int .i64 (-1), .int .i64 0, .int .i64 0, .int .i64 closes, .int .i64 0] := by rw [HP.out]; rfl
              rw [hce]
              exact Sl.step HR8.out.sl HCV.out (fun b _ h e => by have := HRA.out.blk.lt; omega) fun b _ h => .inr (by have := HBU.out.size; omega)
            · by_cases hkn : k = nl
              · subst hkn
                have : l = newLot P := by
                  have h1 : (H.lots ++ [newLot P])[k]? = some l := hk
                  rw [List.getElem?_append_right (by rw [← HNL.out]; exact Nat.le_refl _), ← HNL.out] at h1
                  simpa using h1.symm
                subst this
                simp only [if_true]
                exact ⟨⟨none, 0, rfl⟩, fun _ => .nilFunc, ⟨by simp [newLot, standCells], none, 0, rfl, Nat.le_refl _, Nat.zero_le _, fun h => absurd h (by simp [newLot])⟩, fun k s hk => by simp [newLot] at hk⟩
              · have hk2 : H.lots[k]? = some l := by
                  have h1 : (H.lots ++ [newLot P])[k]? = some l := hk
                  have h2 := (List.getElem?_eq_some_iff.1 h1).1
                  rw [List.length_append, ← HNL.out] at h2
                  simp at h2
                  rwa [List.getElem?_append_left (by rw [← HNL.out]; omega)] at h1
                simp only
                rw [if_neg hkn]
                exact ⟨(HVO.out k l hk2).1, (HVO.out k l hk2).2.step hcUV hnx hsub⟩
          · exact (((Chg.of (· = r) HBU.out).step (Chg.of (fun _ => False) HB8.out) fun _ _ h => h.elim).step HCV.out fun b _ e => e)
        exact AllReadyF.nil
      exact AllReadyF.nil
    exact AllReadyF.nil
  exact AllReadyF.nil
end Go.Proofs.YthoaidfpgijbfaaGreat.Ho

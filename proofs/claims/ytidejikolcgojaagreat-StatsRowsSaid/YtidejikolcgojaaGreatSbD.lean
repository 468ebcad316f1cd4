/- Stats: lent, left. -/
import Derived.Test.YtidejikolcgojaaGreatSbC
import Derived.Test.YtidejikolcgojaaGreatStG
import Derived.BigQuiet
namespace Go.Proofs.YtidejikolcgojaaGreat.St
open Go.RowKit Go.Shelf
open Go.Proofs.YtidejikolcgojaaGreat.Vb Go.Proofs.YtidejikolcgojaaGreat.Ac
attribute [local go_sem] run_fadd run_fsub run_fmul run_fdiv run_store_float

abbrev mark64 : Nat := 4649993003539103744
/-- a row lent: in memory of its own, with a mark behind -/
def LentF (w : World) (lo : Nat) (v : Value) (l : List Nat) : Prop :=
  ∃ g cap, v = .slice (some ⟨g, 0, none⟩) l.length cap ∧ l.length + 1 ≤ cap ∧ cap ≤ maxLen ∧ w.ownsRow lo 27 1 (.slice (some ⟨g, 0, none⟩) (l.length + 1) cap) (l.length + 1) (flts (l ++ [mark64])) ∧ ∀ x ∈ l, x < bits64
theorem LentF.grow {w w' : World} {lo : Nat} {v : Value} {l : List Nat} (h : LentF w lo v l) (hb : Below w.heap.size w w') : LentF w' lo v l := by
  obtain ⟨g, cap, h1, h2, h3, h4, h5⟩ := h
  exact ⟨g, cap, h1, h2, h3, own_grow h4 hb, h5⟩
theorem LentF.cells {w : World} {lo g n cap : Nat} {l : List Nat} (h : w.ownsRow lo 27 1 (.slice (some ⟨g, 0, none⟩) n cap) n (flts l)) : g < w.heap.size ∧ ∀ j x, l[j]? = some x → w.cell? ⟨g, 0 + j, none⟩ = some (.float .f64 x) := by
  obtain ⟨hl, A', c', hv, h1, h2, h3⟩ := Sl.of_own h
  injection hv with hA _ hc
  subst hA hc
  have hn : l.length = n := by simpa [flts] using hl
  have hlt : g < w.heap.size := by
    rcases h.2 with ⟨h0, _⟩ | ⟨g', cp, cur, hv, _, hg, _⟩
    · cases h0
    · injection hv with hA _ _
      injection hA with hA
      injection hA with hA _
      subst hA
      exact (Array.getElem?_eq_some_iff.1 hg).1
  refine ⟨hlt, fun j x hj => ?_⟩
  have hjl := (List.getElem?_eq_some_iff.1 hj).1
  obtain ⟨b, off, hb, _, _, hcc⟩ := h3 (by omega)
  injection hb with hb
  injection hb with hb ho
  subst hb ho
  exact hcc j _ (by unfold flts; rw [List.getElem?_map, hj]; rfl)
theorem LentF.fls {w : World} {lo : Nat} {v : Value} {l : List Nat} (h : LentF w lo v l) : Fls w (fun _ => True) v l := by
  obtain ⟨g, cap, rfl, h2, h3, h4, h5⟩ := h
  obtain ⟨hlt, hc⟩ := LentF.cells h4
  refine ⟨⟨by simp [flts], _, _, rfl, by omega, h3, fun _ => ⟨g, 0, rfl, trivial, hlt, fun j u hu => ?_⟩⟩, h5⟩
  unfold flts at hu
  rw [List.getElem?_map] at hu
  cases hx : l[j]? with
  | none => rw [hx] at hu; cases hu
  | some x =>
    rw [hx] at hu
    obtain rfl : Value.float .f64 x = u := by simpa using hu
    have hj := (List.getElem?_eq_some_iff.1 hx).1
    exact hc j x (by rw [List.getElem?_append_left hj]; exact hx)
theorem own_some {w : World} {lo n c : Nat} {A : Option Addr} {xs : List Value} (h : w.ownsRow lo 27 1 (.slice A (n + 1) c) (n + 1) xs) : ∃ g, A = some ⟨g, 0, none⟩ ∧ n + 1 ≤ c ∧ c ≤ maxLen := by
  rcases h.2 with ⟨hx, h0⟩ | ⟨g', cp, cur, hv, _, hg, h1, h2, _⟩
  · cases hx
  · injection hv with hA _ hc
    subst hA hc
    exact ⟨g', rfl, h1, h2⟩
set_option maxRecDepth 100000 in
set_option maxHeartbeats 4000000 in
theorem lent_any {l : List Nat} {v : Value} {R : Nat → Prop} {w : World} (h : Fls w R v l) (hle : l.length ≤ 1000) :
    Calls Tryz.prog 8 #[v] w fun e w' => ∃ v', e = .returned v' ∧ LentF w' w.heap.size v' l ∧ Below w.heap.size w w' := by
  obtain ⟨A, cap, rfl, hnc, hcap⟩ := h.form
  have HL := Lib.hid h
  have HF1 := Lib.hid (flts_one l)
  have e1 : (0 : Int) ≤ (l.length : Int) := by omega
  clear h
  go_enter Tryz.func8, Tryz.ntmps8
  go_wp2_with (first
    | (at_builtin; (refine wpList_app _ rfl (.const (.slice none 0 0)) (.tmp 3) et_f64 rfl w.heap.size (.slice none 0 0) 0 [] rfl (World.ownsRow_nil _ _ _ _) R _ l.length (flts l) rfl HL.out.1 HF1.out (by omega) (by unfold maxLen; omega) (Nat.le_refl _) ?_; intro A1 c1 w1 hown hg hloc; rw [Nat.zero_add] at hown ⊢; rw [List.nil_append] at hown; have HO1 := Lib.hid hown; have HB1 := Lib.hid ((Below.refl w.heap.size w).grown hg (Nat.le_refl _) (fun r e => by cases e)); have hs1 := HB1.out.size; clear hown hg hloc))
    | (at_builtin; go_must (refine wpList_app _ rfl (.tmp 4) (.tmp 5) et_f64 rfl w.heap.size (.slice A1 l.length c1) l.length (flts l) rfl (own_grow HO1.out ((Below.refl w1.heap.size w1).alloc (Nat.le_refl _) (.cells #[.float .f64 mark64] 27))) (fun _ => True) (.slice (some ⟨w1.heap.size, 0, none⟩) 1 1) 1 [.float .f64 mark64] rfl ((Sl.new w1 #[.float .f64 mark64] 27 1 1 (by unfold maxLen; omega) rfl).mono fun _ _ _ => trivial) (by simp [Value.oneCell']) (by omega) (by unfold maxLen; omega) (by simp; omega) ?_; intro A2 c2 w2 hown hg hloc; have HB2 := Lib.hid ((HB1.out.alloc hs1 (.cells #[.float .f64 mark64] 27)).grown hg (by first | (simp; done) | (simp; omega)) (fun r e => (HO1.out.lt r e).1)); obtain ⟨g2, rfl, hn2, hc2⟩ := own_some hown; have HO2 := Lib.hid hown; have e2 : l.length ≤ c2 := (by omega); have e3 : (l.length : Int) ≤ (c2 : Int) := (by omega); have HN2 := Lib.hid (And.intro hn2 hc2); clear hown hg hloc hn2 hc2)))
  go_ret
  exact ⟨_, rfl, ⟨g2, c2, rfl, HN2.out.1, HN2.out.2, by rw [flts_append]; exact HO2.out, HL.out.2⟩, HB2.out⟩
set_option maxRecDepth 100000 in
set_option maxHeartbeats 4000000 in
theorem left_any {l : List Nat} {v vm : Value} {R : Nat → Prop} {lo : Nat} {w : World} (hm : LentF w lo vm l) (h : Fls w R v l) (hle : l.length ≤ 1000) :
    Calls Tryz.prog 12 #[vm, v] w fun e w' => e = .returned (.bool true) ∧ Below w.heap.size w w' := by
  obtain ⟨A, cap, rfl, hnc, hcap⟩ := h.form
  obtain ⟨g, c2, rfl, hn2, hc2, hown, _⟩ := hm
  obtain ⟨hg, hcells⟩ := LentF.cells hown
  have HL := Lib.hid h
  have HC := Lib.hid hcells
  have r1 := run_bits
  have r2 : w.cell? ⟨g, l.length, none⟩ = some (.float .f64 mark64) := by
    have := hcells l.length mark64 (by simp)
    rwa [Nat.zero_add] at this
  have HR2 := Lib.hid r2
  have d0 : l.length + 1 ≤ c2 := hn2
  clear h hown hcells r2
  go_enter Tryz.func12, Tryz.ntmps12
  go_wp2_with fail
  go_loopw [5] (fun i wr => ∃ k : Nat, k ≤ l.length ∧ i = .int .i64 k ∧ Below w.heap.size w wr) (fun i _ => l.length - (intOf i).toNat)
  case atStart => exact ⟨0, Nat.zero_le _, rfl, Below.refl _ _⟩
  case round =>
    obtain ⟨k, hk, rfl, hb⟩ := hrel
    have HB := Lib.hid hb
    clear hb
    by_cases hlt : k < l.length
    · obtain ⟨x, hx⟩ : ∃ x, l[k]? = some x := ⟨_, List.getElem?_eq_getElem hlt⟩
      obtain ⟨bq, off, rfl, _, hbq, q0, q1⟩ := HL.out.at_ hx
      have c0 : wr.cell? ⟨bq, off + k, none⟩ = some (.float .f64 x) := (HB.out.cell (p := ⟨bq, off + k, none⟩) hbq).trans q0
      have c1 : wr.cell? ⟨g, k, none⟩ = some (.float .f64 x) := by
        have := HC.out k x (by rw [List.getElem?_append_left hlt]; exact hx)
        rw [Nat.zero_add] at this
        exact (HB.out.cell (p := ⟨g, k, none⟩) hg).trans this
      have hg2 : g < wr.heap.size := by have := HB.out.size; omega
      have hb2 : bq < wr.heap.size := by have := HB.out.size; omega
      have e1 : (0 : Int) ≤ (k : Int) := by omega
      have e2 : (k : Int) < (l.length : Int) := by omega
      clear hx q0
      go_wp2_with fail
      refine wp_region_F (Below wr.heap.size wr) [] (by kernel_rfl) ((Below.refl _ _).drew) (fun hS => ?_)
      refine wpAnyF_take (i := 0) (oi := { dst := some 12, op := Go.Op.move (Go.Operand.tmp 0), type := 24, pos := "law.go:37", after := #[], guard := none }) (v := ?_) rfl (by kernel_rfl) (by kernel_rfl) (by kernel_rfl) (by kernel_rfl) (fun _ _ _ h => h) (Or.inl ⟨by rfl, ?_⟩) hS ?_
      rotate_left
      · intro w' hSw; have p0 := (hSw.cell (p := ⟨bq, off + k, none⟩) hb2).trans c0; have p1 := (hSw.cell (p := ⟨g, k, none⟩) hg2).trans c1; go_simp; try with_reducible rfl
      try simp only [Act.put, List.setIfInBounds_toArray, List.set_cons_zero, List.set_cons_succ]
      refine wpAnyF_take (i := 1) (oi := { dst := some 13, op := Go.Op.move (Go.Operand.tmp 5), type := 3, pos := "law.go:37", after := #[], guard := none }) (v := ?_) rfl (by kernel_rfl) (by kernel_rfl) (by kernel_rfl) (by kernel_rfl) (fun _ _ _ h => h) (Or.inl ⟨by rfl, ?_⟩) hS ?_
      rotate_left
      · intro w' hSw; have p0 := (hSw.cell (p := ⟨bq, off + k, none⟩) hb2).trans c0; have p1 := (hSw.cell (p := ⟨g, k, none⟩) hg2).trans c1; go_simp; try with_reducible rfl
      try simp only [Act.put, List.setIfInBounds_toArray, List.set_cons_zero, List.set_cons_succ]
      refine wpAnyF_take (i := 2) (oi := { dst := some 14, op := Go.Op.indexAddr 24 (Go.Operand.tmp 12) (Go.Operand.tmp 13), type := 0, pos := "law.go:37", after := #[{ on := 0, ground := Go.Ground.data }, { on := 1, ground := Go.Ground.data }], guard := none }) (v := ?_) rfl (by kernel_rfl) (by kernel_rfl) (by kernel_rfl) (by kernel_rfl) (fun _ _ _ h => h) (Or.inl ⟨by rfl, ?_⟩) hS ?_
      rotate_left
      · intro w' hSw; have p0 := (hSw.cell (p := ⟨bq, off + k, none⟩) hb2).trans c0; have p1 := (hSw.cell (p := ⟨g, k, none⟩) hg2).trans c1; go_simp; try with_reducible rfl
      try simp only [Act.put, List.setIfInBounds_toArray, List.set_cons_zero, List.set_cons_succ]
      refine wpAnyF_take (i := 3) (oi := { dst := some 15, op := Go.Op.load 27 (Go.Operand.tmp 14), type := 27, pos := "law.go:37", after := #[{ on := 2, ground := Go.Ground.data }], guard := none }) (v := ?_) rfl (by kernel_rfl) (by kernel_rfl) (by kernel_rfl) (by kernel_rfl) (fun _ _ _ h => h) (Or.inl ⟨by rfl, ?_⟩) hS ?_
      rotate_left
      · intro w' hSw; have p0 := (hSw.cell (p := ⟨bq, off + k, none⟩) hb2).trans c0; have p1 := (hSw.cell (p := ⟨g, k, none⟩) hg2).trans c1; go_simp; try with_reducible rfl
      try simp only [Act.put, List.setIfInBounds_toArray, List.set_cons_zero, List.set_cons_succ]
      refine wpAnyF_take (i := 5) (oi := { dst := some 17, op := Go.Op.move (Go.Operand.tmp 1), type := 24, pos := "law.go:37", after := #[], guard := none }) (v := ?_) rfl (by kernel_rfl) (by kernel_rfl) (by kernel_rfl) (by kernel_rfl) (fun _ _ _ h => h) (Or.inl ⟨by rfl, ?_⟩) hS ?_
      rotate_left
      · intro w' hSw; have p0 := (hSw.cell (p := ⟨bq, off + k, none⟩) hb2).trans c0; have p1 := (hSw.cell (p := ⟨g, k, none⟩) hg2).trans c1; go_simp; try with_reducible rfl
      try simp only [Act.put, List.setIfInBounds_toArray, List.set_cons_zero, List.set_cons_succ]
      refine wpAnyF_take (i := 6) (oi := { dst := some 18, op := Go.Op.move (Go.Operand.tmp 5), type := 3, pos := "law.go:37", after := #[], guard := none }) (v := ?_) rfl (by kernel_rfl) (by kernel_rfl) (by kernel_rfl) (by kernel_rfl) (fun _ _ _ h => h) (Or.inl ⟨by rfl, ?_⟩) hS ?_
      rotate_left
      · intro w' hSw; have p0 := (hSw.cell (p := ⟨bq, off + k, none⟩) hb2).trans c0; have p1 := (hSw.cell (p := ⟨g, k, none⟩) hg2).trans c1; go_simp; try with_reducible rfl
      try simp only [Act.put, List.setIfInBounds_toArray, List.set_cons_zero, List.set_cons_succ]
      refine wpAnyF_take (i := 7) (oi := { dst := some 19, op := Go.Op.indexAddr 24 (Go.Operand.tmp 17) (Go.Operand.tmp 18), type := 0, pos := "law.go:37", after := #[{ on := 5, ground := Go.Ground.data }, { on := 6, ground := Go.Ground.data }], guard := none }) (v := ?_) rfl (by kernel_rfl) (by kernel_rfl) (by kernel_rfl) (by kernel_rfl) (fun _ _ _ h => h) (Or.inl ⟨by rfl, ?_⟩) hS ?_
      rotate_left
      · intro w' hSw; have p0 := (hSw.cell (p := ⟨bq, off + k, none⟩) hb2).trans c0; have p1 := (hSw.cell (p := ⟨g, k, none⟩) hg2).trans c1; go_simp; try with_reducible rfl
      try simp only [Act.put, List.setIfInBounds_toArray, List.set_cons_zero, List.set_cons_succ]
      refine wpAnyF_take (i := 8) (oi := { dst := some 20, op := Go.Op.load 27 (Go.Operand.tmp 19), type := 27, pos := "law.go:37", after := #[{ on := 7, ground := Go.Ground.data }], guard := none }) (v := ?_) rfl (by kernel_rfl) (by kernel_rfl) (by kernel_rfl) (by kernel_rfl) (fun _ _ _ h => h) (Or.inl ⟨by rfl, ?_⟩) hS ?_
      rotate_left
      · intro w' hSw; have p0 := (hSw.cell (p := ⟨bq, off + k, none⟩) hb2).trans c0; have p1 := (hSw.cell (p := ⟨g, k, none⟩) hg2).trans c1; go_simp; try with_reducible rfl
      try simp only [Act.put, List.setIfInBounds_toArray, List.set_cons_zero, List.set_cons_succ]
      refine wpAnyF_ready (rs := [4]) (by kernel_rfl) (by simp) ?_
      refine AllReadyF.cons (o := { dst := some 16, op := Go.Op.call { callee := Go.Callee.value (Go.Operand.func 53), args := #[Go.Operand.tmp 15], argTypes := #[27] }, type := 35, pos := "law.go:37", after := #[{ on := 3, ground := Go.Ground.data }], guard := none }) rfl (by rfl) (fun K hK => ?_) ?_
      · go_simp
        refine hK.out _ _ ?_ (fun hS => ?_)
        · exact hS
        clear hK K
        try simp only [Act.put, List.setIfInBounds_toArray, List.set_cons_zero, List.set_cons_succ]
        refine wpAnyF_ready (rs := [9]) (by kernel_rfl) (by simp) ?_
        refine AllReadyF.cons (o := { dst := some 21, op := Go.Op.call { callee := Go.Callee.value (Go.Operand.func 53), args := #[Go.Operand.tmp 20], argTypes := #[27] }, type := 35, pos := "law.go:37", after := #[{ on := 8, ground := Go.Ground.data }, { on := 4, ground := Go.Ground.chain }], guard := none }) rfl (by rfl) (fun K hK => ?_) ?_
        · go_simp
          refine hK.out _ _ ?_ (fun hS => ?_)
          · exact hS
          clear hK K
          try simp only [Act.put, List.setIfInBounds_toArray, List.set_cons_zero, List.set_cons_succ]
          refine wpAnyF_take (i := 10) (oi := { dst := some 22, op := Go.Op.binOp Go.BinOp.neq 35 (Go.Operand.tmp 16) (Go.Operand.tmp 21) 35, type := 4, pos := "law.go:37", after := #[{ on := 4, ground := Go.Ground.data }, { on := 9, ground := Go.Ground.data }], guard := none }) (v := ?_) rfl (by kernel_rfl) (by kernel_rfl) (by kernel_rfl) (by kernel_rfl) (fun _ _ _ h => h) (Or.inl ⟨by rfl, ?_⟩) hS ?_
          rotate_left
          · intro w' hSw; have p0 := (hSw.cell (p := ⟨bq, off + k, none⟩) hb2).trans c0; have p1 := (hSw.cell (p := ⟨g, k, none⟩) hg2).trans c1; go_simp; try with_reducible rfl
          try simp only [Act.put, List.setIfInBounds_toArray, List.set_cons_zero, List.set_cons_succ]
          refine wpAnyF_done (by kernel_rfl) ?_ _
          have HS9 := Lib.hid (HB.out.trans (hS.mono HB.out.size))
          clear hS
          go_wp2_with fail
          go_roundw
          case rel => exact ⟨k + 1, by omega, by go_num, HS9.out⟩
          case measure => simp [intOf]; omega
        exact AllReadyF.nil
      exact AllReadyF.nil
    · obtain rfl : k = l.length := by omega
      have c1 : wr.cell? ⟨g, l.length, none⟩ = some (.float .f64 mark64) := (HB.out.cell (p := ⟨g, l.length, none⟩) hg).trans HR2.out
      have qe : (FloatKind.f64.format.order mark64 mark64 == some .eq) = true := by kernel_rfl
      have hwr : IntKind.i64.wrap ((l.length : Int) + 1) = ((l.length + 1 : Nat) : Int) := (IntWalk.i64_in _ (by omega)).trans (by omega)
      have e1 : (l.length : Int) < ((l.length + 1 : Nat) : Int) := by omega
      have e2 : (0 : Int) ≤ (l.length : Int) := by omega
      have e3 : ((l.length + 1 : Nat) : Int) ≤ (c2 : Int) := by omega
      have e4 : (0 : Int) ≤ ((l.length + 1 : Nat) : Int) := by omega
      go_wp2_with fail
      go_ret
      exact ⟨rfl, HB.out⟩
end Go.Proofs.YtidejikolcgojaaGreat.St

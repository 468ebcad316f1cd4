/- Stats: a sum as it comes. -/
import Derived.Test.YtidejikolcgojaaGreatStC
import Derived.Test.YtidejikolcgojaaGreatRegn
namespace Go.Proofs.YtidejikolcgojaaGreat.St
open Go.RowKit Go.Shelf
open Go.Proofs.YtidejikolcgojaaGreat.Vb Go.Proofs.YtidejikolcgojaaGreat.Ac
attribute [local go_sem] run_fadd run_fsub run_fmul run_fdiv run_store_float

def fge (a b : Fl) : Bool := ford a b == some .gt || ford a b == some .eq
/-- a sum takes a number -/
def addF (p : Fl × Fl) (v : Fl) : Fl × Fl :=
  (fadd p.1 v, if fge (fabs p.1) (fabs v) then fadd p.2 (fadd (fsub p.1 (fadd p.1 v)) v) else fadd p.2 (fadd (fsub v (fadd p.1 v)) p.1))
/-- an adder in memory -/
def AddAt (W : World) (a : Nat) (p : Fl × Fl) : Prop := ∃ s c, Blk W a 93 #[.float .f64 s, .float .f64 c] ∧ IsF s p.1 ∧ IsF c p.2

set_option maxRecDepth 100000 in
set_option maxHeartbeats 2000000 in
theorem add_any {w : World} {a v : Nat} {p : Fl × Fl} {f : Fl} (h : AddAt w a p) (hv : IsF v f) :
    Calls Tryz.prog 77 #[.pointer (some ⟨a, 0, none⟩), .float .f64 v] w fun e w' => e = .returned (.tuple #[]) ∧ AddAt w' a (addF p f) ∧ Chg (· = a) w w' := by
  obtain ⟨s, c, hb, hs, hc⟩ := h
  obtain ⟨fs, fc⟩ := p
  simp only at hs hc
  have k0 : w.cell? ⟨a, 0, none⟩ = some (.float .f64 s) := hb.cell 0
  have HS := Lib.hid hs
  have HC := Lib.hid hc
  have HV := Lib.hid hv
  obtain ⟨pp, hpp⟩ : ∃ z, z = addF (fs, fc) f := ⟨_, rfl⟩
  have HP := Lib.hid hpp
  rw [← hpp]
  obtain ⟨I, hI⟩ : ∃ I : World → Prop, I = fun W => Blk W a 93 #[.float .f64 s, .float .f64 c] ∧ Chg (· = a) w W := ⟨_, rfl⟩
  have hIn : ∀ W n, I W → I (W.drewN n) := by rw [hI]; exact fun W n h => ⟨h.1, h.2.drewN n⟩
  have hI1 : ∀ W, I W → Blk W a 93 #[.float .f64 s, .float .f64 c] := by rw [hI]; exact fun W h => h.1
  have hI2 : ∀ W, I W → Chg (· = a) w W := by rw [hI]; exact fun W h => h.2
  have HIW := Lib.hid (show I w by rw [hI]; exact ⟨hb, Chg.refl _ _⟩)
  clear hb hs hc hv hpp hI
  go_enter Tryz.func77, Tryz.ntmps77
  go_wp2_with fail
  have HT := Lib.hid (isF_add HS.out HV.out w)
  generalize aV Ieee.double.add s v w = t at HT ⊢
  generalize hW : w.drewN _ = w0
  have HI0 := Lib.hid (show I w0 from hW ▸ hIn _ _ HIW.out)
  have k1 : w0.cell? ⟨a, 0, none⟩ = some (.float .f64 s) := (hI1 _ HI0.out).cell 0
  clear hW k0
  go_wp2_with fail
  refine (abs_any HS.out _).mono ?_
  rintro e w9 ⟨ra, rfl, hA, hw9⟩
  rw [hw9]
  clear hw9
  have HA := Lib.hid hA
  clear hA
  go_wp2_with fail
  refine (abs_any HV.out _).mono ?_
  rintro e w9 ⟨rb, rfl, hA, hw9⟩
  rw [hw9]
  clear hw9
  have ho := order_isF HA.out hA
  clear hA
  by_cases hg : fge (fabs fs) (fabs f) = true
  · have d1 : (FloatKind.f64.format.order ra rb == some .gt || FloatKind.f64.format.order ra rb == some .eq) = true := by rw [ho]; exact hg
    have HP2 := Lib.hid (show pp = (fadd fs f, fadd fc (fadd (fsub fs (fadd fs f)) f)) by rw [HP.out]; unfold addF; simp only; rw [if_pos hg])
    clear ho hg
    go_wp2_with fail
    refine wp_region_F (fun W => Blk W a 93 #[.float .f64 s, .float .f64 c]) [15] (by kernel_rfl) (show Blk w0.drew a 93 #[.float .f64 s, .float .f64 c] from hI1 w0 HI0.out) (fun hS => ?_)
    refine wpAnyF_take (i := 0) (oi := { dst := some 19, op := Go.Op.move (Go.Operand.tmp 0), type := 107, pos := "stats.go:23", after := #[], guard := none }) (v := ?_) rfl (by kernel_rfl) (by kernel_rfl) (by kernel_rfl) (by kernel_rfl) (fun _ _ _ h => h) (Or.inl ⟨by rfl, ?_⟩) hS ?_
    rotate_left
    · intro w' hSw; have q0 : w'.cell? ⟨a, 0, none⟩ = some (.float .f64 s) := hSw.cell 0; have q1 : w'.cell? ⟨a, 1, none⟩ = some (.float .f64 c) := hSw.cell 1; go_simp; try with_reducible rfl
    try simp only [Act.put, List.setIfInBounds_toArray, List.set_cons_zero, List.set_cons_succ]
    refine wpAnyF_take (i := 1) (oi := { dst := some 20, op := Go.Op.nilCheck (Go.Operand.tmp 19), type := 0, pos := "stats.go:23", after := #[{ on := 0, ground := Go.Ground.data }], guard := none }) (v := ?_) rfl (by kernel_rfl) (by kernel_rfl) (by kernel_rfl) (by kernel_rfl) (fun _ _ _ h => h) (Or.inl ⟨by rfl, ?_⟩) hS ?_
    rotate_left
    · intro w' hSw; have q0 : w'.cell? ⟨a, 0, none⟩ = some (.float .f64 s) := hSw.cell 0; have q1 : w'.cell? ⟨a, 1, none⟩ = some (.float .f64 c) := hSw.cell 1; go_simp; try with_reducible rfl
    try simp only [Act.put, List.setIfInBounds_toArray, List.set_cons_zero, List.set_cons_succ]
    refine wpAnyF_take (i := 2) (oi := { dst := some 21, op := Go.Op.fieldAddr 93 (Go.Operand.tmp 20) 1, type := 0, pos := "stats.go:23", after := #[{ on := 1, ground := Go.Ground.data }], guard := none }) (v := ?_) rfl (by kernel_rfl) (by kernel_rfl) (by kernel_rfl) (by kernel_rfl) (fun _ _ _ h => h) (Or.inl ⟨by rfl, ?_⟩) hS ?_
    rotate_left
    · intro w' hSw; have q0 : w'.cell? ⟨a, 0, none⟩ = some (.float .f64 s) := hSw.cell 0; have q1 : w'.cell? ⟨a, 1, none⟩ = some (.float .f64 c) := hSw.cell 1; go_simp; try with_reducible rfl
    try simp only [Act.put, List.setIfInBounds_toArray, List.set_cons_zero, List.set_cons_succ]
    refine wpAnyF_take (i := 3) (oi := { dst := some 22, op := Go.Op.load 27 (Go.Operand.tmp 21), type := 27, pos := "stats.go:23", after := #[{ on := 2, ground := Go.Ground.data }], guard := none }) (v := ?_) rfl (by kernel_rfl) (by kernel_rfl) (by kernel_rfl) (by kernel_rfl) (fun _ _ _ h => h) (Or.inl ⟨by rfl, ?_⟩) hS ?_
    rotate_left
    · intro w' hSw; have q0 : w'.cell? ⟨a, 0, none⟩ = some (.float .f64 s) := hSw.cell 0; have q1 : w'.cell? ⟨a, 1, none⟩ = some (.float .f64 c) := hSw.cell 1; go_simp; try with_reducible rfl
    try simp only [Act.put, List.setIfInBounds_toArray, List.set_cons_zero, List.set_cons_succ]
    refine wpAnyF_take (i := 4) (oi := { dst := some 23, op := Go.Op.move (Go.Operand.tmp 0), type := 107, pos := "stats.go:23", after := #[], guard := none }) (v := ?_) rfl (by kernel_rfl) (by kernel_rfl) (by kernel_rfl) (by kernel_rfl) (fun _ _ _ h => h) (Or.inl ⟨by rfl, ?_⟩) hS ?_
    rotate_left
    · intro w' hSw; have q0 : w'.cell? ⟨a, 0, none⟩ = some (.float .f64 s) := hSw.cell 0; have q1 : w'.cell? ⟨a, 1, none⟩ = some (.float .f64 c) := hSw.cell 1; go_simp; try with_reducible rfl
    try simp only [Act.put, List.setIfInBounds_toArray, List.set_cons_zero, List.set_cons_succ]
    refine wpAnyF_take (i := 5) (oi := { dst := some 24, op := Go.Op.nilCheck (Go.Operand.tmp 23), type := 0, pos := "stats.go:23", after := #[{ on := 4, ground := Go.Ground.data }], guard := none }) (v := ?_) rfl (by kernel_rfl) (by kernel_rfl) (by kernel_rfl) (by kernel_rfl) (fun _ _ _ h => h) (Or.inl ⟨by rfl, ?_⟩) hS ?_
    rotate_left
    · intro w' hSw; have q0 : w'.cell? ⟨a, 0, none⟩ = some (.float .f64 s) := hSw.cell 0; have q1 : w'.cell? ⟨a, 1, none⟩ = some (.float .f64 c) := hSw.cell 1; go_simp; try with_reducible rfl
    try simp only [Act.put, List.setIfInBounds_toArray, List.set_cons_zero, List.set_cons_succ]
    refine wpAnyF_take (i := 6) (oi := { dst := some 25, op := Go.Op.fieldAddr 93 (Go.Operand.tmp 24) 0, type := 0, pos := "stats.go:23", after := #[{ on := 5, ground := Go.Ground.data }], guard := none }) (v := ?_) rfl (by kernel_rfl) (by kernel_rfl) (by kernel_rfl) (by kernel_rfl) (fun _ _ _ h => h) (Or.inl ⟨by rfl, ?_⟩) hS ?_
    rotate_left
    · intro w' hSw; have q0 : w'.cell? ⟨a, 0, none⟩ = some (.float .f64 s) := hSw.cell 0; have q1 : w'.cell? ⟨a, 1, none⟩ = some (.float .f64 c) := hSw.cell 1; go_simp; try with_reducible rfl
    try simp only [Act.put, List.setIfInBounds_toArray, List.set_cons_zero, List.set_cons_succ]
    refine wpAnyF_take (i := 7) (oi := { dst := some 26, op := Go.Op.load 27 (Go.Operand.tmp 25), type := 27, pos := "stats.go:23", after := #[{ on := 6, ground := Go.Ground.data }], guard := none }) (v := ?_) rfl (by kernel_rfl) (by kernel_rfl) (by kernel_rfl) (by kernel_rfl) (fun _ _ _ h => h) (Or.inl ⟨by rfl, ?_⟩) hS ?_
    rotate_left
    · intro w' hSw; have q0 : w'.cell? ⟨a, 0, none⟩ = some (.float .f64 s) := hSw.cell 0; have q1 : w'.cell? ⟨a, 1, none⟩ = some (.float .f64 c) := hSw.cell 1; go_simp; try with_reducible rfl
    try simp only [Act.put, List.setIfInBounds_toArray, List.set_cons_zero, List.set_cons_succ]
    refine wpAnyF_take (i := 8) (oi := { dst := some 27, op := Go.Op.move (Go.Operand.tmp 4), type := 27, pos := "stats.go:23", after := #[], guard := none }) (v := ?_) rfl (by kernel_rfl) (by kernel_rfl) (by kernel_rfl) (by kernel_rfl) (fun _ _ _ h => h) (Or.inl ⟨by rfl, ?_⟩) hS ?_
    rotate_left
    · intro w' hSw; have q0 : w'.cell? ⟨a, 0, none⟩ = some (.float .f64 s) := hSw.cell 0; have q1 : w'.cell? ⟨a, 1, none⟩ = some (.float .f64 c) := hSw.cell 1; go_simp; try with_reducible rfl
    try simp only [Act.put, List.setIfInBounds_toArray, List.set_cons_zero, List.set_cons_succ]
    refine wpAnyF_take (i := 10) (oi := { dst := some 29, op := Go.Op.move (Go.Operand.tmp 1), type := 27, pos := "stats.go:23", after := #[], guard := none }) (v := ?_) rfl (by kernel_rfl) (by kernel_rfl) (by kernel_rfl) (by kernel_rfl) (fun _ _ _ h => h) (Or.inl ⟨by rfl, ?_⟩) hS ?_
    rotate_left
    · intro w' hSw; have q0 : w'.cell? ⟨a, 0, none⟩ = some (.float .f64 s) := hSw.cell 0; have q1 : w'.cell? ⟨a, 1, none⟩ = some (.float .f64 c) := hSw.cell 1; go_simp; try with_reducible rfl
    try simp only [Act.put, List.setIfInBounds_toArray, List.set_cons_zero, List.set_cons_succ]
    refine wpAnyF_ready (rs := [9]) (by kernel_rfl) (by simp) ?_
    refine AllReadyF.cons (o := { dst := some 28, op := Go.Op.binOp Go.BinOp.sub 27 (Go.Operand.tmp 26) (Go.Operand.tmp 27) 27, type := 27, pos := "stats.go:23", after := #[{ on := 7, ground := Go.Ground.data }, { on := 8, ground := Go.Ground.data }], guard := none }) rfl (by rfl) (fun K hK => ?_) ?_
    · go_simp
      have Hx1 := Lib.hid (isF_sub HS.out HT.out (w0.drew))
      generalize aV Ieee.double.sub s t (w0.drew) = x1 at Hx1 ⊢
      generalize hW : w0.drewN _ = W1
      have HI1 := Lib.hid (show I W1 from hW ▸ hIn _ _ HI0.out)
      clear hW
      refine hK.out _ _ ?_ (fun hS => ?_)
      · exact hI1 _ HI1.out
      clear hK K
      try simp only [Act.put, List.setIfInBounds_toArray, List.set_cons_zero, List.set_cons_succ]
      refine wpAnyF_ready (rs := [11]) (by kernel_rfl) (by simp) ?_
      refine AllReadyF.cons (o := { dst := some 30, op := Go.Op.binOp Go.BinOp.add 27 (Go.Operand.tmp 28) (Go.Operand.tmp 29) 27, type := 27, pos := "stats.go:23", after := #[{ on := 9, ground := Go.Ground.data }, { on := 10, ground := Go.Ground.data }], guard := none }) rfl (by rfl) (fun K hK => ?_) ?_
      · go_simp
        have Hx2 := Lib.hid (isF_add Hx1.out HV.out (W1))
        generalize aV Ieee.double.add x1 v (W1) = x2 at Hx2 ⊢
        generalize hW : W1.drewN _ = W2
        have HI2 := Lib.hid (show I W2 from hW ▸ hIn _ _ HI1.out)
        clear hW
        refine hK.out _ _ ?_ (fun hS => ?_)
        · exact hI1 _ HI2.out
        clear hK K
        try simp only [Act.put, List.setIfInBounds_toArray, List.set_cons_zero, List.set_cons_succ]
        refine wpAnyF_ready (rs := [12]) (by kernel_rfl) (by simp) ?_
        refine AllReadyF.cons (o := { dst := some 31, op := Go.Op.binOp Go.BinOp.add 27 (Go.Operand.tmp 22) (Go.Operand.tmp 30) 27, type := 27, pos := "stats.go:23", after := #[{ on := 3, ground := Go.Ground.data }, { on := 11, ground := Go.Ground.data }], guard := none }) rfl (by rfl) (fun K hK => ?_) ?_
        · go_simp
          have Hx3 := Lib.hid (isF_add HC.out Hx2.out (W2))
          generalize aV Ieee.double.add c x2 (W2) = x3 at Hx3 ⊢
          generalize hW : W2.drewN _ = W3
          have HI3 := Lib.hid (show I W3 from hW ▸ hIn _ _ HI2.out)
          clear hW
          refine hK.out _ _ ?_ (fun hS => ?_)
          · exact hI1 _ HI3.out
          clear hK K
          try simp only [Act.put, List.setIfInBounds_toArray, List.set_cons_zero, List.set_cons_succ]
          refine wpAnyF_ready (rs := [13]) (by kernel_rfl) (by simp) ?_
          refine AllReadyF.cons (o := { dst := some 32, op := Go.Op.nilCheck (Go.Operand.tmp 19), type := 0, pos := "stats.go:23", after := #[{ on := 0, ground := Go.Ground.data }, { on := 0, ground := Go.Ground.phase }, { on := 1, ground := Go.Ground.phase }, { on := 2, ground := Go.Ground.phase }, { on := 3, ground := Go.Ground.phase }, { on := 4, ground := Go.Ground.phase }, { on := 5, ground := Go.Ground.phase }, { on := 6, ground := Go.Ground.phase }, { on := 7, ground := Go.Ground.phase }, { on := 8, ground := Go.Ground.phase }, { on := 9, ground := Go.Ground.phase }, { on := 10, ground := Go.Ground.phase }, { on := 11, ground := Go.Ground.phase }, { on := 12, ground := Go.Ground.phase }], guard := none }) rfl (by rfl) (fun K hK => ?_) ?_
          · go_simp
            refine hK.out _ _ ?_ (fun hS => ?_)
            · exact hS
            clear hK K
            try simp only [Act.put, List.setIfInBounds_toArray, List.set_cons_zero, List.set_cons_succ]
            refine wpAnyF_take (i := 14) (oi := { dst := some 33, op := Go.Op.fieldAddr 93 (Go.Operand.tmp 32) 1, type := 0, pos := "stats.go:23", after := #[{ on := 13, ground := Go.Ground.data }, { on := 0, ground := Go.Ground.phase }, { on := 1, ground := Go.Ground.phase }, { on := 2, ground := Go.Ground.phase }, { on := 3, ground := Go.Ground.phase }, { on := 4, ground := Go.Ground.phase }, { on := 5, ground := Go.Ground.phase }, { on := 6, ground := Go.Ground.phase }, { on := 7, ground := Go.Ground.phase }, { on := 8, ground := Go.Ground.phase }, { on := 9, ground := Go.Ground.phase }, { on := 10, ground := Go.Ground.phase }, { on := 11, ground := Go.Ground.phase }, { on := 12, ground := Go.Ground.phase }], guard := none }) (v := ?_) rfl (by kernel_rfl) (by kernel_rfl) (by kernel_rfl) (by kernel_rfl) (fun _ _ _ h => h) (Or.inl ⟨by rfl, ?_⟩) hS ?_
            rotate_left
            · intro w' hSw; have q0 : w'.cell? ⟨a, 0, none⟩ = some (.float .f64 s) := hSw.cell 0; have q1 : w'.cell? ⟨a, 1, none⟩ = some (.float .f64 c) := hSw.cell 1; go_simp; try with_reducible rfl
            try simp only [Act.put, List.setIfInBounds_toArray, List.set_cons_zero, List.set_cons_succ]
            refine wpAnyF_ready (rs := [15]) (by kernel_rfl) (by simp) ?_
            refine AllReadyF.fin (o := { dst := none, op := Go.Op.store 27 (Go.Operand.tmp 33) (Go.Operand.tmp 31), type := 0, pos := "stats.go:23", after := #[{ on := 14, ground := Go.Ground.data }, { on := 12, ground := Go.Ground.data }, { on := 0, ground := Go.Ground.phase }, { on := 1, ground := Go.Ground.phase }, { on := 2, ground := Go.Ground.phase }, { on := 3, ground := Go.Ground.phase }, { on := 4, ground := Go.Ground.phase }, { on := 5, ground := Go.Ground.phase }, { on := 6, ground := Go.Ground.phase }, { on := 7, ground := Go.Ground.phase }, { on := 8, ground := Go.Ground.phase }, { on := 9, ground := Go.Ground.phase }, { on := 10, ground := Go.Ground.phase }, { on := 11, ground := Go.Ground.phase }, { on := 12, ground := Go.Ground.phase }], guard := none }) rfl (by rfl) (fun K hK => ?_) ?_
            · have q1 : W3.cell? ⟨a, 1, none⟩ = some (.float .f64 c) := (hI1 _ HI3.out).cell 1
              have q2 : W3.frozen? ⟨a, 1, none⟩ = false := (hI1 _ HI3.out).frozen 1
              go_simp
              refine hK.out _ _ ?_
              clear hK K
              try simp only [Act.put, List.setIfInBounds_toArray, List.set_cons_zero, List.set_cons_succ]
              refine wpAnyF_done (by kernel_rfl) ?_ _
              have HB4 := Lib.hid (show Blk (W3.setCell ⟨a, 1, none⟩ (.float .f64 x3)) a 93 #[.float .f64 s, .float .f64 x3] from (hI1 _ HI3.out).set_ 1 _)
              have HC4 := Lib.hid (show Chg (· = a) w (W3.setCell ⟨a, 1, none⟩ (.float .f64 x3)) from (hI2 _ HI3.out).trans (Chg.set _ ⟨a, 1, none⟩ _))
              generalize W3.setCell ⟨a, 1, none⟩ (.float .f64 x3) = W4 at HB4 HC4 ⊢
              have q1 : W4.cell? ⟨a, 0, none⟩ = some (.float .f64 s) := HB4.out.cell 0
              have q2 : W4.frozen? ⟨a, 0, none⟩ = false := HB4.out.frozen 0
              go_wp2_with fail
              refine ⟨rfl, _, results_none rfl _ _ _, ?_⟩
              exact ⟨rfl, by rw [HP2.out]; exact ⟨t, x3, HB4.out.set_ 0 _, HT.out, Hx3.out⟩, HC4.out.trans (Chg.set _ ⟨a, 0, none⟩ _)⟩
            exact AllReadyF.nil
          exact AllReadyF.nil
        exact AllReadyF.nil
      exact AllReadyF.nil
    exact AllReadyF.nil
  · have hg' : fge (fabs fs) (fabs f) = false := by simpa using hg
    have d1 : (FloatKind.f64.format.order ra rb == some .gt || FloatKind.f64.format.order ra rb == some .eq) = false := by rw [ho]; exact hg'
    have HP2 := Lib.hid (show pp = (fadd fs f, fadd fc (fadd (fsub f (fadd fs f)) fs)) by rw [HP.out]; unfold addF; simp only; rw [if_neg hg])
    clear ho hg hg'
    go_wp2_with fail
    refine wp_region_F (fun W => Blk W a 93 #[.float .f64 s, .float .f64 c]) [15] (by kernel_rfl) (show Blk w0.drew a 93 #[.float .f64 s, .float .f64 c] from hI1 w0 HI0.out) (fun hS => ?_)
    refine wpAnyF_take (i := 0) (oi := { dst := some 34, op := Go.Op.move (Go.Operand.tmp 0), type := 107, pos := "stats.go:25", after := #[], guard := none }) (v := ?_) rfl (by kernel_rfl) (by kernel_rfl) (by kernel_rfl) (by kernel_rfl) (fun _ _ _ h => h) (Or.inl ⟨by rfl, ?_⟩) hS ?_
    rotate_left
    · intro w' hSw; have q0 : w'.cell? ⟨a, 0, none⟩ = some (.float .f64 s) := hSw.cell 0; have q1 : w'.cell? ⟨a, 1, none⟩ = some (.float .f64 c) := hSw.cell 1; go_simp; try with_reducible rfl
    try simp only [Act.put, List.setIfInBounds_toArray, List.set_cons_zero, List.set_cons_succ]
    refine wpAnyF_take (i := 1) (oi := { dst := some 35, op := Go.Op.nilCheck (Go.Operand.tmp 34), type := 0, pos := "stats.go:25", after := #[{ on := 0, ground := Go.Ground.data }], guard := none }) (v := ?_) rfl (by kernel_rfl) (by kernel_rfl) (by kernel_rfl) (by kernel_rfl) (fun _ _ _ h => h) (Or.inl ⟨by rfl, ?_⟩) hS ?_
    rotate_left
    · intro w' hSw; have q0 : w'.cell? ⟨a, 0, none⟩ = some (.float .f64 s) := hSw.cell 0; have q1 : w'.cell? ⟨a, 1, none⟩ = some (.float .f64 c) := hSw.cell 1; go_simp; try with_reducible rfl
    try simp only [Act.put, List.setIfInBounds_toArray, List.set_cons_zero, List.set_cons_succ]
    refine wpAnyF_take (i := 2) (oi := { dst := some 36, op := Go.Op.fieldAddr 93 (Go.Operand.tmp 35) 1, type := 0, pos := "stats.go:25", after := #[{ on := 1, ground := Go.Ground.data }], guard := none }) (v := ?_) rfl (by kernel_rfl) (by kernel_rfl) (by kernel_rfl) (by kernel_rfl) (fun _ _ _ h => h) (Or.inl ⟨by rfl, ?_⟩) hS ?_
    rotate_left
    · intro w' hSw; have q0 : w'.cell? ⟨a, 0, none⟩ = some (.float .f64 s) := hSw.cell 0; have q1 : w'.cell? ⟨a, 1, none⟩ = some (.float .f64 c) := hSw.cell 1; go_simp; try with_reducible rfl
    try simp only [Act.put, List.setIfInBounds_toArray, List.set_cons_zero, List.set_cons_succ]
    refine wpAnyF_take (i := 3) (oi := { dst := some 37, op := Go.Op.load 27 (Go.Operand.tmp 36), type := 27, pos := "stats.go:25", after := #[{ on := 2, ground := Go.Ground.data }], guard := none }) (v := ?_) rfl (by kernel_rfl) (by kernel_rfl) (by kernel_rfl) (by kernel_rfl) (fun _ _ _ h => h) (Or.inl ⟨by rfl, ?_⟩) hS ?_
    rotate_left
    · intro w' hSw; have q0 : w'.cell? ⟨a, 0, none⟩ = some (.float .f64 s) := hSw.cell 0; have q1 : w'.cell? ⟨a, 1, none⟩ = some (.float .f64 c) := hSw.cell 1; go_simp; try with_reducible rfl
    try simp only [Act.put, List.setIfInBounds_toArray, List.set_cons_zero, List.set_cons_succ]
    refine wpAnyF_take (i := 4) (oi := { dst := some 38, op := Go.Op.move (Go.Operand.tmp 1), type := 27, pos := "stats.go:25", after := #[], guard := none }) (v := ?_) rfl (by kernel_rfl) (by kernel_rfl) (by kernel_rfl) (by kernel_rfl) (fun _ _ _ h => h) (Or.inl ⟨by rfl, ?_⟩) hS ?_
    rotate_left
    · intro w' hSw; have q0 : w'.cell? ⟨a, 0, none⟩ = some (.float .f64 s) := hSw.cell 0; have q1 : w'.cell? ⟨a, 1, none⟩ = some (.float .f64 c) := hSw.cell 1; go_simp; try with_reducible rfl
    try simp only [Act.put, List.setIfInBounds_toArray, List.set_cons_zero, List.set_cons_succ]
    refine wpAnyF_take (i := 5) (oi := { dst := some 39, op := Go.Op.move (Go.Operand.tmp 4), type := 27, pos := "stats.go:25", after := #[], guard := none }) (v := ?_) rfl (by kernel_rfl) (by kernel_rfl) (by kernel_rfl) (by kernel_rfl) (fun _ _ _ h => h) (Or.inl ⟨by rfl, ?_⟩) hS ?_
    rotate_left
    · intro w' hSw; have q0 : w'.cell? ⟨a, 0, none⟩ = some (.float .f64 s) := hSw.cell 0; have q1 : w'.cell? ⟨a, 1, none⟩ = some (.float .f64 c) := hSw.cell 1; go_simp; try with_reducible rfl
    try simp only [Act.put, List.setIfInBounds_toArray, List.set_cons_zero, List.set_cons_succ]
    refine wpAnyF_take (i := 7) (oi := { dst := some 41, op := Go.Op.move (Go.Operand.tmp 0), type := 107, pos := "stats.go:25", after := #[], guard := none }) (v := ?_) rfl (by kernel_rfl) (by kernel_rfl) (by kernel_rfl) (by kernel_rfl) (fun _ _ _ h => h) (Or.inl ⟨by rfl, ?_⟩) hS ?_
    rotate_left
    · intro w' hSw; have q0 : w'.cell? ⟨a, 0, none⟩ = some (.float .f64 s) := hSw.cell 0; have q1 : w'.cell? ⟨a, 1, none⟩ = some (.float .f64 c) := hSw.cell 1; go_simp; try with_reducible rfl
    try simp only [Act.put, List.setIfInBounds_toArray, List.set_cons_zero, List.set_cons_succ]
    refine wpAnyF_take (i := 8) (oi := { dst := some 42, op := Go.Op.nilCheck (Go.Operand.tmp 41), type := 0, pos := "stats.go:25", after := #[{ on := 7, ground := Go.Ground.data }], guard := none }) (v := ?_) rfl (by kernel_rfl) (by kernel_rfl) (by kernel_rfl) (by kernel_rfl) (fun _ _ _ h => h) (Or.inl ⟨by rfl, ?_⟩) hS ?_
    rotate_left
    · intro w' hSw; have q0 : w'.cell? ⟨a, 0, none⟩ = some (.float .f64 s) := hSw.cell 0; have q1 : w'.cell? ⟨a, 1, none⟩ = some (.float .f64 c) := hSw.cell 1; go_simp; try with_reducible rfl
    try simp only [Act.put, List.setIfInBounds_toArray, List.set_cons_zero, List.set_cons_succ]
    refine wpAnyF_take (i := 9) (oi := { dst := some 43, op := Go.Op.fieldAddr 93 (Go.Operand.tmp 42) 0, type := 0, pos := "stats.go:25", after := #[{ on := 8, ground := Go.Ground.data }], guard := none }) (v := ?_) rfl (by kernel_rfl) (by kernel_rfl) (by kernel_rfl) (by kernel_rfl) (fun _ _ _ h => h) (Or.inl ⟨by rfl, ?_⟩) hS ?_
    rotate_left
    · intro w' hSw; have q0 : w'.cell? ⟨a, 0, none⟩ = some (.float .f64 s) := hSw.cell 0; have q1 : w'.cell? ⟨a, 1, none⟩ = some (.float .f64 c) := hSw.cell 1; go_simp; try with_reducible rfl
    try simp only [Act.put, List.setIfInBounds_toArray, List.set_cons_zero, List.set_cons_succ]
    refine wpAnyF_take (i := 10) (oi := { dst := some 44, op := Go.Op.load 27 (Go.Operand.tmp 43), type := 27, pos := "stats.go:25", after := #[{ on := 9, ground := Go.Ground.data }], guard := none }) (v := ?_) rfl (by kernel_rfl) (by kernel_rfl) (by kernel_rfl) (by kernel_rfl) (fun _ _ _ h => h) (Or.inl ⟨by rfl, ?_⟩) hS ?_
    rotate_left
    · intro w' hSw; have q0 : w'.cell? ⟨a, 0, none⟩ = some (.float .f64 s) := hSw.cell 0; have q1 : w'.cell? ⟨a, 1, none⟩ = some (.float .f64 c) := hSw.cell 1; go_simp; try with_reducible rfl
    try simp only [Act.put, List.setIfInBounds_toArray, List.set_cons_zero, List.set_cons_succ]
    refine wpAnyF_ready (rs := [6]) (by kernel_rfl) (by simp) ?_
    refine AllReadyF.cons (o := { dst := some 40, op := Go.Op.binOp Go.BinOp.sub 27 (Go.Operand.tmp 38) (Go.Operand.tmp 39) 27, type := 27, pos := "stats.go:25", after := #[{ on := 4, ground := Go.Ground.data }, { on := 5, ground := Go.Ground.data }], guard := none }) rfl (by rfl) (fun K hK => ?_) ?_
    · go_simp
      have Hx1 := Lib.hid (isF_sub HV.out HT.out (w0.drew))
      generalize aV Ieee.double.sub v t (w0.drew) = x1 at Hx1 ⊢
      generalize hW : w0.drewN _ = W1
      have HI1 := Lib.hid (show I W1 from hW ▸ hIn _ _ HI0.out)
      clear hW
      refine hK.out _ _ ?_ (fun hS => ?_)
      · exact hI1 _ HI1.out
      clear hK K
      try simp only [Act.put, List.setIfInBounds_toArray, List.set_cons_zero, List.set_cons_succ]
      refine wpAnyF_ready (rs := [11]) (by kernel_rfl) (by simp) ?_
      refine AllReadyF.cons (o := { dst := some 45, op := Go.Op.binOp Go.BinOp.add 27 (Go.Operand.tmp 40) (Go.Operand.tmp 44) 27, type := 27, pos := "stats.go:25", after := #[{ on := 6, ground := Go.Ground.data }, { on := 10, ground := Go.Ground.data }], guard := none }) rfl (by rfl) (fun K hK => ?_) ?_
      · go_simp
        have Hx2 := Lib.hid (isF_add Hx1.out HS.out (W1))
        generalize aV Ieee.double.add x1 s (W1) = x2 at Hx2 ⊢
        generalize hW : W1.drewN _ = W2
        have HI2 := Lib.hid (show I W2 from hW ▸ hIn _ _ HI1.out)
        clear hW
        refine hK.out _ _ ?_ (fun hS => ?_)
        · exact hI1 _ HI2.out
        clear hK K
        try simp only [Act.put, List.setIfInBounds_toArray, List.set_cons_zero, List.set_cons_succ]
        refine wpAnyF_ready (rs := [12]) (by kernel_rfl) (by simp) ?_
        refine AllReadyF.cons (o := { dst := some 46, op := Go.Op.binOp Go.BinOp.add 27 (Go.Operand.tmp 37) (Go.Operand.tmp 45) 27, type := 27, pos := "stats.go:25", after := #[{ on := 3, ground := Go.Ground.data }, { on := 11, ground := Go.Ground.data }], guard := none }) rfl (by rfl) (fun K hK => ?_) ?_
        · go_simp
          have Hx3 := Lib.hid (isF_add HC.out Hx2.out (W2))
          generalize aV Ieee.double.add c x2 (W2) = x3 at Hx3 ⊢
          generalize hW : W2.drewN _ = W3
          have HI3 := Lib.hid (show I W3 from hW ▸ hIn _ _ HI2.out)
          clear hW
          refine hK.out _ _ ?_ (fun hS => ?_)
          · exact hI1 _ HI3.out
          clear hK K
          try simp only [Act.put, List.setIfInBounds_toArray, List.set_cons_zero, List.set_cons_succ]
          refine wpAnyF_ready (rs := [13]) (by kernel_rfl) (by simp) ?_
          refine AllReadyF.cons (o := { dst := some 47, op := Go.Op.nilCheck (Go.Operand.tmp 34), type := 0, pos := "stats.go:25", after := #[{ on := 0, ground := Go.Ground.data }, { on := 0, ground := Go.Ground.phase }, { on := 1, ground := Go.Ground.phase }, { on := 2, ground := Go.Ground.phase }, { on := 3, ground := Go.Ground.phase }, { on := 4, ground := Go.Ground.phase }, { on := 5, ground := Go.Ground.phase }, { on := 6, ground := Go.Ground.phase }, { on := 7, ground := Go.Ground.phase }, { on := 8, ground := Go.Ground.phase }, { on := 9, ground := Go.Ground.phase }, { on := 10, ground := Go.Ground.phase }, { on := 11, ground := Go.Ground.phase }, { on := 12, ground := Go.Ground.phase }], guard := none }) rfl (by rfl) (fun K hK => ?_) ?_
          · go_simp
            refine hK.out _ _ ?_ (fun hS => ?_)
            · exact hS
            clear hK K
            try simp only [Act.put, List.setIfInBounds_toArray, List.set_cons_zero, List.set_cons_succ]
            refine wpAnyF_take (i := 14) (oi := { dst := some 48, op := Go.Op.fieldAddr 93 (Go.Operand.tmp 47) 1, type := 0, pos := "stats.go:25", after := #[{ on := 13, ground := Go.Ground.data }, { on := 0, ground := Go.Ground.phase }, { on := 1, ground := Go.Ground.phase }, { on := 2, ground := Go.Ground.phase }, { on := 3, ground := Go.Ground.phase }, { on := 4, ground := Go.Ground.phase }, { on := 5, ground := Go.Ground.phase }, { on := 6, ground := Go.Ground.phase }, { on := 7, ground := Go.Ground.phase }, { on := 8, ground := Go.Ground.phase }, { on := 9, ground := Go.Ground.phase }, { on := 10, ground := Go.Ground.phase }, { on := 11, ground := Go.Ground.phase }, { on := 12, ground := Go.Ground.phase }], guard := none }) (v := ?_) rfl (by kernel_rfl) (by kernel_rfl) (by kernel_rfl) (by kernel_rfl) (fun _ _ _ h => h) (Or.inl ⟨by rfl, ?_⟩) hS ?_
            rotate_left
            · intro w' hSw; have q0 : w'.cell? ⟨a, 0, none⟩ = some (.float .f64 s) := hSw.cell 0; have q1 : w'.cell? ⟨a, 1, none⟩ = some (.float .f64 c) := hSw.cell 1; go_simp; try with_reducible rfl
            try simp only [Act.put, List.setIfInBounds_toArray, List.set_cons_zero, List.set_cons_succ]
            refine wpAnyF_ready (rs := [15]) (by kernel_rfl) (by simp) ?_
            refine AllReadyF.fin (o := { dst := none, op := Go.Op.store 27 (Go.Operand.tmp 48) (Go.Operand.tmp 46), type := 0, pos := "stats.go:25", after := #[{ on := 14, ground := Go.Ground.data }, { on := 12, ground := Go.Ground.data }, { on := 0, ground := Go.Ground.phase }, { on := 1, ground := Go.Ground.phase }, { on := 2, ground := Go.Ground.phase }, { on := 3, ground := Go.Ground.phase }, { on := 4, ground := Go.Ground.phase }, { on := 5, ground := Go.Ground.phase }, { on := 6, ground := Go.Ground.phase }, { on := 7, ground := Go.Ground.phase }, { on := 8, ground := Go.Ground.phase }, { on := 9, ground := Go.Ground.phase }, { on := 10, ground := Go.Ground.phase }, { on := 11, ground := Go.Ground.phase }, { on := 12, ground := Go.Ground.phase }], guard := none }) rfl (by rfl) (fun K hK => ?_) ?_
            · have q1 : W3.cell? ⟨a, 1, none⟩ = some (.float .f64 c) := (hI1 _ HI3.out).cell 1
              have q2 : W3.frozen? ⟨a, 1, none⟩ = false := (hI1 _ HI3.out).frozen 1
              go_simp
              refine hK.out _ _ ?_
              clear hK K
              try simp only [Act.put, List.setIfInBounds_toArray, List.set_cons_zero, List.set_cons_succ]
              refine wpAnyF_done (by kernel_rfl) ?_ _
              have HB4 := Lib.hid (show Blk (W3.setCell ⟨a, 1, none⟩ (.float .f64 x3)) a 93 #[.float .f64 s, .float .f64 x3] from (hI1 _ HI3.out).set_ 1 _)
              have HC4 := Lib.hid (show Chg (· = a) w (W3.setCell ⟨a, 1, none⟩ (.float .f64 x3)) from (hI2 _ HI3.out).trans (Chg.set _ ⟨a, 1, none⟩ _))
              generalize W3.setCell ⟨a, 1, none⟩ (.float .f64 x3) = W4 at HB4 HC4 ⊢
              have q1 : W4.cell? ⟨a, 0, none⟩ = some (.float .f64 s) := HB4.out.cell 0
              have q2 : W4.frozen? ⟨a, 0, none⟩ = false := HB4.out.frozen 0
              go_wp2_with fail
              refine ⟨rfl, _, results_none rfl _ _ _, ?_⟩
              exact ⟨rfl, by rw [HP2.out]; exact ⟨t, x3, HB4.out.set_ 0 _, HT.out, Hx3.out⟩, HC4.out.trans (Chg.set _ ⟨a, 0, none⟩ _)⟩
            exact AllReadyF.nil
          exact AllReadyF.nil
        exact AllReadyF.nil
      exact AllReadyF.nil
    exact AllReadyF.nil
end Go.Proofs.YtidejikolcgojaaGreat.St

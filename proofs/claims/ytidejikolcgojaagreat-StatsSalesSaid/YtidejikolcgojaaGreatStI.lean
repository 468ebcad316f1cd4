/- Stats: the line that fits best. (Printed by tools/gen_fit.py.) -/
import Derived.Test.YtidejikolcgojaaGreatStH
import Derived.Deep.CutRange
namespace Go.Proofs.YtidejikolcgojaaGreat.St
open Go.RowKit Go.Shelf
open Go.Proofs.YtidejikolcgojaaGreat.Vb Go.Proofs.YtidejikolcgojaaGreat.Ac
attribute [local go_sem] run_fadd run_fsub run_fmul run_fdiv run_store_float

theorem prodL_length (x : List Fl) (a : Fl) (y : List Fl) (b : Fl) (h : x.length = y.length) : (prodL x a y b).length = x.length := by
  unfold prodL
  rw [List.length_zipWith, h, Nat.min_self]
theorem fit1_giv {W : World} {gt gx gm gn : Nat} {R R' : Nat → Prop} {t x : List Nat} {mt mx : Fl} (ht : RowAt W gt R t) (hx : RowAt W gx R' x) (hm : NumAt W gm mt) (hn : NumAt W gn mx) :
    Giv Tryz.prog 45 #[.pointer (some ⟨gt, 0, none⟩), .pointer (some ⟨gm, 0, none⟩), .pointer (some ⟨gx, 0, none⟩), .pointer (some ⟨gn, 0, none⟩)] (prodL (nums t) mt (nums x) mx) W := by
  intro W1 i f hb hf
  unfold prodL at hf
  rw [List.getElem?_zipWith] at hf
  cases h1 : (nums t)[i]? with
  | none => rw [h1] at hf; cases hf
  | some p =>
    cases h2 : (nums x)[i]? with
    | none => rw [h1, h2] at hf; cases hf
    | some q =>
      rw [h1, h2] at hf
      injection hf with hf
      obtain ⟨a, ha, rfl⟩ := nums_get h1
      obtain ⟨b, hb', rfl⟩ := nums_get h2
      subst hf
      exact fit1_any (ht.grow hb) (hx.grow hb) (hm.grow hb) (hn.grow hb) ha hb'
theorem fit2_giv {W : World} {gt gm : Nat} {R : Nat → Prop} {t : List Nat} {mt : Fl} (ht : RowAt W gt R t) (hm : NumAt W gm mt) : Giv Tryz.prog 46 #[.pointer (some ⟨gt, 0, none⟩), .pointer (some ⟨gm, 0, none⟩)] (prodL (nums t) mt (nums t) mt) W := by
  rw [prodL_self]
  intro W1 i f hb hf
  obtain ⟨p, hp, rfl⟩ := map_get hf
  obtain ⟨x, hx, rfl⟩ := nums_get hp
  exact fit2_any (ht.grow hb) (hm.grow hb) hx

theorem _root_.Go.Proofs.YtidejikolcgojaaGreat.Ac.Blk.newD (w : World) (t : TypeId) (cs : Array Value) : Blk (w.alloc (.cells cs t)).drew w.heap.size t cs := Blk.new w t cs
/-- the sums that the line comes of -/
def fitA (t x : List Nat) : Fl := sumL (prodL (nums t) (meanL t) (nums x) (meanL x))
def fitB (t : List Nat) : Fl := sumL (prodL (nums t) (meanL t) (nums t) (meanL t))
/-- is there none? -/
def fitNo (t x : List Nat) : Bool := decide (t.length ≠ x.length) || decide (t.length < 2) || (ford (fitB t) (some 0) == some .eq) || (fitB t).isNone
def fitSlope (t x : List Nat) : Fl := fdiv (fitA t x) (fitB t)
def fitAt (t x : List Nat) : Fl := fsub (meanL x) (fmul (fitSlope t x) (meanL t))
/-- what Fit tells -/
def FitP (t x : List Nat) (w : World) (e : Ending) (w' : World) : Prop :=
  (∃ a s, e = .returned (.tuple #[.agg #[.float .f64 a, .float .f64 s], .bool (!fitNo t x)]) ∧ IsF a (if fitNo t x then some 0 else fzero (fitAt t x)) ∧ IsF s (if fitNo t x then some 0 else fzero (fitSlope t x))) ∧ Below w.heap.size w w'
theorem fitP_no {t x : List Nat} {w w' : World} (h : fitNo t x = true) (hb : Below w.heap.size w w') : FitP t x w (.returned (.tuple #[.agg #[.float .f64 0, .float .f64 0], .bool false])) w' := by
  refine ⟨⟨0, 0, by rw [h]; rfl, ?_, ?_⟩, hb⟩
  · rw [if_pos h]; exact zero_isF
  · rw [if_pos h]; exact zero_isF
theorem fitP_yes {t x : List Nat} {w w' : World} {a s : Nat} (h : fitNo t x = false) (ha : IsF a (fzero (fitAt t x))) (hs : IsF s (fzero (fitSlope t x))) (hb : Below w.heap.size w w') : FitP t x w (.returned (.tuple #[.agg #[.float .f64 a, .float .f64 s], .bool true])) w' := by
  refine ⟨⟨a, s, by rw [h]; rfl, ?_, ?_⟩, hb⟩
  · rw [if_neg (by rw [h]; decide)]; exact ha
  · rw [if_neg (by rw [h]; decide)]; exact hs
/-- behind the means -/
def FitCut (U : World) (t x : List Nat) (p q : Value) (wx : World) : Prop :=
  ∃ gm gn, p = .pointer (some ⟨gm, 0, none⟩) ∧ q = .pointer (some ⟨gn, 0, none⟩) ∧ NumAt wx gm (meanL t) ∧ NumAt wx gn (meanL x) ∧ Below U.heap.size U wx

set_option maxRecDepth 100000 in
set_option maxHeartbeats 8000000 in
theorem Fit_any {t x : List Nat} {vt vx : Value} {R R' : Nat → Prop} {w : World} (ht : Fls w R vt t) (hx : Fls w R' vx x) : Calls Tryz.prog 9 #[vt, vx] w (FitP t x w) := by
  obtain ⟨A, cap, rfl, hnc, hcap⟩ := ht.form
  obtain ⟨A2, cap2, rfl, hnc2, hcap2⟩ := hx.form
  unfold maxLen at hcap hcap2
  obtain ⟨U, hU⟩ : ∃ U, U = ((w.alloc (.cells #[.slice A t.length cap] 24)).alloc (.cells #[.slice A2 x.length cap2] 24)).alloc (.cells #[.float .f64 0, .float .f64 0] 29) := ⟨_, rfl⟩
  have hB : Below w.heap.size w U := by rw [hU]; exact (((Below.refl _ _).alloc (Nat.le_refl _) _).alloc (by simp) _).alloc (by simp; omega) _
  have hT : Blk U w.heap.size 24 #[.slice A t.length cap] := by rw [hU]; exact ((Blk.new w _ _).alloc _).alloc _
  have hX : Blk U (w.heap.size + 1) 24 #[.slice A2 x.length cap2] := by rw [hU]; exact (Blk.new' _ _ (by simp)).alloc _
  have hY : Blk U (w.heap.size + 2) 29 #[.float .f64 0, .float .f64 0] := by rw [hU]; exact Blk.new' _ _ (by simp)
  have HTL := Lib.hid (ht.grow hB)
  have HXL := Lib.hid (hx.grow hB)
  have HRT := Lib.hid (show RowAt U w.heap.size R t from ⟨_, hT, ht.grow hB⟩)
  have HRX := Lib.hid (show RowAt U (w.heap.size + 1) R' x from ⟨_, hX, hx.grow hB⟩)
  have HB := Lib.hid hB
  have HTB := Lib.hid hT
  have HXB := Lib.hid hX
  have HYB := Lib.hid hY
  have k0 : U.cell? ⟨w.heap.size, 0, none⟩ = some (.slice A t.length cap) := hT.cell 0
  have k1 : U.cell? ⟨w.heap.size + 1, 0, none⟩ = some (.slice A2 x.length cap2) := hX.cell 0
  have y0 : U.cell? ⟨w.heap.size + 2, 0, none⟩ = some (.float .f64 0) := hY.cell 0
  have y1 : U.cell? ⟨w.heap.size + 2, 1, none⟩ = some (.float .f64 0) := hY.cell 1
  have y2 : U.frozen? ⟨w.heap.size + 2, 0, none⟩ = false := hY.frozen 0
  have y3 : U.frozen? ⟨w.heap.size + 2, 1, none⟩ = false := hY.frozen 1
  have l0 := hT.lt
  have l1 := hX.lt
  have l2 := hY.lt
  have hsU := hB.size
  have HNT := Lib.hid (nums_length t)
  have HNX := Lib.hid (nums_length x)
  have HNO := Lib.hid (show fitNo t x = (decide (t.length ≠ x.length) || decide (t.length < 2) || (ford (fitB t) (some 0) == some .eq) || (fitB t).isNone) from rfl)
  clear ht hx hB hT hX hY
  by_cases hne : t.length = x.length
  · have d1 : ((t.length : Int) != (x.length : Int)) = false := by rw [hne]; simp
    by_cases hlt : t.length < 2
    · have hno : fitNo t x = true := by rw [HNO.out, decide_eq_true hlt]; simp
      have HFN := Lib.hid hno
      have d2 : decide ((t.length : Int) < 2) = true := by simp; omega
      clear hne hno
      go_enter Tryz.func9, Tryz.ntmps9
      go_wp2_with fail
      rw [← hU]
      clear hU
      go_wp2_with fail
      exact bodyPost_ret (v := .tuple #[.agg #[.float .f64 0, .float .f64 0], .bool false]) (by simp [results, Tryz.results9, go_sem, y0, y1]) rfl (fitP_no HFN.out HB.out)
    · have d2 : decide ((t.length : Int) < 2) = false := by simp; omega
      have HNE := Lib.hid hne
      have HLT := Lib.hid hlt
      clear hne hlt
      go_enter Tryz.func9, Tryz.ntmps9
      go_upto_region 3 with fail
      rw [← hU]
      clear hU
      go_cut [6, 7] from 22 to 52 (fun p q wx => FitCut U t x p q wx)
      case first =>
        have HS0 := Lib.hid (Below.refl U.heap.size U).drew
        refine wp_region_F (Below U.heap.size U) [7] (by kernel_rfl) ((Below.refl _ _).drew) (fun hS => ?_)
        refine wpAnyF_take (i := 0) (oi := { dst := some 22, op := Go.Op.load 24 (Go.Operand.tmp 2), type := 24, pos := "stats.go:215", after := #[], guard := none }) (v := ?_) rfl (by kernel_rfl) (by kernel_rfl) (by kernel_rfl) (by kernel_rfl) (fun _ _ _ h => h) (Or.inl ⟨by rfl, ?_⟩) hS ?_
        rotate_left
        · intro w' hSw; have z0 := (hSw.cell (p := ⟨w.heap.size, 0, none⟩) l0).trans k0; have z1 := (hSw.cell (p := ⟨w.heap.size + 1, 0, none⟩) l1).trans k1; go_simp; try with_reducible rfl
        try simp only [Act.put, List.setIfInBounds_toArray, List.set_cons_zero, List.set_cons_succ]
        refine wpAnyF_take (i := 2) (oi := { dst := some 24, op := Go.Op.load 24 (Go.Operand.tmp 3), type := 24, pos := "stats.go:215", after := #[], guard := none }) (v := ?_) rfl (by kernel_rfl) (by kernel_rfl) (by kernel_rfl) (by kernel_rfl) (fun _ _ _ h => h) (Or.inl ⟨by rfl, ?_⟩) hS ?_
        rotate_left
        · intro w' hSw; have z0 := (hSw.cell (p := ⟨w.heap.size, 0, none⟩) l0).trans k0; have z1 := (hSw.cell (p := ⟨w.heap.size + 1, 0, none⟩) l1).trans k1; go_simp; try with_reducible rfl
        try simp only [Act.put, List.setIfInBounds_toArray, List.set_cons_zero, List.set_cons_succ]
        refine wpAnyF_ready (rs := [1, 4, 5]) (by kernel_rfl) (by simp) ?_
        refine AllReadyF.cons (o := { dst := some 23, op := Go.Op.call { callee := Go.Callee.value (Go.Operand.func 43), args := #[Go.Operand.tmp 22], argTypes := #[24] }, type := 27, pos := "stats.go:215", after := #[{ on := 0, ground := Go.Ground.data }], guard := none }) rfl (by rfl) (fun K hK => ?_) ?_
        · go_simp
          refine (mean_any (HTL.out.grow HS0.out)).mono ?_
          rintro e V1 ⟨mt, rfl, hmt, hbk⟩
          have Hmt := Lib.hid hmt
          have HS1 := Lib.hid (HS0.out.trans (hbk.mono HS0.out.size))
          clear hmt hbk
          refine hK.out _ _ ?_ (fun hS => ?_)
          · exact HS1.out
          clear hK K
          try simp only [Act.put, List.setIfInBounds_toArray, List.set_cons_zero, List.set_cons_succ]
          refine wpAnyF_ready (rs := [3, 4, 5]) (by kernel_rfl) (by simp) ?_
          refine AllReadyF.cons (o := { dst := some 25, op := Go.Op.call { callee := Go.Callee.value (Go.Operand.func 43), args := #[Go.Operand.tmp 24], argTypes := #[24] }, type := 27, pos := "stats.go:215", after := #[{ on := 2, ground := Go.Ground.data }, { on := 1, ground := Go.Ground.chain }], guard := none }) rfl (by rfl) (fun K hK => ?_) ?_
          · go_simp
            refine (mean_any (HXL.out.grow HS1.out)).mono ?_
            rintro e V2 ⟨mx, rfl, hmx, hbk⟩
            have Hmx := Lib.hid hmx
            have HS2 := Lib.hid (HS1.out.trans (hbk.mono HS1.out.size))
            clear hmx hbk
            refine hK.out _ _ ?_ (fun hS => ?_)
            · exact HS2.out
            clear hK K
            try simp only [Act.put, List.setIfInBounds_toArray, List.set_cons_zero, List.set_cons_succ]
            refine wpAnyF_ready (rs := [4, 5]) (by kernel_rfl) (by simp) ?_
            refine AllReadyF.cons (o := { dst := some 6, op := Go.Op.alloc 27, type := 0, pos := "stats.go:215", after := #[], guard := none }) rfl (by rfl) (fun K hK => ?_) ?_
            · go_simp
              have hge4 : U.heap.size ≤ V2.heap.size := HS2.out.size
              obtain ⟨V3, hV⟩ : ∃ V : World, V = V2.alloc (.cells #[.float .f64 0] 27) := ⟨_, rfl⟩
              rw [← hV]
              have hbk : Below V2.heap.size V2 V3 := by rw [hV]; exact ((Below.refl _ _).alloc (Nat.le_refl _) _)
              have HP43 := Lib.hid (show Blk V3 V2.heap.size 27 #[.float .f64 0] by rw [hV]; exact Blk.new V2 _ _)
              have HS3 := Lib.hid (HS2.out.trans (hbk.mono HS2.out.size))
              clear hV hbk
              refine hK.out _ _ ?_ (fun hS => ?_)
              · exact HS3.out
              clear hK K
              try simp only [Act.put, List.setIfInBounds_toArray, List.set_cons_zero, List.set_cons_succ]
              refine wpAnyF_ready (rs := [5]) (by kernel_rfl) (by simp) ?_
              refine AllReadyF.cons (o := { dst := some 7, op := Go.Op.alloc 27, type := 0, pos := "stats.go:215", after := #[], guard := none }) rfl (by rfl) (fun K hK => ?_) ?_
              · go_simp
                have hge5 : U.heap.size ≤ V3.heap.size := HS3.out.size
                have hlt4 := HP43.out.lt
                obtain ⟨V4, hV⟩ : ∃ V : World, V = V3.alloc (.cells #[.float .f64 0] 27) := ⟨_, rfl⟩
                rw [← hV]
                have hbk : Below V3.heap.size V3 V4 := by rw [hV]; exact ((Below.refl _ _).alloc (Nat.le_refl _) _)
                have HP54 := Lib.hid (show Blk V4 V3.heap.size 27 #[.float .f64 0] by rw [hV]; exact Blk.new V3 _ _)
                have HS4 := Lib.hid (HS3.out.trans (hbk.mono HS3.out.size))
                have HP44 := Lib.hid (HP43.out.grow hbk)
                clear hV hbk
                refine hK.out _ _ ?_ (fun hS => ?_)
                · exact HS4.out
                clear hK K
                try simp only [Act.put, List.setIfInBounds_toArray, List.set_cons_zero, List.set_cons_succ]
                refine wpAnyF_ready (rs := [6]) (by kernel_rfl) (by simp) ?_
                refine AllReadyF.cons (o := { dst := none, op := Go.Op.store 27 (Go.Operand.tmp 6) (Go.Operand.tmp 23), type := 0, pos := "stats.go:215", after := #[{ on := 4, ground := Go.Ground.data }, { on := 1, ground := Go.Ground.data }, { on := 3, ground := Go.Ground.chain }, { on := 0, ground := Go.Ground.phase }, { on := 1, ground := Go.Ground.phase }, { on := 2, ground := Go.Ground.textOnly Go.Departure.lateStores }, { on := 3, ground := Go.Ground.textOnly Go.Departure.lateStoresUnsure }, { on := 4, ground := Go.Ground.phase }, { on := 5, ground := Go.Ground.phase }], guard := none }) rfl (by rfl) (fun K hK => ?_) ?_
                · have q1 : V4.cell? ⟨V2.heap.size, 0, none⟩ = some (.float .f64 0) := HP44.out.cell 0
                  have q2 : V4.frozen? ⟨V2.heap.size, 0, none⟩ = false := HP44.out.frozen 0
                  go_simp
                  clear q1 q2
                  have hnn : V3.heap.size ≠ V2.heap.size := by omega
                  have HP5 := Lib.hid (HP54.out.far (p := ⟨V2.heap.size, 0, none⟩) hnn (.float .f64 mt))
                  have HP4 := Lib.hid (HP44.out.set_ 0 (.float .f64 mt))
                  have HSB := Lib.hid (HS4.out.setCell (p := ⟨V2.heap.size, 0, none⟩) (show U.heap.size ≤ V2.heap.size by omega) (.float .f64 mt))
                  obtain ⟨V5, hV⟩ : ∃ V : World, V = V4.setCell ⟨V2.heap.size, 0, none⟩ (.float .f64 mt) := ⟨_, rfl⟩
                  rw [← hV] at HP5 HP4 HSB ⊢
                  clear hV
                  refine hK.out _ _ ?_ (fun hS => ?_)
                  · exact HSB.out
                  clear hK K
                  try simp only [Act.put, List.setIfInBounds_toArray, List.set_cons_zero, List.set_cons_succ]
                  refine wpAnyF_ready (rs := [7]) (by kernel_rfl) (by simp) ?_
                  refine AllReadyF.fin (o := { dst := none, op := Go.Op.store 27 (Go.Operand.tmp 7) (Go.Operand.tmp 25), type := 0, pos := "stats.go:215", after := #[{ on := 5, ground := Go.Ground.data }, { on := 3, ground := Go.Ground.data }, { on := 6, ground := Go.Ground.chain }, { on := 0, ground := Go.Ground.phase }, { on := 1, ground := Go.Ground.phase }, { on := 2, ground := Go.Ground.phase }, { on := 3, ground := Go.Ground.phase }, { on := 4, ground := Go.Ground.phase }, { on := 5, ground := Go.Ground.phase }, { on := 6, ground := Go.Ground.phase }], guard := none }) rfl (by rfl) (fun K hK => ?_) ?_
                  · have q1 : V5.cell? ⟨V3.heap.size, 0, none⟩ = some (.float .f64 0) := HP5.out.cell 0
                    have q2 : V5.frozen? ⟨V3.heap.size, 0, none⟩ = false := HP5.out.frozen 0
                    go_simp
                    clear q1 q2
                    refine hK.out _ _ ?_
                    clear hK K
                    try simp only [Act.put, List.setIfInBounds_toArray, List.set_cons_zero, List.set_cons_succ]
                    refine wpAnyF_done (by kernel_rfl) ?_ _
                    go_wp2_with fail
                    go_meet
                    exact ⟨V2.heap.size, V3.heap.size, rfl, rfl, ⟨mt, HP4.out.far (p := ⟨V3.heap.size, 0, none⟩) (show V2.heap.size ≠ V3.heap.size by omega) (.float .f64 mx), Hmt.out⟩, ⟨mx, HP5.out.set_ 0 (.float .f64 mx), Hmx.out⟩, HSB.out.setCell (p := ⟨V3.heap.size, 0, none⟩) (show U.heap.size ≤ V3.heap.size by omega) (.float .f64 mx)⟩
                  exact AllReadyF.nil
                exact AllReadyF.nil
              exact AllReadyF.nil
            refine AllReadyF.cons (o := { dst := some 7, op := Go.Op.alloc 27, type := 0, pos := "stats.go:215", after := #[], guard := none }) rfl (by rfl) (fun K hK => ?_) ?_
            · go_simp
              have hge5 : U.heap.size ≤ V2.heap.size := HS2.out.size
              obtain ⟨V3, hV⟩ : ∃ V : World, V = V2.alloc (.cells #[.float .f64 0] 27) := ⟨_, rfl⟩
              rw [← hV]
              have hbk : Below V2.heap.size V2 V3 := by rw [hV]; exact ((Below.refl _ _).alloc (Nat.le_refl _) _)
              have HP53 := Lib.hid (show Blk V3 V2.heap.size 27 #[.float .f64 0] by rw [hV]; exact Blk.new V2 _ _)
              have HS3 := Lib.hid (HS2.out.trans (hbk.mono HS2.out.size))
              clear hV hbk
              refine hK.out _ _ ?_ (fun hS => ?_)
              · exact HS3.out
              clear hK K
              try simp only [Act.put, List.setIfInBounds_toArray, List.set_cons_zero, List.set_cons_succ]
              refine wpAnyF_ready (rs := [4]) (by kernel_rfl) (by simp) ?_
              refine AllReadyF.cons (o := { dst := some 6, op := Go.Op.alloc 27, type := 0, pos := "stats.go:215", after := #[], guard := none }) rfl (by rfl) (fun K hK => ?_) ?_
              · go_simp
                have hge4 : U.heap.size ≤ V3.heap.size := HS3.out.size
                have hlt5 := HP53.out.lt
                obtain ⟨V4, hV⟩ : ∃ V : World, V = V3.alloc (.cells #[.float .f64 0] 27) := ⟨_, rfl⟩
                rw [← hV]
                have hbk : Below V3.heap.size V3 V4 := by rw [hV]; exact ((Below.refl _ _).alloc (Nat.le_refl _) _)
                have HP44 := Lib.hid (show Blk V4 V3.heap.size 27 #[.float .f64 0] by rw [hV]; exact Blk.new V3 _ _)
                have HS4 := Lib.hid (HS3.out.trans (hbk.mono HS3.out.size))
                have HP54 := Lib.hid (HP53.out.grow hbk)
                clear hV hbk
                refine hK.out _ _ ?_ (fun hS => ?_)
                · exact HS4.out
                clear hK K
                try simp only [Act.put, List.setIfInBounds_toArray, List.set_cons_zero, List.set_cons_succ]
                refine wpAnyF_ready (rs := [6]) (by kernel_rfl) (by simp) ?_
                refine AllReadyF.cons (o := { dst := none, op := Go.Op.store 27 (Go.Operand.tmp 6) (Go.Operand.tmp 23), type := 0, pos := "stats.go:215", after := #[{ on := 4, ground := Go.Ground.data }, { on := 1, ground := Go.Ground.data }, { on := 3, ground := Go.Ground.chain }, { on := 0, ground := Go.Ground.phase }, { on := 1, ground := Go.Ground.phase }, { on := 2, ground := Go.Ground.textOnly Go.Departure.lateStores }, { on := 3, ground := Go.Ground.textOnly Go.Departure.lateStoresUnsure }, { on := 4, ground := Go.Ground.phase }, { on := 5, ground := Go.Ground.phase }], guard := none }) rfl (by rfl) (fun K hK => ?_) ?_
                · have q1 : V4.cell? ⟨V3.heap.size, 0, none⟩ = some (.float .f64 0) := HP44.out.cell 0
                  have q2 : V4.frozen? ⟨V3.heap.size, 0, none⟩ = false := HP44.out.frozen 0
                  go_simp
                  clear q1 q2
                  have hnn : V2.heap.size ≠ V3.heap.size := by omega
                  have HP5 := Lib.hid (HP54.out.far (p := ⟨V3.heap.size, 0, none⟩) hnn (.float .f64 mt))
                  have HP4 := Lib.hid (HP44.out.set_ 0 (.float .f64 mt))
                  have HSB := Lib.hid (HS4.out.setCell (p := ⟨V3.heap.size, 0, none⟩) (show U.heap.size ≤ V3.heap.size by omega) (.float .f64 mt))
                  obtain ⟨V5, hV⟩ : ∃ V : World, V = V4.setCell ⟨V3.heap.size, 0, none⟩ (.float .f64 mt) := ⟨_, rfl⟩
                  rw [← hV] at HP5 HP4 HSB ⊢
                  clear hV
                  refine hK.out _ _ ?_ (fun hS => ?_)
                  · exact HSB.out
                  clear hK K
                  try simp only [Act.put, List.setIfInBounds_toArray, List.set_cons_zero, List.set_cons_succ]
                  refine wpAnyF_ready (rs := [7]) (by kernel_rfl) (by simp) ?_
                  refine AllReadyF.fin (o := { dst := none, op := Go.Op.store 27 (Go.Operand.tmp 7) (Go.Operand.tmp 25), type := 0, pos := "stats.go:215", after := #[{ on := 5, ground := Go.Ground.data }, { on := 3, ground := Go.Ground.data }, { on := 6, ground := Go.Ground.chain }, { on := 0, ground := Go.Ground.phase }, { on := 1, ground := Go.Ground.phase }, { on := 2, ground := Go.Ground.phase }, { on := 3, ground := Go.Ground.phase }, { on := 4, ground := Go.Ground.phase }, { on := 5, ground := Go.Ground.phase }, { on := 6, ground := Go.Ground.phase }], guard := none }) rfl (by rfl) (fun K hK => ?_) ?_
                  · have q1 : V5.cell? ⟨V2.heap.size, 0, none⟩ = some (.float .f64 0) := HP5.out.cell 0
                    have q2 : V5.frozen? ⟨V2.heap.size, 0, none⟩ = false := HP5.out.frozen 0
                    go_simp
                    clear q1 q2
                    refine hK.out _ _ ?_
                    clear hK K
                    try simp only [Act.put, List.setIfInBounds_toArray, List.set_cons_zero, List.set_cons_succ]
                    refine wpAnyF_done (by kernel_rfl) ?_ _
                    go_wp2_with fail
                    go_meet
                    exact ⟨V3.heap.size, V2.heap.size, rfl, rfl, ⟨mt, HP4.out.far (p := ⟨V2.heap.size, 0, none⟩) (show V3.heap.size ≠ V2.heap.size by omega) (.float .f64 mx), Hmt.out⟩, ⟨mx, HP5.out.set_ 0 (.float .f64 mx), Hmx.out⟩, HSB.out.setCell (p := ⟨V2.heap.size, 0, none⟩) (show U.heap.size ≤ V2.heap.size by omega) (.float .f64 mx)⟩
                  exact AllReadyF.nil
                exact AllReadyF.nil
              exact AllReadyF.nil
            exact AllReadyF.nil
          refine AllReadyF.cons (o := { dst := some 6, op := Go.Op.alloc 27, type := 0, pos := "stats.go:215", after := #[], guard := none }) rfl (by rfl) (fun K hK => ?_) ?_
          · go_simp
            have hge4 : U.heap.size ≤ V1.heap.size := HS1.out.size
            obtain ⟨V2, hV⟩ : ∃ V : World, V = V1.alloc (.cells #[.float .f64 0] 27) := ⟨_, rfl⟩
            rw [← hV]
            have hbk : Below V1.heap.size V1 V2 := by rw [hV]; exact ((Below.refl _ _).alloc (Nat.le_refl _) _)
            have HP42 := Lib.hid (show Blk V2 V1.heap.size 27 #[.float .f64 0] by rw [hV]; exact Blk.new V1 _ _)
            have HS2 := Lib.hid (HS1.out.trans (hbk.mono HS1.out.size))
            clear hV hbk
            refine hK.out _ _ ?_ (fun hS => ?_)
            · exact HS2.out
            clear hK K
            try simp only [Act.put, List.setIfInBounds_toArray, List.set_cons_zero, List.set_cons_succ]
            refine wpAnyF_ready (rs := [3, 5]) (by kernel_rfl) (by simp) ?_
            refine AllReadyF.cons (o := { dst := some 25, op := Go.Op.call { callee := Go.Callee.value (Go.Operand.func 43), args := #[Go.Operand.tmp 24], argTypes := #[24] }, type := 27, pos := "stats.go:215", after := #[{ on := 2, ground := Go.Ground.data }, { on := 1, ground := Go.Ground.chain }], guard := none }) rfl (by rfl) (fun K hK => ?_) ?_
            · go_simp
              refine (mean_any (HXL.out.grow HS2.out)).mono ?_
              rintro e V3 ⟨mx, rfl, hmx, hbk⟩
              have Hmx := Lib.hid hmx
              have HS3 := Lib.hid (HS2.out.trans (hbk.mono HS2.out.size))
              have HP43 := Lib.hid (HP42.out.grow hbk)
              clear hmx hbk
              refine hK.out _ _ ?_ (fun hS => ?_)
              · exact HS3.out
              clear hK K
              try simp only [Act.put, List.setIfInBounds_toArray, List.set_cons_zero, List.set_cons_succ]
              refine wpAnyF_ready (rs := [5]) (by kernel_rfl) (by simp) ?_
              refine AllReadyF.cons (o := { dst := some 7, op := Go.Op.alloc 27, type := 0, pos := "stats.go:215", after := #[], guard := none }) rfl (by rfl) (fun K hK => ?_) ?_
              · go_simp
                have hge5 : U.heap.size ≤ V3.heap.size := HS3.out.size
                have hlt4 := HP43.out.lt
                obtain ⟨V4, hV⟩ : ∃ V : World, V = V3.alloc (.cells #[.float .f64 0] 27) := ⟨_, rfl⟩
                rw [← hV]
                have hbk : Below V3.heap.size V3 V4 := by rw [hV]; exact ((Below.refl _ _).alloc (Nat.le_refl _) _)
                have HP54 := Lib.hid (show Blk V4 V3.heap.size 27 #[.float .f64 0] by rw [hV]; exact Blk.new V3 _ _)
                have HS4 := Lib.hid (HS3.out.trans (hbk.mono HS3.out.size))
                have HP44 := Lib.hid (HP43.out.grow hbk)
                clear hV hbk
                refine hK.out _ _ ?_ (fun hS => ?_)
                · exact HS4.out
                clear hK K
                try simp only [Act.put, List.setIfInBounds_toArray, List.set_cons_zero, List.set_cons_succ]
                refine wpAnyF_ready (rs := [6]) (by kernel_rfl) (by simp) ?_
                refine AllReadyF.cons (o := { dst := none, op := Go.Op.store 27 (Go.Operand.tmp 6) (Go.Operand.tmp 23), type := 0, pos := "stats.go:215", after := #[{ on := 4, ground := Go.Ground.data }, { on := 1, ground := Go.Ground.data }, { on := 3, ground := Go.Ground.chain }, { on := 0, ground := Go.Ground.phase }, { on := 1, ground := Go.Ground.phase }, { on := 2, ground := Go.Ground.textOnly Go.Departure.lateStores }, { on := 3, ground := Go.Ground.textOnly Go.Departure.lateStoresUnsure }, { on := 4, ground := Go.Ground.phase }, { on := 5, ground := Go.Ground.phase }], guard := none }) rfl (by rfl) (fun K hK => ?_) ?_
                · have q1 : V4.cell? ⟨V1.heap.size, 0, none⟩ = some (.float .f64 0) := HP44.out.cell 0
                  have q2 : V4.frozen? ⟨V1.heap.size, 0, none⟩ = false := HP44.out.frozen 0
                  go_simp
                  clear q1 q2
                  have hnn : V3.heap.size ≠ V1.heap.size := by omega
                  have HP5 := Lib.hid (HP54.out.far (p := ⟨V1.heap.size, 0, none⟩) hnn (.float .f64 mt))
                  have HP4 := Lib.hid (HP44.out.set_ 0 (.float .f64 mt))
                  have HSB := Lib.hid (HS4.out.setCell (p := ⟨V1.heap.size, 0, none⟩) (show U.heap.size ≤ V1.heap.size by omega) (.float .f64 mt))
                  obtain ⟨V5, hV⟩ : ∃ V : World, V = V4.setCell ⟨V1.heap.size, 0, none⟩ (.float .f64 mt) := ⟨_, rfl⟩
                  rw [← hV] at HP5 HP4 HSB ⊢
                  clear hV
                  refine hK.out _ _ ?_ (fun hS => ?_)
                  · exact HSB.out
                  clear hK K
                  try simp only [Act.put, List.setIfInBounds_toArray, List.set_cons_zero, List.set_cons_succ]
                  refine wpAnyF_ready (rs := [7]) (by kernel_rfl) (by simp) ?_
                  refine AllReadyF.fin (o := { dst := none, op := Go.Op.store 27 (Go.Operand.tmp 7) (Go.Operand.tmp 25), type := 0, pos := "stats.go:215", after := #[{ on := 5, ground := Go.Ground.data }, { on := 3, ground := Go.Ground.data }, { on := 6, ground := Go.Ground.chain }, { on := 0, ground := Go.Ground.phase }, { on := 1, ground := Go.Ground.phase }, { on := 2, ground := Go.Ground.phase }, { on := 3, ground := Go.Ground.phase }, { on := 4, ground := Go.Ground.phase }, { on := 5, ground := Go.Ground.phase }, { on := 6, ground := Go.Ground.phase }], guard := none }) rfl (by rfl) (fun K hK => ?_) ?_
                  · have q1 : V5.cell? ⟨V3.heap.size, 0, none⟩ = some (.float .f64 0) := HP5.out.cell 0
                    have q2 : V5.frozen? ⟨V3.heap.size, 0, none⟩ = false := HP5.out.frozen 0
                    go_simp
                    clear q1 q2
                    refine hK.out _ _ ?_
                    clear hK K
                    try simp only [Act.put, List.setIfInBounds_toArray, List.set_cons_zero, List.set_cons_succ]
                    refine wpAnyF_done (by kernel_rfl) ?_ _
                    go_wp2_with fail
                    go_meet
                    exact ⟨V1.heap.size, V3.heap.size, rfl, rfl, ⟨mt, HP4.out.far (p := ⟨V3.heap.size, 0, none⟩) (show V1.heap.size ≠ V3.heap.size by omega) (.float .f64 mx), Hmt.out⟩, ⟨mx, HP5.out.set_ 0 (.float .f64 mx), Hmx.out⟩, HSB.out.setCell (p := ⟨V3.heap.size, 0, none⟩) (show U.heap.size ≤ V3.heap.size by omega) (.float .f64 mx)⟩
                  exact AllReadyF.nil
                exact AllReadyF.nil
              exact AllReadyF.nil
            refine AllReadyF.cons (o := { dst := some 7, op := Go.Op.alloc 27, type := 0, pos := "stats.go:215", after := #[], guard := none }) rfl (by rfl) (fun K hK => ?_) ?_
            · go_simp
              have hge5 : U.heap.size ≤ V2.heap.size := HS2.out.size
              have hlt4 := HP42.out.lt
              obtain ⟨V3, hV⟩ : ∃ V : World, V = V2.alloc (.cells #[.float .f64 0] 27) := ⟨_, rfl⟩
              rw [← hV]
              have hbk : Below V2.heap.size V2 V3 := by rw [hV]; exact ((Below.refl _ _).alloc (Nat.le_refl _) _)
              have HP53 := Lib.hid (show Blk V3 V2.heap.size 27 #[.float .f64 0] by rw [hV]; exact Blk.new V2 _ _)
              have HS3 := Lib.hid (HS2.out.trans (hbk.mono HS2.out.size))
              have HP43 := Lib.hid (HP42.out.grow hbk)
              clear hV hbk
              refine hK.out _ _ ?_ (fun hS => ?_)
              · exact HS3.out
              clear hK K
              try simp only [Act.put, List.setIfInBounds_toArray, List.set_cons_zero, List.set_cons_succ]
              refine wpAnyF_ready (rs := [3]) (by kernel_rfl) (by simp) ?_
              refine AllReadyF.cons (o := { dst := some 25, op := Go.Op.call { callee := Go.Callee.value (Go.Operand.func 43), args := #[Go.Operand.tmp 24], argTypes := #[24] }, type := 27, pos := "stats.go:215", after := #[{ on := 2, ground := Go.Ground.data }, { on := 1, ground := Go.Ground.chain }], guard := none }) rfl (by rfl) (fun K hK => ?_) ?_
              · go_simp
                refine (mean_any (HXL.out.grow HS3.out)).mono ?_
                rintro e V4 ⟨mx, rfl, hmx, hbk⟩
                have Hmx := Lib.hid hmx
                have HS4 := Lib.hid (HS3.out.trans (hbk.mono HS3.out.size))
                have HP44 := Lib.hid (HP43.out.grow hbk)
                have HP54 := Lib.hid (HP53.out.grow hbk)
                clear hmx hbk
                refine hK.out _ _ ?_ (fun hS => ?_)
                · exact HS4.out
                clear hK K
                try simp only [Act.put, List.setIfInBounds_toArray, List.set_cons_zero, List.set_cons_succ]
                refine wpAnyF_ready (rs := [6]) (by kernel_rfl) (by simp) ?_
                refine AllReadyF.cons (o := { dst := none, op := Go.Op.store 27 (Go.Operand.tmp 6) (Go.Operand.tmp 23), type := 0, pos := "stats.go:215", after := #[{ on := 4, ground := Go.Ground.data }, { on := 1, ground := Go.Ground.data }, { on := 3, ground := Go.Ground.chain }, { on := 0, ground := Go.Ground.phase }, { on := 1, ground := Go.Ground.phase }, { on := 2, ground := Go.Ground.textOnly Go.Departure.lateStores }, { on := 3, ground := Go.Ground.textOnly Go.Departure.lateStoresUnsure }, { on := 4, ground := Go.Ground.phase }, { on := 5, ground := Go.Ground.phase }], guard := none }) rfl (by rfl) (fun K hK => ?_) ?_
                · have q1 : V4.cell? ⟨V1.heap.size, 0, none⟩ = some (.float .f64 0) := HP44.out.cell 0
                  have q2 : V4.frozen? ⟨V1.heap.size, 0, none⟩ = false := HP44.out.frozen 0
                  go_simp
                  clear q1 q2
                  have hnn : V2.heap.size ≠ V1.heap.size := by omega
                  have HP5 := Lib.hid (HP54.out.far (p := ⟨V1.heap.size, 0, none⟩) hnn (.float .f64 mt))
                  have HP4 := Lib.hid (HP44.out.set_ 0 (.float .f64 mt))
                  have HSB := Lib.hid (HS4.out.setCell (p := ⟨V1.heap.size, 0, none⟩) (show U.heap.size ≤ V1.heap.size by omega) (.float .f64 mt))
                  obtain ⟨V5, hV⟩ : ∃ V : World, V = V4.setCell ⟨V1.heap.size, 0, none⟩ (.float .f64 mt) := ⟨_, rfl⟩
                  rw [← hV] at HP5 HP4 HSB ⊢
                  clear hV
                  refine hK.out _ _ ?_ (fun hS => ?_)
                  · exact HSB.out
                  clear hK K
                  try simp only [Act.put, List.setIfInBounds_toArray, List.set_cons_zero, List.set_cons_succ]
                  refine wpAnyF_ready (rs := [7]) (by kernel_rfl) (by simp) ?_
                  refine AllReadyF.fin (o := { dst := none, op := Go.Op.store 27 (Go.Operand.tmp 7) (Go.Operand.tmp 25), type := 0, pos := "stats.go:215", after := #[{ on := 5, ground := Go.Ground.data }, { on := 3, ground := Go.Ground.data }, { on := 6, ground := Go.Ground.chain }, { on := 0, ground := Go.Ground.phase }, { on := 1, ground := Go.Ground.phase }, { on := 2, ground := Go.Ground.phase }, { on := 3, ground := Go.Ground.phase }, { on := 4, ground := Go.Ground.phase }, { on := 5, ground := Go.Ground.phase }, { on := 6, ground := Go.Ground.phase }], guard := none }) rfl (by rfl) (fun K hK => ?_) ?_
                  · have q1 : V5.cell? ⟨V2.heap.size, 0, none⟩ = some (.float .f64 0) := HP5.out.cell 0
                    have q2 : V5.frozen? ⟨V2.heap.size, 0, none⟩ = false := HP5.out.frozen 0
                    go_simp
                    clear q1 q2
                    refine hK.out _ _ ?_
                    clear hK K
                    try simp only [Act.put, List.setIfInBounds_toArray, List.set_cons_zero, List.set_cons_succ]
                    refine wpAnyF_done (by kernel_rfl) ?_ _
                    go_wp2_with fail
                    go_meet
                    exact ⟨V1.heap.size, V2.heap.size, rfl, rfl, ⟨mt, HP4.out.far (p := ⟨V2.heap.size, 0, none⟩) (show V1.heap.size ≠ V2.heap.size by omega) (.float .f64 mx), Hmt.out⟩, ⟨mx, HP5.out.set_ 0 (.float .f64 mx), Hmx.out⟩, HSB.out.setCell (p := ⟨V2.heap.size, 0, none⟩) (show U.heap.size ≤ V2.heap.size by omega) (.float .f64 mx)⟩
                  exact AllReadyF.nil
                exact AllReadyF.nil
              exact AllReadyF.nil
            exact AllReadyF.nil
          refine AllReadyF.cons (o := { dst := some 7, op := Go.Op.alloc 27, type := 0, pos := "stats.go:215", after := #[], guard := none }) rfl (by rfl) (fun K hK => ?_) ?_
          · go_simp
            have hge5 : U.heap.size ≤ V1.heap.size := HS1.out.size
            obtain ⟨V2, hV⟩ : ∃ V : World, V = V1.alloc (.cells #[.float .f64 0] 27) := ⟨_, rfl⟩
            rw [← hV]
            have hbk : Below V1.heap.size V1 V2 := by rw [hV]; exact ((Below.refl _ _).alloc (Nat.le_refl _) _)
            have HP52 := Lib.hid (show Blk V2 V1.heap.size 27 #[.float .f64 0] by rw [hV]; exact Blk.new V1 _ _)
            have HS2 := Lib.hid (HS1.out.trans (hbk.mono HS1.out.size))
            clear hV hbk
            refine hK.out _ _ ?_ (fun hS => ?_)
            · exact HS2.out
            clear hK K
            try simp only [Act.put, List.setIfInBounds_toArray, List.set_cons_zero, List.set_cons_succ]
            refine wpAnyF_ready (rs := [3, 4]) (by kernel_rfl) (by simp) ?_
            refine AllReadyF.cons (o := { dst := some 25, op := Go.Op.call { callee := Go.Callee.value (Go.Operand.func 43), args := #[Go.Operand.tmp 24], argTypes := #[24] }, type := 27, pos := "stats.go:215", after := #[{ on := 2, ground := Go.Ground.data }, { on := 1, ground := Go.Ground.chain }], guard := none }) rfl (by rfl) (fun K hK => ?_) ?_
            · go_simp
              refine (mean_any (HXL.out.grow HS2.out)).mono ?_
              rintro e V3 ⟨mx, rfl, hmx, hbk⟩
              have Hmx := Lib.hid hmx
              have HS3 := Lib.hid (HS2.out.trans (hbk.mono HS2.out.size))
              have HP53 := Lib.hid (HP52.out.grow hbk)
              clear hmx hbk
              refine hK.out _ _ ?_ (fun hS => ?_)
              · exact HS3.out
              clear hK K
              try simp only [Act.put, List.setIfInBounds_toArray, List.set_cons_zero, List.set_cons_succ]
              refine wpAnyF_ready (rs := [4]) (by kernel_rfl) (by simp) ?_
              refine AllReadyF.cons (o := { dst := some 6, op := Go.Op.alloc 27, type := 0, pos := "stats.go:215", after := #[], guard := none }) rfl (by rfl) (fun K hK => ?_) ?_
              · go_simp
                have hge4 : U.heap.size ≤ V3.heap.size := HS3.out.size
                have hlt5 := HP53.out.lt
                obtain ⟨V4, hV⟩ : ∃ V : World, V = V3.alloc (.cells #[.float .f64 0] 27) := ⟨_, rfl⟩
                rw [← hV]
                have hbk : Below V3.heap.size V3 V4 := by rw [hV]; exact ((Below.refl _ _).alloc (Nat.le_refl _) _)
                have HP44 := Lib.hid (show Blk V4 V3.heap.size 27 #[.float .f64 0] by rw [hV]; exact Blk.new V3 _ _)
                have HS4 := Lib.hid (HS3.out.trans (hbk.mono HS3.out.size))
                have HP54 := Lib.hid (HP53.out.grow hbk)
                clear hV hbk
                refine hK.out _ _ ?_ (fun hS => ?_)
                · exact HS4.out
                clear hK K
                try simp only [Act.put, List.setIfInBounds_toArray, List.set_cons_zero, List.set_cons_succ]
                refine wpAnyF_ready (rs := [6]) (by kernel_rfl) (by simp) ?_
                refine AllReadyF.cons (o := { dst := none, op := Go.Op.store 27 (Go.Operand.tmp 6) (Go.Operand.tmp 23), type := 0, pos := "stats.go:215", after := #[{ on := 4, ground := Go.Ground.data }, { on := 1, ground := Go.Ground.data }, { on := 3, ground := Go.Ground.chain }, { on := 0, ground := Go.Ground.phase }, { on := 1, ground := Go.Ground.phase }, { on := 2, ground := Go.Ground.textOnly Go.Departure.lateStores }, { on := 3, ground := Go.Ground.textOnly Go.Departure.lateStoresUnsure }, { on := 4, ground := Go.Ground.phase }, { on := 5, ground := Go.Ground.phase }], guard := none }) rfl (by rfl) (fun K hK => ?_) ?_
                · have q1 : V4.cell? ⟨V3.heap.size, 0, none⟩ = some (.float .f64 0) := HP44.out.cell 0
                  have q2 : V4.frozen? ⟨V3.heap.size, 0, none⟩ = false := HP44.out.frozen 0
                  go_simp
                  clear q1 q2
                  have hnn : V1.heap.size ≠ V3.heap.size := by omega
                  have HP5 := Lib.hid (HP54.out.far (p := ⟨V3.heap.size, 0, none⟩) hnn (.float .f64 mt))
                  have HP4 := Lib.hid (HP44.out.set_ 0 (.float .f64 mt))
                  have HSB := Lib.hid (HS4.out.setCell (p := ⟨V3.heap.size, 0, none⟩) (show U.heap.size ≤ V3.heap.size by omega) (.float .f64 mt))
                  obtain ⟨V5, hV⟩ : ∃ V : World, V = V4.setCell ⟨V3.heap.size, 0, none⟩ (.float .f64 mt) := ⟨_, rfl⟩
                  rw [← hV] at HP5 HP4 HSB ⊢
                  clear hV
                  refine hK.out _ _ ?_ (fun hS => ?_)
                  · exact HSB.out
                  clear hK K
                  try simp only [Act.put, List.setIfInBounds_toArray, List.set_cons_zero, List.set_cons_succ]
                  refine wpAnyF_ready (rs := [7]) (by kernel_rfl) (by simp) ?_
                  refine AllReadyF.fin (o := { dst := none, op := Go.Op.store 27 (Go.Operand.tmp 7) (Go.Operand.tmp 25), type := 0, pos := "stats.go:215", after := #[{ on := 5, ground := Go.Ground.data }, { on := 3, ground := Go.Ground.data }, { on := 6, ground := Go.Ground.chain }, { on := 0, ground := Go.Ground.phase }, { on := 1, ground := Go.Ground.phase }, { on := 2, ground := Go.Ground.phase }, { on := 3, ground := Go.Ground.phase }, { on := 4, ground := Go.Ground.phase }, { on := 5, ground := Go.Ground.phase }, { on := 6, ground := Go.Ground.phase }], guard := none }) rfl (by rfl) (fun K hK => ?_) ?_
                  · have q1 : V5.cell? ⟨V1.heap.size, 0, none⟩ = some (.float .f64 0) := HP5.out.cell 0
                    have q2 : V5.frozen? ⟨V1.heap.size, 0, none⟩ = false := HP5.out.frozen 0
                    go_simp
                    clear q1 q2
                    refine hK.out _ _ ?_
                    clear hK K
                    try simp only [Act.put, List.setIfInBounds_toArray, List.set_cons_zero, List.set_cons_succ]
                    refine wpAnyF_done (by kernel_rfl) ?_ _
                    go_wp2_with fail
                    go_meet
                    exact ⟨V3.heap.size, V1.heap.size, rfl, rfl, ⟨mt, HP4.out.far (p := ⟨V1.heap.size, 0, none⟩) (show V3.heap.size ≠ V1.heap.size by omega) (.float .f64 mx), Hmt.out⟩, ⟨mx, HP5.out.set_ 0 (.float .f64 mx), Hmx.out⟩, HSB.out.setCell (p := ⟨V1.heap.size, 0, none⟩) (show U.heap.size ≤ V1.heap.size by omega) (.float .f64 mx)⟩
                  exact AllReadyF.nil
                exact AllReadyF.nil
              exact AllReadyF.nil
            refine AllReadyF.cons (o := { dst := some 6, op := Go.Op.alloc 27, type := 0, pos := "stats.go:215", after := #[], guard := none }) rfl (by rfl) (fun K hK => ?_) ?_
            · go_simp
              have hge4 : U.heap.size ≤ V2.heap.size := HS2.out.size
              have hlt5 := HP52.out.lt
              obtain ⟨V3, hV⟩ : ∃ V : World, V = V2.alloc (.cells #[.float .f64 0] 27) := ⟨_, rfl⟩
              rw [← hV]
              have hbk : Below V2.heap.size V2 V3 := by rw [hV]; exact ((Below.refl _ _).alloc (Nat.le_refl _) _)
              have HP43 := Lib.hid (show Blk V3 V2.heap.size 27 #[.float .f64 0] by rw [hV]; exact Blk.new V2 _ _)
              have HS3 := Lib.hid (HS2.out.trans (hbk.mono HS2.out.size))
              have HP53 := Lib.hid (HP52.out.grow hbk)
              clear hV hbk
              refine hK.out _ _ ?_ (fun hS => ?_)
              · exact HS3.out
              clear hK K
              try simp only [Act.put, List.setIfInBounds_toArray, List.set_cons_zero, List.set_cons_succ]
              refine wpAnyF_ready (rs := [3]) (by kernel_rfl) (by simp) ?_
              refine AllReadyF.cons (o := { dst := some 25, op := Go.Op.call { callee := Go.Callee.value (Go.Operand.func 43), args := #[Go.Operand.tmp 24], argTypes := #[24] }, type := 27, pos := "stats.go:215", after := #[{ on := 2, ground := Go.Ground.data }, { on := 1, ground := Go.Ground.chain }], guard := none }) rfl (by rfl) (fun K hK => ?_) ?_
              · go_simp
                refine (mean_any (HXL.out.grow HS3.out)).mono ?_
                rintro e V4 ⟨mx, rfl, hmx, hbk⟩
                have Hmx := Lib.hid hmx
                have HS4 := Lib.hid (HS3.out.trans (hbk.mono HS3.out.size))
                have HP54 := Lib.hid (HP53.out.grow hbk)
                have HP44 := Lib.hid (HP43.out.grow hbk)
                clear hmx hbk
                refine hK.out _ _ ?_ (fun hS => ?_)
                · exact HS4.out
                clear hK K
                try simp only [Act.put, List.setIfInBounds_toArray, List.set_cons_zero, List.set_cons_succ]
                refine wpAnyF_ready (rs := [6]) (by kernel_rfl) (by simp) ?_
                refine AllReadyF.cons (o := { dst := none, op := Go.Op.store 27 (Go.Operand.tmp 6) (Go.Operand.tmp 23), type := 0, pos := "stats.go:215", after := #[{ on := 4, ground := Go.Ground.data }, { on := 1, ground := Go.Ground.data }, { on := 3, ground := Go.Ground.chain }, { on := 0, ground := Go.Ground.phase }, { on := 1, ground := Go.Ground.phase }, { on := 2, ground := Go.Ground.textOnly Go.Departure.lateStores }, { on := 3, ground := Go.Ground.textOnly Go.Departure.lateStoresUnsure }, { on := 4, ground := Go.Ground.phase }, { on := 5, ground := Go.Ground.phase }], guard := none }) rfl (by rfl) (fun K hK => ?_) ?_
                · have q1 : V4.cell? ⟨V2.heap.size, 0, none⟩ = some (.float .f64 0) := HP44.out.cell 0
                  have q2 : V4.frozen? ⟨V2.heap.size, 0, none⟩ = false := HP44.out.frozen 0
                  go_simp
                  clear q1 q2
                  have hnn : V1.heap.size ≠ V2.heap.size := by omega
                  have HP5 := Lib.hid (HP54.out.far (p := ⟨V2.heap.size, 0, none⟩) hnn (.float .f64 mt))
                  have HP4 := Lib.hid (HP44.out.set_ 0 (.float .f64 mt))
                  have HSB := Lib.hid (HS4.out.setCell (p := ⟨V2.heap.size, 0, none⟩) (show U.heap.size ≤ V2.heap.size by omega) (.float .f64 mt))
                  obtain ⟨V5, hV⟩ : ∃ V : World, V = V4.setCell ⟨V2.heap.size, 0, none⟩ (.float .f64 mt) := ⟨_, rfl⟩
                  rw [← hV] at HP5 HP4 HSB ⊢
                  clear hV
                  refine hK.out _ _ ?_ (fun hS => ?_)
                  · exact HSB.out
                  clear hK K
                  try simp only [Act.put, List.setIfInBounds_toArray, List.set_cons_zero, List.set_cons_succ]
                  refine wpAnyF_ready (rs := [7]) (by kernel_rfl) (by simp) ?_
                  refine AllReadyF.fin (o := { dst := none, op := Go.Op.store 27 (Go.Operand.tmp 7) (Go.Operand.tmp 25), type := 0, pos := "stats.go:215", after := #[{ on := 5, ground := Go.Ground.data }, { on := 3, ground := Go.Ground.data }, { on := 6, ground := Go.Ground.chain }, { on := 0, ground := Go.Ground.phase }, { on := 1, ground := Go.Ground.phase }, { on := 2, ground := Go.Ground.phase }, { on := 3, ground := Go.Ground.phase }, { on := 4, ground := Go.Ground.phase }, { on := 5, ground := Go.Ground.phase }, { on := 6, ground := Go.Ground.phase }], guard := none }) rfl (by rfl) (fun K hK => ?_) ?_
                  · have q1 : V5.cell? ⟨V1.heap.size, 0, none⟩ = some (.float .f64 0) := HP5.out.cell 0
                    have q2 : V5.frozen? ⟨V1.heap.size, 0, none⟩ = false := HP5.out.frozen 0
                    go_simp
                    clear q1 q2
                    refine hK.out _ _ ?_
                    clear hK K
                    try simp only [Act.put, List.setIfInBounds_toArray, List.set_cons_zero, List.set_cons_succ]
                    refine wpAnyF_done (by kernel_rfl) ?_ _
                    go_wp2_with fail
                    go_meet
                    exact ⟨V2.heap.size, V1.heap.size, rfl, rfl, ⟨mt, HP4.out.far (p := ⟨V1.heap.size, 0, none⟩) (show V2.heap.size ≠ V1.heap.size by omega) (.float .f64 mx), Hmt.out⟩, ⟨mx, HP5.out.set_ 0 (.float .f64 mx), Hmx.out⟩, HSB.out.setCell (p := ⟨V1.heap.size, 0, none⟩) (show U.heap.size ≤ V1.heap.size by omega) (.float .f64 mx)⟩
                  exact AllReadyF.nil
                exact AllReadyF.nil
              exact AllReadyF.nil
            exact AllReadyF.nil
          exact AllReadyF.nil
        refine AllReadyF.cons (o := { dst := some 6, op := Go.Op.alloc 27, type := 0, pos := "stats.go:215", after := #[], guard := none }) rfl (by rfl) (fun K hK => ?_) ?_
        · go_simp
          have hge4 : U.heap.size ≤ U.heap.size := HS0.out.size
          obtain ⟨V1, hV⟩ : ∃ V : World, V = (U.alloc (.cells #[.float .f64 0] 27)).drew := ⟨_, rfl⟩
          rw [← hV]
          have hbk : Below U.heap.size U V1 := by rw [hV]; exact ((Below.refl _ _).alloc (Nat.le_refl _) _).drew
          have HP41 := Lib.hid (show Blk V1 U.heap.size 27 #[.float .f64 0] by rw [hV]; exact Blk.newD U _ _)
          have HS1 := Lib.hid hbk
          clear hV hbk
          refine hK.out _ _ ?_ (fun hS => ?_)
          · exact HS1.out
          clear hK K
          try simp only [Act.put, List.setIfInBounds_toArray, List.set_cons_zero, List.set_cons_succ]
          refine wpAnyF_ready (rs := [1, 5]) (by kernel_rfl) (by simp) ?_
          refine AllReadyF.cons (o := { dst := some 23, op := Go.Op.call { callee := Go.Callee.value (Go.Operand.func 43), args := #[Go.Operand.tmp 22], argTypes := #[24] }, type := 27, pos := "stats.go:215", after := #[{ on := 0, ground := Go.Ground.data }], guard := none }) rfl (by rfl) (fun K hK => ?_) ?_
          · go_simp
            refine (mean_any (HTL.out.grow HS1.out)).mono ?_
            rintro e V2 ⟨mt, rfl, hmt, hbk⟩
            have Hmt := Lib.hid hmt
            have HS2 := Lib.hid (HS1.out.trans (hbk.mono HS1.out.size))
            have HP42 := Lib.hid (HP41.out.grow hbk)
            clear hmt hbk
            refine hK.out _ _ ?_ (fun hS => ?_)
            · exact HS2.out
            clear hK K
            try simp only [Act.put, List.setIfInBounds_toArray, List.set_cons_zero, List.set_cons_succ]
            refine wpAnyF_ready (rs := [3, 5]) (by kernel_rfl) (by simp) ?_
            refine AllReadyF.cons (o := { dst := some 25, op := Go.Op.call { callee := Go.Callee.value (Go.Operand.func 43), args := #[Go.Operand.tmp 24], argTypes := #[24] }, type := 27, pos := "stats.go:215", after := #[{ on := 2, ground := Go.Ground.data }, { on := 1, ground := Go.Ground.chain }], guard := none }) rfl (by rfl) (fun K hK => ?_) ?_
            · go_simp
              refine (mean_any (HXL.out.grow HS2.out)).mono ?_
              rintro e V3 ⟨mx, rfl, hmx, hbk⟩
              have Hmx := Lib.hid hmx
              have HS3 := Lib.hid (HS2.out.trans (hbk.mono HS2.out.size))
              have HP43 := Lib.hid (HP42.out.grow hbk)
              clear hmx hbk
              refine hK.out _ _ ?_ (fun hS => ?_)
              · exact HS3.out
              clear hK K
              try simp only [Act.put, List.setIfInBounds_toArray, List.set_cons_zero, List.set_cons_succ]
              refine wpAnyF_ready (rs := [5]) (by kernel_rfl) (by simp) ?_
              refine AllReadyF.cons (o := { dst := some 7, op := Go.Op.alloc 27, type := 0, pos := "stats.go:215", after := #[], guard := none }) rfl (by rfl) (fun K hK => ?_) ?_
              · go_simp
                have hge5 : U.heap.size ≤ V3.heap.size := HS3.out.size
                have hlt4 := HP43.out.lt
                obtain ⟨V4, hV⟩ : ∃ V : World, V = V3.alloc (.cells #[.float .f64 0] 27) := ⟨_, rfl⟩
                rw [← hV]
                have hbk : Below V3.heap.size V3 V4 := by rw [hV]; exact ((Below.refl _ _).alloc (Nat.le_refl _) _)
                have HP54 := Lib.hid (show Blk V4 V3.heap.size 27 #[.float .f64 0] by rw [hV]; exact Blk.new V3 _ _)
                have HS4 := Lib.hid (HS3.out.trans (hbk.mono HS3.out.size))
                have HP44 := Lib.hid (HP43.out.grow hbk)
                clear hV hbk
                refine hK.out _ _ ?_ (fun hS => ?_)
                · exact HS4.out
                clear hK K
                try simp only [Act.put, List.setIfInBounds_toArray, List.set_cons_zero, List.set_cons_succ]
                refine wpAnyF_ready (rs := [6]) (by kernel_rfl) (by simp) ?_
                refine AllReadyF.cons (o := { dst := none, op := Go.Op.store 27 (Go.Operand.tmp 6) (Go.Operand.tmp 23), type := 0, pos := "stats.go:215", after := #[{ on := 4, ground := Go.Ground.data }, { on := 1, ground := Go.Ground.data }, { on := 3, ground := Go.Ground.chain }, { on := 0, ground := Go.Ground.phase }, { on := 1, ground := Go.Ground.phase }, { on := 2, ground := Go.Ground.textOnly Go.Departure.lateStores }, { on := 3, ground := Go.Ground.textOnly Go.Departure.lateStoresUnsure }, { on := 4, ground := Go.Ground.phase }, { on := 5, ground := Go.Ground.phase }], guard := none }) rfl (by rfl) (fun K hK => ?_) ?_
                · have q1 : V4.cell? ⟨U.heap.size, 0, none⟩ = some (.float .f64 0) := HP44.out.cell 0
                  have q2 : V4.frozen? ⟨U.heap.size, 0, none⟩ = false := HP44.out.frozen 0
                  go_simp
                  clear q1 q2
                  have hnn : V3.heap.size ≠ U.heap.size := by omega
                  have HP5 := Lib.hid (HP54.out.far (p := ⟨U.heap.size, 0, none⟩) hnn (.float .f64 mt))
                  have HP4 := Lib.hid (HP44.out.set_ 0 (.float .f64 mt))
                  have HSB := Lib.hid (HS4.out.setCell (p := ⟨U.heap.size, 0, none⟩) (show U.heap.size ≤ U.heap.size by omega) (.float .f64 mt))
                  obtain ⟨V5, hV⟩ : ∃ V : World, V = V4.setCell ⟨U.heap.size, 0, none⟩ (.float .f64 mt) := ⟨_, rfl⟩
                  rw [← hV] at HP5 HP4 HSB ⊢
                  clear hV
                  refine hK.out _ _ ?_ (fun hS => ?_)
                  · exact HSB.out
                  clear hK K
                  try simp only [Act.put, List.setIfInBounds_toArray, List.set_cons_zero, List.set_cons_succ]
                  refine wpAnyF_ready (rs := [7]) (by kernel_rfl) (by simp) ?_
                  refine AllReadyF.fin (o := { dst := none, op := Go.Op.store 27 (Go.Operand.tmp 7) (Go.Operand.tmp 25), type := 0, pos := "stats.go:215", after := #[{ on := 5, ground := Go.Ground.data }, { on := 3, ground := Go.Ground.data }, { on := 6, ground := Go.Ground.chain }, { on := 0, ground := Go.Ground.phase }, { on := 1, ground := Go.Ground.phase }, { on := 2, ground := Go.Ground.phase }, { on := 3, ground := Go.Ground.phase }, { on := 4, ground := Go.Ground.phase }, { on := 5, ground := Go.Ground.phase }, { on := 6, ground := Go.Ground.phase }], guard := none }) rfl (by rfl) (fun K hK => ?_) ?_
                  · have q1 : V5.cell? ⟨V3.heap.size, 0, none⟩ = some (.float .f64 0) := HP5.out.cell 0
                    have q2 : V5.frozen? ⟨V3.heap.size, 0, none⟩ = false := HP5.out.frozen 0
                    go_simp
                    clear q1 q2
                    refine hK.out _ _ ?_
                    clear hK K
                    try simp only [Act.put, List.setIfInBounds_toArray, List.set_cons_zero, List.set_cons_succ]
                    refine wpAnyF_done (by kernel_rfl) ?_ _
                    go_wp2_with fail
                    go_meet
                    exact ⟨U.heap.size, V3.heap.size, rfl, rfl, ⟨mt, HP4.out.far (p := ⟨V3.heap.size, 0, none⟩) (show U.heap.size ≠ V3.heap.size by omega) (.float .f64 mx), Hmt.out⟩, ⟨mx, HP5.out.set_ 0 (.float .f64 mx), Hmx.out⟩, HSB.out.setCell (p := ⟨V3.heap.size, 0, none⟩) (show U.heap.size ≤ V3.heap.size by omega) (.float .f64 mx)⟩
                  exact AllReadyF.nil
                exact AllReadyF.nil
              exact AllReadyF.nil
            refine AllReadyF.cons (o := { dst := some 7, op := Go.Op.alloc 27, type := 0, pos := "stats.go:215", after := #[], guard := none }) rfl (by rfl) (fun K hK => ?_) ?_
            · go_simp
              have hge5 : U.heap.size ≤ V2.heap.size := HS2.out.size
              have hlt4 := HP42.out.lt
              obtain ⟨V3, hV⟩ : ∃ V : World, V = V2.alloc (.cells #[.float .f64 0] 27) := ⟨_, rfl⟩
              rw [← hV]
              have hbk : Below V2.heap.size V2 V3 := by rw [hV]; exact ((Below.refl _ _).alloc (Nat.le_refl _) _)
              have HP53 := Lib.hid (show Blk V3 V2.heap.size 27 #[.float .f64 0] by rw [hV]; exact Blk.new V2 _ _)
              have HS3 := Lib.hid (HS2.out.trans (hbk.mono HS2.out.size))
              have HP43 := Lib.hid (HP42.out.grow hbk)
              clear hV hbk
              refine hK.out _ _ ?_ (fun hS => ?_)
              · exact HS3.out
              clear hK K
              try simp only [Act.put, List.setIfInBounds_toArray, List.set_cons_zero, List.set_cons_succ]
              refine wpAnyF_ready (rs := [3]) (by kernel_rfl) (by simp) ?_
              refine AllReadyF.cons (o := { dst := some 25, op := Go.Op.call { callee := Go.Callee.value (Go.Operand.func 43), args := #[Go.Operand.tmp 24], argTypes := #[24] }, type := 27, pos := "stats.go:215", after := #[{ on := 2, ground := Go.Ground.data }, { on := 1, ground := Go.Ground.chain }], guard := none }) rfl (by rfl) (fun K hK => ?_) ?_
              · go_simp
                refine (mean_any (HXL.out.grow HS3.out)).mono ?_
                rintro e V4 ⟨mx, rfl, hmx, hbk⟩
                have Hmx := Lib.hid hmx
                have HS4 := Lib.hid (HS3.out.trans (hbk.mono HS3.out.size))
                have HP44 := Lib.hid (HP43.out.grow hbk)
                have HP54 := Lib.hid (HP53.out.grow hbk)
                clear hmx hbk
                refine hK.out _ _ ?_ (fun hS => ?_)
                · exact HS4.out
                clear hK K
                try simp only [Act.put, List.setIfInBounds_toArray, List.set_cons_zero, List.set_cons_succ]
                refine wpAnyF_ready (rs := [6]) (by kernel_rfl) (by simp) ?_
                refine AllReadyF.cons (o := { dst := none, op := Go.Op.store 27 (Go.Operand.tmp 6) (Go.Operand.tmp 23), type := 0, pos := "stats.go:215", after := #[{ on := 4, ground := Go.Ground.data }, { on := 1, ground := Go.Ground.data }, { on := 3, ground := Go.Ground.chain }, { on := 0, ground := Go.Ground.phase }, { on := 1, ground := Go.Ground.phase }, { on := 2, ground := Go.Ground.textOnly Go.Departure.lateStores }, { on := 3, ground := Go.Ground.textOnly Go.Departure.lateStoresUnsure }, { on := 4, ground := Go.Ground.phase }, { on := 5, ground := Go.Ground.phase }], guard := none }) rfl (by rfl) (fun K hK => ?_) ?_
                · have q1 : V4.cell? ⟨U.heap.size, 0, none⟩ = some (.float .f64 0) := HP44.out.cell 0
                  have q2 : V4.frozen? ⟨U.heap.size, 0, none⟩ = false := HP44.out.frozen 0
                  go_simp
                  clear q1 q2
                  have hnn : V2.heap.size ≠ U.heap.size := by omega
                  have HP5 := Lib.hid (HP54.out.far (p := ⟨U.heap.size, 0, none⟩) hnn (.float .f64 mt))
                  have HP4 := Lib.hid (HP44.out.set_ 0 (.float .f64 mt))
                  have HSB := Lib.hid (HS4.out.setCell (p := ⟨U.heap.size, 0, none⟩) (show U.heap.size ≤ U.heap.size by omega) (.float .f64 mt))
                  obtain ⟨V5, hV⟩ : ∃ V : World, V = V4.setCell ⟨U.heap.size, 0, none⟩ (.float .f64 mt) := ⟨_, rfl⟩
                  rw [← hV] at HP5 HP4 HSB ⊢
                  clear hV
                  refine hK.out _ _ ?_ (fun hS => ?_)
                  · exact HSB.out
                  clear hK K
                  try simp only [Act.put, List.setIfInBounds_toArray, List.set_cons_zero, List.set_cons_succ]
                  refine wpAnyF_ready (rs := [7]) (by kernel_rfl) (by simp) ?_
                  refine AllReadyF.fin (o := { dst := none, op := Go.Op.store 27 (Go.Operand.tmp 7) (Go.Operand.tmp 25), type := 0, pos := "stats.go:215", after := #[{ on := 5, ground := Go.Ground.data }, { on := 3, ground := Go.Ground.data }, { on := 6, ground := Go.Ground.chain }, { on := 0, ground := Go.Ground.phase }, { on := 1, ground := Go.Ground.phase }, { on := 2, ground := Go.Ground.phase }, { on := 3, ground := Go.Ground.phase }, { on := 4, ground := Go.Ground.phase }, { on := 5, ground := Go.Ground.phase }, { on := 6, ground := Go.Ground.phase }], guard := none }) rfl (by rfl) (fun K hK => ?_) ?_
                  · have q1 : V5.cell? ⟨V2.heap.size, 0, none⟩ = some (.float .f64 0) := HP5.out.cell 0
                    have q2 : V5.frozen? ⟨V2.heap.size, 0, none⟩ = false := HP5.out.frozen 0
                    go_simp
                    clear q1 q2
                    refine hK.out _ _ ?_
                    clear hK K
                    try simp only [Act.put, List.setIfInBounds_toArray, List.set_cons_zero, List.set_cons_succ]
                    refine wpAnyF_done (by kernel_rfl) ?_ _
                    go_wp2_with fail
                    go_meet
                    exact ⟨U.heap.size, V2.heap.size, rfl, rfl, ⟨mt, HP4.out.far (p := ⟨V2.heap.size, 0, none⟩) (show U.heap.size ≠ V2.heap.size by omega) (.float .f64 mx), Hmt.out⟩, ⟨mx, HP5.out.set_ 0 (.float .f64 mx), Hmx.out⟩, HSB.out.setCell (p := ⟨V2.heap.size, 0, none⟩) (show U.heap.size ≤ V2.heap.size by omega) (.float .f64 mx)⟩
                  exact AllReadyF.nil
                exact AllReadyF.nil
              exact AllReadyF.nil
            exact AllReadyF.nil
          refine AllReadyF.cons (o := { dst := some 7, op := Go.Op.alloc 27, type := 0, pos := "stats.go:215", after := #[], guard := none }) rfl (by rfl) (fun K hK => ?_) ?_
          · go_simp
            have hge5 : U.heap.size ≤ V1.heap.size := HS1.out.size
            have hlt4 := HP41.out.lt
            obtain ⟨V2, hV⟩ : ∃ V : World, V = V1.alloc (.cells #[.float .f64 0] 27) := ⟨_, rfl⟩
            rw [← hV]
            have hbk : Below V1.heap.size V1 V2 := by rw [hV]; exact ((Below.refl _ _).alloc (Nat.le_refl _) _)
            have HP52 := Lib.hid (show Blk V2 V1.heap.size 27 #[.float .f64 0] by rw [hV]; exact Blk.new V1 _ _)
            have HS2 := Lib.hid (HS1.out.trans (hbk.mono HS1.out.size))
            have HP42 := Lib.hid (HP41.out.grow hbk)
            clear hV hbk
            refine hK.out _ _ ?_ (fun hS => ?_)
            · exact HS2.out
            clear hK K
            try simp only [Act.put, List.setIfInBounds_toArray, List.set_cons_zero, List.set_cons_succ]
            refine wpAnyF_ready (rs := [1]) (by kernel_rfl) (by simp) ?_
            refine AllReadyF.cons (o := { dst := some 23, op := Go.Op.call { callee := Go.Callee.value (Go.Operand.func 43), args := #[Go.Operand.tmp 22], argTypes := #[24] }, type := 27, pos := "stats.go:215", after := #[{ on := 0, ground := Go.Ground.data }], guard := none }) rfl (by rfl) (fun K hK => ?_) ?_
            · go_simp
              refine (mean_any (HTL.out.grow HS2.out)).mono ?_
              rintro e V3 ⟨mt, rfl, hmt, hbk⟩
              have Hmt := Lib.hid hmt
              have HS3 := Lib.hid (HS2.out.trans (hbk.mono HS2.out.size))
              have HP43 := Lib.hid (HP42.out.grow hbk)
              have HP53 := Lib.hid (HP52.out.grow hbk)
              clear hmt hbk
              refine hK.out _ _ ?_ (fun hS => ?_)
              · exact HS3.out
              clear hK K
              try simp only [Act.put, List.setIfInBounds_toArray, List.set_cons_zero, List.set_cons_succ]
              refine wpAnyF_ready (rs := [3]) (by kernel_rfl) (by simp) ?_
              refine AllReadyF.cons (o := { dst := some 25, op := Go.Op.call { callee := Go.Callee.value (Go.Operand.func 43), args := #[Go.Operand.tmp 24], argTypes := #[24] }, type := 27, pos := "stats.go:215", after := #[{ on := 2, ground := Go.Ground.data }, { on := 1, ground := Go.Ground.chain }], guard := none }) rfl (by rfl) (fun K hK => ?_) ?_
              · go_simp
                refine (mean_any (HXL.out.grow HS3.out)).mono ?_
                rintro e V4 ⟨mx, rfl, hmx, hbk⟩
                have Hmx := Lib.hid hmx
                have HS4 := Lib.hid (HS3.out.trans (hbk.mono HS3.out.size))
                have HP44 := Lib.hid (HP43.out.grow hbk)
                have HP54 := Lib.hid (HP53.out.grow hbk)
                clear hmx hbk
                refine hK.out _ _ ?_ (fun hS => ?_)
                · exact HS4.out
                clear hK K
                try simp only [Act.put, List.setIfInBounds_toArray, List.set_cons_zero, List.set_cons_succ]
                refine wpAnyF_ready (rs := [6]) (by kernel_rfl) (by simp) ?_
                refine AllReadyF.cons (o := { dst := none, op := Go.Op.store 27 (Go.Operand.tmp 6) (Go.Operand.tmp 23), type := 0, pos := "stats.go:215", after := #[{ on := 4, ground := Go.Ground.data }, { on := 1, ground := Go.Ground.data }, { on := 3, ground := Go.Ground.chain }, { on := 0, ground := Go.Ground.phase }, { on := 1, ground := Go.Ground.phase }, { on := 2, ground := Go.Ground.textOnly Go.Departure.lateStores }, { on := 3, ground := Go.Ground.textOnly Go.Departure.lateStoresUnsure }, { on := 4, ground := Go.Ground.phase }, { on := 5, ground := Go.Ground.phase }], guard := none }) rfl (by rfl) (fun K hK => ?_) ?_
                · have q1 : V4.cell? ⟨U.heap.size, 0, none⟩ = some (.float .f64 0) := HP44.out.cell 0
                  have q2 : V4.frozen? ⟨U.heap.size, 0, none⟩ = false := HP44.out.frozen 0
                  go_simp
                  clear q1 q2
                  have hnn : V1.heap.size ≠ U.heap.size := by omega
                  have HP5 := Lib.hid (HP54.out.far (p := ⟨U.heap.size, 0, none⟩) hnn (.float .f64 mt))
                  have HP4 := Lib.hid (HP44.out.set_ 0 (.float .f64 mt))
                  have HSB := Lib.hid (HS4.out.setCell (p := ⟨U.heap.size, 0, none⟩) (show U.heap.size ≤ U.heap.size by omega) (.float .f64 mt))
                  obtain ⟨V5, hV⟩ : ∃ V : World, V = V4.setCell ⟨U.heap.size, 0, none⟩ (.float .f64 mt) := ⟨_, rfl⟩
                  rw [← hV] at HP5 HP4 HSB ⊢
                  clear hV
                  refine hK.out _ _ ?_ (fun hS => ?_)
                  · exact HSB.out
                  clear hK K
                  try simp only [Act.put, List.setIfInBounds_toArray, List.set_cons_zero, List.set_cons_succ]
                  refine wpAnyF_ready (rs := [7]) (by kernel_rfl) (by simp) ?_
                  refine AllReadyF.fin (o := { dst := none, op := Go.Op.store 27 (Go.Operand.tmp 7) (Go.Operand.tmp 25), type := 0, pos := "stats.go:215", after := #[{ on := 5, ground := Go.Ground.data }, { on := 3, ground := Go.Ground.data }, { on := 6, ground := Go.Ground.chain }, { on := 0, ground := Go.Ground.phase }, { on := 1, ground := Go.Ground.phase }, { on := 2, ground := Go.Ground.phase }, { on := 3, ground := Go.Ground.phase }, { on := 4, ground := Go.Ground.phase }, { on := 5, ground := Go.Ground.phase }, { on := 6, ground := Go.Ground.phase }], guard := none }) rfl (by rfl) (fun K hK => ?_) ?_
                  · have q1 : V5.cell? ⟨V1.heap.size, 0, none⟩ = some (.float .f64 0) := HP5.out.cell 0
                    have q2 : V5.frozen? ⟨V1.heap.size, 0, none⟩ = false := HP5.out.frozen 0
                    go_simp
                    clear q1 q2
                    refine hK.out _ _ ?_
                    clear hK K
                    try simp only [Act.put, List.setIfInBounds_toArray, List.set_cons_zero, List.set_cons_succ]
                    refine wpAnyF_done (by kernel_rfl) ?_ _
                    go_wp2_with fail
                    go_meet
                    exact ⟨U.heap.size, V1.heap.size, rfl, rfl, ⟨mt, HP4.out.far (p := ⟨V1.heap.size, 0, none⟩) (show U.heap.size ≠ V1.heap.size by omega) (.float .f64 mx), Hmt.out⟩, ⟨mx, HP5.out.set_ 0 (.float .f64 mx), Hmx.out⟩, HSB.out.setCell (p := ⟨V1.heap.size, 0, none⟩) (show U.heap.size ≤ V1.heap.size by omega) (.float .f64 mx)⟩
                  exact AllReadyF.nil
                exact AllReadyF.nil
              exact AllReadyF.nil
            exact AllReadyF.nil
          exact AllReadyF.nil
        refine AllReadyF.cons (o := { dst := some 7, op := Go.Op.alloc 27, type := 0, pos := "stats.go:215", after := #[], guard := none }) rfl (by rfl) (fun K hK => ?_) ?_
        · go_simp
          have hge5 : U.heap.size ≤ U.heap.size := HS0.out.size
          obtain ⟨V1, hV⟩ : ∃ V : World, V = (U.alloc (.cells #[.float .f64 0] 27)).drew := ⟨_, rfl⟩
          rw [← hV]
          have hbk : Below U.heap.size U V1 := by rw [hV]; exact ((Below.refl _ _).alloc (Nat.le_refl _) _).drew
          have HP51 := Lib.hid (show Blk V1 U.heap.size 27 #[.float .f64 0] by rw [hV]; exact Blk.newD U _ _)
          have HS1 := Lib.hid hbk
          clear hV hbk
          refine hK.out _ _ ?_ (fun hS => ?_)
          · exact HS1.out
          clear hK K
          try simp only [Act.put, List.setIfInBounds_toArray, List.set_cons_zero, List.set_cons_succ]
          refine wpAnyF_ready (rs := [1, 4]) (by kernel_rfl) (by simp) ?_
          refine AllReadyF.cons (o := { dst := some 23, op := Go.Op.call { callee := Go.Callee.value (Go.Operand.func 43), args := #[Go.Operand.tmp 22], argTypes := #[24] }, type := 27, pos := "stats.go:215", after := #[{ on := 0, ground := Go.Ground.data }], guard := none }) rfl (by rfl) (fun K hK => ?_) ?_
          · go_simp
            refine (mean_any (HTL.out.grow HS1.out)).mono ?_
            rintro e V2 ⟨mt, rfl, hmt, hbk⟩
            have Hmt := Lib.hid hmt
            have HS2 := Lib.hid (HS1.out.trans (hbk.mono HS1.out.size))
            have HP52 := Lib.hid (HP51.out.grow hbk)
            clear hmt hbk
            refine hK.out _ _ ?_ (fun hS => ?_)
            · exact HS2.out
            clear hK K
            try simp only [Act.put, List.setIfInBounds_toArray, List.set_cons_zero, List.set_cons_succ]
            refine wpAnyF_ready (rs := [3, 4]) (by kernel_rfl) (by simp) ?_
            refine AllReadyF.cons (o := { dst := some 25, op := Go.Op.call { callee := Go.Callee.value (Go.Operand.func 43), args := #[Go.Operand.tmp 24], argTypes := #[24] }, type := 27, pos := "stats.go:215", after := #[{ on := 2, ground := Go.Ground.data }, { on := 1, ground := Go.Ground.chain }], guard := none }) rfl (by rfl) (fun K hK => ?_) ?_
            · go_simp
              refine (mean_any (HXL.out.grow HS2.out)).mono ?_
              rintro e V3 ⟨mx, rfl, hmx, hbk⟩
              have Hmx := Lib.hid hmx
              have HS3 := Lib.hid (HS2.out.trans (hbk.mono HS2.out.size))
              have HP53 := Lib.hid (HP52.out.grow hbk)
              clear hmx hbk
              refine hK.out _ _ ?_ (fun hS => ?_)
              · exact HS3.out
              clear hK K
              try simp only [Act.put, List.setIfInBounds_toArray, List.set_cons_zero, List.set_cons_succ]
              refine wpAnyF_ready (rs := [4]) (by kernel_rfl) (by simp) ?_
              refine AllReadyF.cons (o := { dst := some 6, op := Go.Op.alloc 27, type := 0, pos := "stats.go:215", after := #[], guard := none }) rfl (by rfl) (fun K hK => ?_) ?_
              · go_simp
                have hge4 : U.heap.size ≤ V3.heap.size := HS3.out.size
                have hlt5 := HP53.out.lt
                obtain ⟨V4, hV⟩ : ∃ V : World, V = V3.alloc (.cells #[.float .f64 0] 27) := ⟨_, rfl⟩
                rw [← hV]
                have hbk : Below V3.heap.size V3 V4 := by rw [hV]; exact ((Below.refl _ _).alloc (Nat.le_refl _) _)
                have HP44 := Lib.hid (show Blk V4 V3.heap.size 27 #[.float .f64 0] by rw [hV]; exact Blk.new V3 _ _)
                have HS4 := Lib.hid (HS3.out.trans (hbk.mono HS3.out.size))
                have HP54 := Lib.hid (HP53.out.grow hbk)
                clear hV hbk
                refine hK.out _ _ ?_ (fun hS => ?_)
                · exact HS4.out
                clear hK K
                try simp only [Act.put, List.setIfInBounds_toArray, List.set_cons_zero, List.set_cons_succ]
                refine wpAnyF_ready (rs := [6]) (by kernel_rfl) (by simp) ?_
                refine AllReadyF.cons (o := { dst := none, op := Go.Op.store 27 (Go.Operand.tmp 6) (Go.Operand.tmp 23), type := 0, pos := "stats.go:215", after := #[{ on := 4, ground := Go.Ground.data }, { on := 1, ground := Go.Ground.data }, { on := 3, ground := Go.Ground.chain }, { on := 0, ground := Go.Ground.phase }, { on := 1, ground := Go.Ground.phase }, { on := 2, ground := Go.Ground.textOnly Go.Departure.lateStores }, { on := 3, ground := Go.Ground.textOnly Go.Departure.lateStoresUnsure }, { on := 4, ground := Go.Ground.phase }, { on := 5, ground := Go.Ground.phase }], guard := none }) rfl (by rfl) (fun K hK => ?_) ?_
                · have q1 : V4.cell? ⟨V3.heap.size, 0, none⟩ = some (.float .f64 0) := HP44.out.cell 0
                  have q2 : V4.frozen? ⟨V3.heap.size, 0, none⟩ = false := HP44.out.frozen 0
                  go_simp
                  clear q1 q2
                  have hnn : U.heap.size ≠ V3.heap.size := by omega
                  have HP5 := Lib.hid (HP54.out.far (p := ⟨V3.heap.size, 0, none⟩) hnn (.float .f64 mt))
                  have HP4 := Lib.hid (HP44.out.set_ 0 (.float .f64 mt))
                  have HSB := Lib.hid (HS4.out.setCell (p := ⟨V3.heap.size, 0, none⟩) (show U.heap.size ≤ V3.heap.size by omega) (.float .f64 mt))
                  obtain ⟨V5, hV⟩ : ∃ V : World, V = V4.setCell ⟨V3.heap.size, 0, none⟩ (.float .f64 mt) := ⟨_, rfl⟩
                  rw [← hV] at HP5 HP4 HSB ⊢
                  clear hV
                  refine hK.out _ _ ?_ (fun hS => ?_)
                  · exact HSB.out
                  clear hK K
                  try simp only [Act.put, List.setIfInBounds_toArray, List.set_cons_zero, List.set_cons_succ]
                  refine wpAnyF_ready (rs := [7]) (by kernel_rfl) (by simp) ?_
                  refine AllReadyF.fin (o := { dst := none, op := Go.Op.store 27 (Go.Operand.tmp 7) (Go.Operand.tmp 25), type := 0, pos := "stats.go:215", after := #[{ on := 5, ground := Go.Ground.data }, { on := 3, ground := Go.Ground.data }, { on := 6, ground := Go.Ground.chain }, { on := 0, ground := Go.Ground.phase }, { on := 1, ground := Go.Ground.phase }, { on := 2, ground := Go.Ground.phase }, { on := 3, ground := Go.Ground.phase }, { on := 4, ground := Go.Ground.phase }, { on := 5, ground := Go.Ground.phase }, { on := 6, ground := Go.Ground.phase }], guard := none }) rfl (by rfl) (fun K hK => ?_) ?_
                  · have q1 : V5.cell? ⟨U.heap.size, 0, none⟩ = some (.float .f64 0) := HP5.out.cell 0
                    have q2 : V5.frozen? ⟨U.heap.size, 0, none⟩ = false := HP5.out.frozen 0
                    go_simp
                    clear q1 q2
                    refine hK.out _ _ ?_
                    clear hK K
                    try simp only [Act.put, List.setIfInBounds_toArray, List.set_cons_zero, List.set_cons_succ]
                    refine wpAnyF_done (by kernel_rfl) ?_ _
                    go_wp2_with fail
                    go_meet
                    exact ⟨V3.heap.size, U.heap.size, rfl, rfl, ⟨mt, HP4.out.far (p := ⟨U.heap.size, 0, none⟩) (show V3.heap.size ≠ U.heap.size by omega) (.float .f64 mx), Hmt.out⟩, ⟨mx, HP5.out.set_ 0 (.float .f64 mx), Hmx.out⟩, HSB.out.setCell (p := ⟨U.heap.size, 0, none⟩) (show U.heap.size ≤ U.heap.size by omega) (.float .f64 mx)⟩
                  exact AllReadyF.nil
                exact AllReadyF.nil
              exact AllReadyF.nil
            refine AllReadyF.cons (o := { dst := some 6, op := Go.Op.alloc 27, type := 0, pos := "stats.go:215", after := #[], guard := none }) rfl (by rfl) (fun K hK => ?_) ?_
            · go_simp
              have hge4 : U.heap.size ≤ V2.heap.size := HS2.out.size
              have hlt5 := HP52.out.lt
              obtain ⟨V3, hV⟩ : ∃ V : World, V = V2.alloc (.cells #[.float .f64 0] 27) := ⟨_, rfl⟩
              rw [← hV]
              have hbk : Below V2.heap.size V2 V3 := by rw [hV]; exact ((Below.refl _ _).alloc (Nat.le_refl _) _)
              have HP43 := Lib.hid (show Blk V3 V2.heap.size 27 #[.float .f64 0] by rw [hV]; exact Blk.new V2 _ _)
              have HS3 := Lib.hid (HS2.out.trans (hbk.mono HS2.out.size))
              have HP53 := Lib.hid (HP52.out.grow hbk)
              clear hV hbk
              refine hK.out _ _ ?_ (fun hS => ?_)
              · exact HS3.out
              clear hK K
              try simp only [Act.put, List.setIfInBounds_toArray, List.set_cons_zero, List.set_cons_succ]
              refine wpAnyF_ready (rs := [3]) (by kernel_rfl) (by simp) ?_
              refine AllReadyF.cons (o := { dst := some 25, op := Go.Op.call { callee := Go.Callee.value (Go.Operand.func 43), args := #[Go.Operand.tmp 24], argTypes := #[24] }, type := 27, pos := "stats.go:215", after := #[{ on := 2, ground := Go.Ground.data }, { on := 1, ground := Go.Ground.chain }], guard := none }) rfl (by rfl) (fun K hK => ?_) ?_
              · go_simp
                refine (mean_any (HXL.out.grow HS3.out)).mono ?_
                rintro e V4 ⟨mx, rfl, hmx, hbk⟩
                have Hmx := Lib.hid hmx
                have HS4 := Lib.hid (HS3.out.trans (hbk.mono HS3.out.size))
                have HP54 := Lib.hid (HP53.out.grow hbk)
                have HP44 := Lib.hid (HP43.out.grow hbk)
                clear hmx hbk
                refine hK.out _ _ ?_ (fun hS => ?_)
                · exact HS4.out
                clear hK K
                try simp only [Act.put, List.setIfInBounds_toArray, List.set_cons_zero, List.set_cons_succ]
                refine wpAnyF_ready (rs := [6]) (by kernel_rfl) (by simp) ?_
                refine AllReadyF.cons (o := { dst := none, op := Go.Op.store 27 (Go.Operand.tmp 6) (Go.Operand.tmp 23), type := 0, pos := "stats.go:215", after := #[{ on := 4, ground := Go.Ground.data }, { on := 1, ground := Go.Ground.data }, { on := 3, ground := Go.Ground.chain }, { on := 0, ground := Go.Ground.phase }, { on := 1, ground := Go.Ground.phase }, { on := 2, ground := Go.Ground.textOnly Go.Departure.lateStores }, { on := 3, ground := Go.Ground.textOnly Go.Departure.lateStoresUnsure }, { on := 4, ground := Go.Ground.phase }, { on := 5, ground := Go.Ground.phase }], guard := none }) rfl (by rfl) (fun K hK => ?_) ?_
                · have q1 : V4.cell? ⟨V2.heap.size, 0, none⟩ = some (.float .f64 0) := HP44.out.cell 0
                  have q2 : V4.frozen? ⟨V2.heap.size, 0, none⟩ = false := HP44.out.frozen 0
                  go_simp
                  clear q1 q2
                  have hnn : U.heap.size ≠ V2.heap.size := by omega
                  have HP5 := Lib.hid (HP54.out.far (p := ⟨V2.heap.size, 0, none⟩) hnn (.float .f64 mt))
                  have HP4 := Lib.hid (HP44.out.set_ 0 (.float .f64 mt))
                  have HSB := Lib.hid (HS4.out.setCell (p := ⟨V2.heap.size, 0, none⟩) (show U.heap.size ≤ V2.heap.size by omega) (.float .f64 mt))
                  obtain ⟨V5, hV⟩ : ∃ V : World, V = V4.setCell ⟨V2.heap.size, 0, none⟩ (.float .f64 mt) := ⟨_, rfl⟩
                  rw [← hV] at HP5 HP4 HSB ⊢
                  clear hV
                  refine hK.out _ _ ?_ (fun hS => ?_)
                  · exact HSB.out
                  clear hK K
                  try simp only [Act.put, List.setIfInBounds_toArray, List.set_cons_zero, List.set_cons_succ]
                  refine wpAnyF_ready (rs := [7]) (by kernel_rfl) (by simp) ?_
                  refine AllReadyF.fin (o := { dst := none, op := Go.Op.store 27 (Go.Operand.tmp 7) (Go.Operand.tmp 25), type := 0, pos := "stats.go:215", after := #[{ on := 5, ground := Go.Ground.data }, { on := 3, ground := Go.Ground.data }, { on := 6, ground := Go.Ground.chain }, { on := 0, ground := Go.Ground.phase }, { on := 1, ground := Go.Ground.phase }, { on := 2, ground := Go.Ground.phase }, { on := 3, ground := Go.Ground.phase }, { on := 4, ground := Go.Ground.phase }, { on := 5, ground := Go.Ground.phase }, { on := 6, ground := Go.Ground.phase }], guard := none }) rfl (by rfl) (fun K hK => ?_) ?_
                  · have q1 : V5.cell? ⟨U.heap.size, 0, none⟩ = some (.float .f64 0) := HP5.out.cell 0
                    have q2 : V5.frozen? ⟨U.heap.size, 0, none⟩ = false := HP5.out.frozen 0
                    go_simp
                    clear q1 q2
                    refine hK.out _ _ ?_
                    clear hK K
                    try simp only [Act.put, List.setIfInBounds_toArray, List.set_cons_zero, List.set_cons_succ]
                    refine wpAnyF_done (by kernel_rfl) ?_ _
                    go_wp2_with fail
                    go_meet
                    exact ⟨V2.heap.size, U.heap.size, rfl, rfl, ⟨mt, HP4.out.far (p := ⟨U.heap.size, 0, none⟩) (show V2.heap.size ≠ U.heap.size by omega) (.float .f64 mx), Hmt.out⟩, ⟨mx, HP5.out.set_ 0 (.float .f64 mx), Hmx.out⟩, HSB.out.setCell (p := ⟨U.heap.size, 0, none⟩) (show U.heap.size ≤ U.heap.size by omega) (.float .f64 mx)⟩
                  exact AllReadyF.nil
                exact AllReadyF.nil
              exact AllReadyF.nil
            exact AllReadyF.nil
          refine AllReadyF.cons (o := { dst := some 6, op := Go.Op.alloc 27, type := 0, pos := "stats.go:215", after := #[], guard := none }) rfl (by rfl) (fun K hK => ?_) ?_
          · go_simp
            have hge4 : U.heap.size ≤ V1.heap.size := HS1.out.size
            have hlt5 := HP51.out.lt
            obtain ⟨V2, hV⟩ : ∃ V : World, V = V1.alloc (.cells #[.float .f64 0] 27) := ⟨_, rfl⟩
            rw [← hV]
            have hbk : Below V1.heap.size V1 V2 := by rw [hV]; exact ((Below.refl _ _).alloc (Nat.le_refl _) _)
            have HP42 := Lib.hid (show Blk V2 V1.heap.size 27 #[.float .f64 0] by rw [hV]; exact Blk.new V1 _ _)
            have HS2 := Lib.hid (HS1.out.trans (hbk.mono HS1.out.size))
            have HP52 := Lib.hid (HP51.out.grow hbk)
            clear hV hbk
            refine hK.out _ _ ?_ (fun hS => ?_)
            · exact HS2.out
            clear hK K
            try simp only [Act.put, List.setIfInBounds_toArray, List.set_cons_zero, List.set_cons_succ]
            refine wpAnyF_ready (rs := [1]) (by kernel_rfl) (by simp) ?_
            refine AllReadyF.cons (o := { dst := some 23, op := Go.Op.call { callee := Go.Callee.value (Go.Operand.func 43), args := #[Go.Operand.tmp 22], argTypes := #[24] }, type := 27, pos := "stats.go:215", after := #[{ on := 0, ground := Go.Ground.data }], guard := none }) rfl (by rfl) (fun K hK => ?_) ?_
            · go_simp
              refine (mean_any (HTL.out.grow HS2.out)).mono ?_
              rintro e V3 ⟨mt, rfl, hmt, hbk⟩
              have Hmt := Lib.hid hmt
              have HS3 := Lib.hid (HS2.out.trans (hbk.mono HS2.out.size))
              have HP53 := Lib.hid (HP52.out.grow hbk)
              have HP43 := Lib.hid (HP42.out.grow hbk)
              clear hmt hbk
              refine hK.out _ _ ?_ (fun hS => ?_)
              · exact HS3.out
              clear hK K
              try simp only [Act.put, List.setIfInBounds_toArray, List.set_cons_zero, List.set_cons_succ]
              refine wpAnyF_ready (rs := [3]) (by kernel_rfl) (by simp) ?_
              refine AllReadyF.cons (o := { dst := some 25, op := Go.Op.call { callee := Go.Callee.value (Go.Operand.func 43), args := #[Go.Operand.tmp 24], argTypes := #[24] }, type := 27, pos := "stats.go:215", after := #[{ on := 2, ground := Go.Ground.data }, { on := 1, ground := Go.Ground.chain }], guard := none }) rfl (by rfl) (fun K hK => ?_) ?_
              · go_simp
                refine (mean_any (HXL.out.grow HS3.out)).mono ?_
                rintro e V4 ⟨mx, rfl, hmx, hbk⟩
                have Hmx := Lib.hid hmx
                have HS4 := Lib.hid (HS3.out.trans (hbk.mono HS3.out.size))
                have HP54 := Lib.hid (HP53.out.grow hbk)
                have HP44 := Lib.hid (HP43.out.grow hbk)
                clear hmx hbk
                refine hK.out _ _ ?_ (fun hS => ?_)
                · exact HS4.out
                clear hK K
                try simp only [Act.put, List.setIfInBounds_toArray, List.set_cons_zero, List.set_cons_succ]
                refine wpAnyF_ready (rs := [6]) (by kernel_rfl) (by simp) ?_
                refine AllReadyF.cons (o := { dst := none, op := Go.Op.store 27 (Go.Operand.tmp 6) (Go.Operand.tmp 23), type := 0, pos := "stats.go:215", after := #[{ on := 4, ground := Go.Ground.data }, { on := 1, ground := Go.Ground.data }, { on := 3, ground := Go.Ground.chain }, { on := 0, ground := Go.Ground.phase }, { on := 1, ground := Go.Ground.phase }, { on := 2, ground := Go.Ground.textOnly Go.Departure.lateStores }, { on := 3, ground := Go.Ground.textOnly Go.Departure.lateStoresUnsure }, { on := 4, ground := Go.Ground.phase }, { on := 5, ground := Go.Ground.phase }], guard := none }) rfl (by rfl) (fun K hK => ?_) ?_
                · have q1 : V4.cell? ⟨V1.heap.size, 0, none⟩ = some (.float .f64 0) := HP44.out.cell 0
                  have q2 : V4.frozen? ⟨V1.heap.size, 0, none⟩ = false := HP44.out.frozen 0
                  go_simp
                  clear q1 q2
                  have hnn : U.heap.size ≠ V1.heap.size := by omega
                  have HP5 := Lib.hid (HP54.out.far (p := ⟨V1.heap.size, 0, none⟩) hnn (.float .f64 mt))
                  have HP4 := Lib.hid (HP44.out.set_ 0 (.float .f64 mt))
                  have HSB := Lib.hid (HS4.out.setCell (p := ⟨V1.heap.size, 0, none⟩) (show U.heap.size ≤ V1.heap.size by omega) (.float .f64 mt))
                  obtain ⟨V5, hV⟩ : ∃ V : World, V = V4.setCell ⟨V1.heap.size, 0, none⟩ (.float .f64 mt) := ⟨_, rfl⟩
                  rw [← hV] at HP5 HP4 HSB ⊢
                  clear hV
                  refine hK.out _ _ ?_ (fun hS => ?_)
                  · exact HSB.out
                  clear hK K
                  try simp only [Act.put, List.setIfInBounds_toArray, List.set_cons_zero, List.set_cons_succ]
                  refine wpAnyF_ready (rs := [7]) (by kernel_rfl) (by simp) ?_
                  refine AllReadyF.fin (o := { dst := none, op := Go.Op.store 27 (Go.Operand.tmp 7) (Go.Operand.tmp 25), type := 0, pos := "stats.go:215", after := #[{ on := 5, ground := Go.Ground.data }, { on := 3, ground := Go.Ground.data }, { on := 6, ground := Go.Ground.chain }, { on := 0, ground := Go.Ground.phase }, { on := 1, ground := Go.Ground.phase }, { on := 2, ground := Go.Ground.phase }, { on := 3, ground := Go.Ground.phase }, { on := 4, ground := Go.Ground.phase }, { on := 5, ground := Go.Ground.phase }, { on := 6, ground := Go.Ground.phase }], guard := none }) rfl (by rfl) (fun K hK => ?_) ?_
                  · have q1 : V5.cell? ⟨U.heap.size, 0, none⟩ = some (.float .f64 0) := HP5.out.cell 0
                    have q2 : V5.frozen? ⟨U.heap.size, 0, none⟩ = false := HP5.out.frozen 0
                    go_simp
                    clear q1 q2
                    refine hK.out _ _ ?_
                    clear hK K
                    try simp only [Act.put, List.setIfInBounds_toArray, List.set_cons_zero, List.set_cons_succ]
                    refine wpAnyF_done (by kernel_rfl) ?_ _
                    go_wp2_with fail
                    go_meet
                    exact ⟨V1.heap.size, U.heap.size, rfl, rfl, ⟨mt, HP4.out.far (p := ⟨U.heap.size, 0, none⟩) (show V1.heap.size ≠ U.heap.size by omega) (.float .f64 mx), Hmt.out⟩, ⟨mx, HP5.out.set_ 0 (.float .f64 mx), Hmx.out⟩, HSB.out.setCell (p := ⟨U.heap.size, 0, none⟩) (show U.heap.size ≤ U.heap.size by omega) (.float .f64 mx)⟩
                  exact AllReadyF.nil
                exact AllReadyF.nil
              exact AllReadyF.nil
            exact AllReadyF.nil
          exact AllReadyF.nil
        exact AllReadyF.nil
      case rest =>
        obtain ⟨gm, gn, rfl, rfl, hm, hn, hb⟩ := hcut
        have HRT2 := Lib.hid (HRT.out.grow hb)
        have HRX2 := Lib.hid (HRX.out.grow hb)
        have HTB2 := Lib.hid (HTB.out.grow hb)
        have HXB2 := Lib.hid (HXB.out.grow hb)
        have HYB2 := Lib.hid (HYB.out.grow hb)
        have HB2 := Lib.hid (HB.out.trans (hb.mono HB.out.size))
        have HM := Lib.hid hm
        have HN := Lib.hid hn
        have k2 : wc.cell? ⟨w.heap.size, 0, none⟩ = some (.slice A t.length cap) := HTB2.out.cell 0
        have k3 : wc.cell? ⟨w.heap.size + 1, 0, none⟩ = some (.slice A2 x.length cap2) := HXB2.out.cell 0
        have hs2 := hb.size
        clear hm hn hb k0 k1 y0 y1 y2 y3
        go_wp2_with fail
        refine (sum_anyN (fit1_giv HRT2.out HRX2.out HM.out HN.out) ((prodL_length _ _ _ _ (HNT.out.trans (HNE.out.trans HNX.out.symm))).trans HNT.out) (by omega) (fun args W => by go_simp)).mono ?_
        rintro e w3 ⟨sa, rfl, hsa, hb⟩
        have HA := Lib.hid (show IsF sa (fitA t x) from hsa)
        have HRT3 := Lib.hid (HRT2.out.grow hb)
        have HTB3 := Lib.hid (HTB2.out.grow hb)
        have HYB3 := Lib.hid (HYB2.out.grow hb)
        have HB3 := Lib.hid (HB2.out.trans (hb.mono HB2.out.size))
        have HM3 := Lib.hid (HM.out.grow hb)
        have HN3 := Lib.hid (HN.out.grow hb)
        have k4 : w3.cell? ⟨w.heap.size, 0, none⟩ = some (.slice A t.length cap) := HTB3.out.cell 0
        clear hsa hb k2 k3
        go_wp2_with fail
        refine (sum_anyN (fit2_giv HRT3.out HM3.out) ((prodL_length _ _ _ _ rfl).trans HNT.out) (by omega) (fun args W => by go_simp)).mono ?_
        rintro e w4 ⟨sb, rfl, hsb, hb⟩
        have hsb : IsF sb (fitB t) := hsb
        have ho := order_isF hsb zero_isF
        have hnn : isN sb = (fitB t).isNone := by rw [← hsb.2, cn_isNone]
        have HBB := Lib.hid hsb
        have HYB4 := Lib.hid (HYB3.out.grow hb)
        have HB4 := Lib.hid (HB3.out.trans (hb.mono HB3.out.size))
        have HM4 := Lib.hid (HM3.out.grow hb)
        have HN4 := Lib.hid (HN3.out.grow hb)
        have HNO2 := Lib.hid (show fitNo t x = ((ford (fitB t) (some 0) == some .eq) || (fitB t).isNone) by
          rw [HNO.out, decide_eq_false (fun h => h HNE.out), decide_eq_false HLT.out]; rfl)
        clear hsb hb k4 HNO
        by_cases h1 : (ford (fitB t) (some 0) == some .eq) = true
        · have d3 : (FloatKind.f64.format.order sb 0 == some .eq) = true := by rw [ho]; exact h1
          have HFN := Lib.hid (show fitNo t x = true by rw [HNO2.out, h1]; rfl)
          have y0 : w4.cell? ⟨w.heap.size + 2, 0, none⟩ = some (.float .f64 0) := HYB4.out.cell 0
          have y1 : w4.cell? ⟨w.heap.size + 2, 1, none⟩ = some (.float .f64 0) := HYB4.out.cell 1
          have y2 : w4.frozen? ⟨w.heap.size + 2, 0, none⟩ = false := HYB4.out.frozen 0
          have y3 : w4.frozen? ⟨w.heap.size + 2, 1, none⟩ = false := HYB4.out.frozen 1
          clear ho hnn h1
          go_wp2_with fail
          exact bodyPost_ret (v := .tuple #[.agg #[.float .f64 0, .float .f64 0], .bool false]) (by simp [results, Tryz.results9, go_sem, y0, y1]) rfl (fitP_no HFN.out ((HB4.out.setCell (p := ⟨w.heap.size + 1 + 1, 0, none⟩) (by show w.heap.size ≤ w.heap.size + 1 + 1; omega) _).setCell (p := ⟨w.heap.size + 1 + 1, 1, none⟩) (by show w.heap.size ≤ w.heap.size + 1 + 1; omega) _))
        · have h1' : (ford (fitB t) (some 0) == some .eq) = false := by simpa using h1
          have d3 : (FloatKind.f64.format.order sb 0 == some .eq) = false := by rw [ho]; exact h1'
          cases h2 : (fitB t).isNone with
          | true =>
            have HFN := Lib.hid (show fitNo t x = true by rw [HNO2.out, h1', h2]; rfl)
            have HIN := Lib.hid (hnn.trans h2)
            have y0 : w4.cell? ⟨w.heap.size + 2, 0, none⟩ = some (.float .f64 0) := HYB4.out.cell 0
            have y1 : w4.cell? ⟨w.heap.size + 2, 1, none⟩ = some (.float .f64 0) := HYB4.out.cell 1
            have y2 : w4.frozen? ⟨w.heap.size + 2, 0, none⟩ = false := HYB4.out.frozen 0
            have y3 : w4.frozen? ⟨w.heap.size + 2, 1, none⟩ = false := HYB4.out.frozen 1
            clear ho hnn h1 h1' h2
            go_wp2_with fail
            refine (isNaN_any _ _).mono ?_
            rintro e w5 ⟨rfl, hw5⟩
            rw [hw5, HIN.out]
            clear hw5
            go_wp2_with fail
            exact bodyPost_ret (v := .tuple #[.agg #[.float .f64 0, .float .f64 0], .bool false]) (by simp [results, Tryz.results9, go_sem, y0, y1]) rfl (fitP_no HFN.out ((HB4.out.setCell (p := ⟨w.heap.size + 1 + 1, 0, none⟩) (by show w.heap.size ≤ w.heap.size + 1 + 1; omega) _).setCell (p := ⟨w.heap.size + 1 + 1, 1, none⟩) (by show w.heap.size ≤ w.heap.size + 1 + 1; omega) _))
          | false =>
            have HFN := Lib.hid (show fitNo t x = false by rw [HNO2.out, h1', h2]; rfl)
            have HIN := Lib.hid (hnn.trans h2)
            obtain ⟨um, m1, m2⟩ := HM4.out
            obtain ⟨un, n1, n2⟩ := HN4.out
            have z0 : w4.cell? ⟨gm, 0, none⟩ = some (.float .f64 um) := m1.cell 0
            have z1 : w4.cell? ⟨gn, 0, none⟩ = some (.float .f64 un) := n1.cell 0
            have HMM := Lib.hid m2
            have HNN := Lib.hid n2
            have y0 : w4.cell? ⟨w.heap.size + 2, 0, none⟩ = some (.float .f64 0) := HYB4.out.cell 0
            have y1 : w4.cell? ⟨w.heap.size + 2, 1, none⟩ = some (.float .f64 0) := HYB4.out.cell 1
            have y2 : w4.frozen? ⟨w.heap.size + 2, 0, none⟩ = false := HYB4.out.frozen 0
            have y3 : w4.frozen? ⟨w.heap.size + 2, 1, none⟩ = false := HYB4.out.frozen 1
            clear ho hnn h1 h1' h2 m1 m2 n1 n2
            go_wp2_with fail
            refine (isNaN_any _ _).mono ?_
            rintro e w5 ⟨rfl, hw5⟩
            rw [hw5, HIN.out]
            clear hw5
            go_wp2_with fail
            generalize hv : aV Ieee.double.div sa sb _ = sl
            have Hsl := Lib.hid (isF_eq hv (isF_div HA.out HBB.out _))
            clear hv
            generalize hv : aV Ieee.double.mul sl um _ = x1
            have Hx1 := Lib.hid (isF_eq hv (isF_mul Hsl.out HMM.out _))
            clear hv
            generalize hv : aV Ieee.double.sub un x1 _ = x2
            have Hx2 := Lib.hid (isF_eq hv (isF_sub HNN.out Hx1.out _))
            clear hv
            generalize hW : w4.drewN _ = w6
            have y0' : w6.cell? ⟨w.heap.size + 2, 0, none⟩ = some (.float .f64 0) := by rw [← hW]; exact y0
            have y1' : w6.cell? ⟨w.heap.size + 2, 1, none⟩ = some (.float .f64 0) := by rw [← hW]; exact y1
            have y2' : w6.frozen? ⟨w.heap.size + 2, 0, none⟩ = false := by rw [← hW]; exact y2
            have y3' : w6.frozen? ⟨w.heap.size + 2, 1, none⟩ = false := by rw [← hW]; exact y3
            have HY6 := Lib.hid (show Blk w6 (w.heap.size + 2) 29 #[.float .f64 0, .float .f64 0] by rw [← hW]; exact HYB4.out)
            have HB6 := Lib.hid (show Below w.heap.size w w6 by rw [← hW]; exact below_drewN HB4.out _)
            clear hW y0 y1 y2 y3 z0 z1
            refine (plain_any Hx2.out _).mono ?_
            rintro e w9 ⟨r1, rfl, hr, hw9⟩
            rw [hw9]
            have HR1 := Lib.hid hr
            clear hr hw9
            go_wp2_with fail
            refine (plain_any Hsl.out _).mono ?_
            rintro e w9 ⟨r2, rfl, hr, hw9⟩
            rw [hw9]
            have HR2 := Lib.hid hr
            clear hr hw9
            go_wp2_with fail
            have HY7 := (HY6.out.set_ 0 (.float .f64 r1)).set_ 1 (.float .f64 r2)
            have HB7 := Lib.hid ((HB6.out.setCell (p := ⟨w.heap.size + 2, 0, none⟩) (by show w.heap.size ≤ w.heap.size + 2; omega) (.float .f64 r1)).setCell (p := ⟨w.heap.size + 2, 1, none⟩) (by show w.heap.size ≤ w.heap.size + 2; omega) (.float .f64 r2))
            have c0 := HY7.cell 0
            have c1 := HY7.cell 1
            generalize (w6.setCell ⟨w.heap.size + 2, 0, none⟩ (.float .f64 r1)).setCell ⟨w.heap.size + 2, 1, none⟩ (.float .f64 r2) = w7 at c0 c1 HB7 ⊢
            have c0' : w7.cell? ⟨w.heap.size + 2, 0, none⟩ = some (.float .f64 r1) := c0
            have c1' : w7.cell? ⟨w.heap.size + 2, 1, none⟩ = some (.float .f64 r2) := c1
            clear c0 c1 HY7
            exact bodyPost_ret (v := .tuple #[.agg #[.float .f64 r1, .float .f64 r2], .bool true]) (by simp [results, Tryz.results9, go_sem, c0', c1']) rfl (fitP_yes HFN.out HR1.out HR2.out HB7.out)
  · have d1 : ((t.length : Int) != (x.length : Int)) = true := by simp; omega
    have hno : fitNo t x = true := by rw [HNO.out, decide_eq_true hne]; simp
    have HFN := Lib.hid hno
    clear hne hno
    go_enter Tryz.func9, Tryz.ntmps9
    go_wp2_with fail
    rw [← hU]
    clear hU
    go_wp2_with fail
    exact bodyPost_ret (v := .tuple #[.agg #[.float .f64 0, .float .f64 0], .bool false]) (by simp [results, Tryz.results9, go_sem, y0, y1]) rfl (fitP_no HFN.out HB.out)
end Go.Proofs.YtidejikolcgojaaGreat.St

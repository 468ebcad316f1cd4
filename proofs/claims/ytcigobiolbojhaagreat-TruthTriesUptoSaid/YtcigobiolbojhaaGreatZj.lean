/- Joined by program: TruI TruJ TruK TruL. -/
import Derived.Test.YtcigobiolbojhaaGreatZh
import Derived.Test.YtcigobiolbojhaaGreatZi
/- gavelref29.by, Wrong, Package, Tries, Regret. -/
namespace Go.Proofs.YtcigobiolbojhaaGreat.Vb
open Go.RowKit

set_option maxRecDepth 100000 in
set_option maxHeartbeats 3200000 in
theorem refBy_any (n : Int) (bs : List (List Off)) (k : Nat) (r : Int) (tr l : List Off) (v vt vl : Value) (R Rt Rl : Nat → Prop) (w : World) (hb : Buys w R v bs) (ht : Offs w Rt vt tr) (hl : Offs w Rl vl l)
    (hr : r = 1 ∨ r = 2) (hi : instE n bs = 0) (hk : k < bs.length) (hc : checkE n l = 0) :
    Calls Tryz.prog 23 #[.agg #[.int .i64 n, v], .int .i64 k, .int .i64 r, vt, vl] w fun e w' => e = .returned (.int .i64 (byV n bs k r tr l)) ∧ Below w.heap.size w w' := by
  have HB := Lib.hid hb
  have HT := Lib.hid ht
  have HL := Lib.hid hl
  have hwe : withE n bs (k : Int) l = 0 := by rw [withE_in hi hk]; exact hc
  have hl8 := checkE_len hc
  have hys : instE n (bs.set k l) = 0 := instE_set hi hl8 hc
  obtain ⟨y, hy⟩ : ∃ y, y = bs.set k l := ⟨_, rfl⟩
  have hyl : y.length = bs.length := by rw [hy]; simp
  have hyk : y[k]? = some l := by rw [hy]; simp [hk]
  have hb32 : bs.length ≤ 32 := (instE_zero hi).2.2.1
  obtain ⟨c, hcc⟩ : ∃ c, (bestC n y)[k]? = some c := ⟨_, List.getElem?_eq_getElem (by rw [bestC_len, hyl]; exact hk)⟩
  have hyw : ∀ x ∈ y, ∀ o ∈ x, o.wf := by
    intro x hx o ho
    rw [hy] at hx
    rcases List.mem_or_eq_of_mem_set hx with h | h
    · exact hb.wf x h o ho
    · subst h
      exact hl.2 o ho
  obtain ⟨p, hpp⟩ : ∃ p, (payR r n y)[k]? = some p := by
    have : (payR r n y).length = y.length := by
      unfold payR
      split
      · exact paysC_length n y
      · exact payTo_len (hy ▸ hys) hyw (Nat.le_refl _)
    exact ⟨_, List.getElem?_eq_getElem (by rw [this, hyl]; exact hk)⟩
  have hval : byV n bs k r tr l = if c < 0 then 0 else gainV tr ((l[c.toNat]?.map (·.g)).getD 0) p := by
    unfold byV
    rw [← hy, hcc, hpp]
    rfl
  obtain ⟨ans, hans⟩ : ∃ z, z = byV n bs k r tr l := ⟨_, rfl⟩
  rw [← hans]
  rw [hval] at hans
  have HANS := Lib.hid hans
  clear hans
  have hcg : c = -1 ∨ ∃ (j : Nat) (o : Off), c = (j : Int) ∧ l[j]? = some o := by
    rcases choose_get _ _ _ _ hcc with h | ⟨j, l', o, h1, h2, h3⟩
    · exact .inl h
    · rw [hyk] at h2
      injection h2 with h2
      subst h2
      exact .inr ⟨j, o, h1, h3⟩
  have HY := Lib.hid hy
  have HYI := Lib.hid (hy ▸ hys : instE n y = 0)
  have HWE := Lib.hid hwe
  have HYL := Lib.hid hyl
  have HC := Lib.hid hcc
  have HPP := Lib.hid hpp
  obtain ⟨_, ⟨_, Ab, capb, rfl, _⟩, _⟩ := id hb
  obtain ⟨⟨_, At, capt, rfl, _⟩, _⟩ := id ht
  obtain ⟨⟨_, Al, capl, rfl, _⟩, hlwf⟩ := id hl
  have HWF := Lib.hid hlwf
  clear hb ht hl hwe hys hy hyk hyl hcc hpp hval hi hc hyw hlwf
  have e0 : (0 : Int) ≤ (k : Int) := by omega
  have e1 : (k : Int) < (bs.length : Int) := by omega
  have hb0 : Below w.heap.size w (w.alloc (.cells #[.int .i64 n, .slice Ab bs.length capb] 24)) := (Below.refl _ _).alloc (Nat.le_refl _) _
  have HB0 := Lib.hid hb0
  clear hb0
  go_enter Tryz.func23, Tryz.ntmps23
  go_wp2_with fail
  refine (refWith_ok n bs (k : Int) l _ _ R Rl (w.alloc (.cells #[.int .i64 n, .slice Ab bs.length capb] 24)) (HB.out.grow HB0.out) (HL.out.grow HB0.out) HWE.out).mono ?_
  rintro e w1 ⟨A1, c1, rfl, hob1, hb1⟩
  rw [Int.toNat_natCast, ← HY.out] at hob1
  have HY1 := Lib.hid hob1
  have HB1 := Lib.hid (HB0.out.trans (hb1.mono HB0.out.size))
  clear hob1 hb1
  go_wp2_with fail
  have hbz1 := (HY1.out.alloc (.cells #[.int .i64 n, .slice A1 bs.length c1] 24)).any
  have hz1 := Blk.new w1 24 #[.int .i64 n, .slice A1 bs.length c1]
  have hbb1 := HB1.out.alloc HB1.out.size (.cells #[.int .i64 n, .slice A1 bs.length c1] 24)
  obtain ⟨z1, hz⟩ : ∃ V, V = w1.alloc (.cells #[.int .i64 n, .slice A1 bs.length c1] 24) := ⟨_, rfl⟩
  rw [← hz] at hbz1 hz1 hbb1 ⊢
  have HBZ := Lib.hid hbz1
  have HZ1 := Lib.hid hz1
  have HBB := Lib.hid hbb1
  clear hz hbz1 hz1 hbb1
  refine (refCosts_ok n y _ _ z1 HBZ.out HYI.out).mono ?_
  rintro e w2 ⟨A2, c2, A3, c3, rfl, ho2, ho3, hb2⟩
  rw [HYL.out] at ho2 ho3 ⊢
  obtain ⟨T, hT⟩ : ∃ T, T = W y (allOf n) := ⟨_, rfl⟩
  rw [← hT]
  have hal2 := hb2.alloc hb2.size (.cells #[.slice A2 bs.length c2, .int .i64 T, .slice A3 bs.length c3] 81)
  have hq2 := Blk.new w2 81 #[.slice A2 bs.length c2, .int .i64 T, .slice A3 bs.length c3]
  have hbest := Sl.of_own (own_alloc ho2 (.cells #[.slice A2 bs.length c2, .int .i64 T, .slice A3 bs.length c3] 81))
  have hpays := Sl.of_own (own_alloc ho3 (.cells #[.slice A2 bs.length c2, .int .i64 T, .slice A3 bs.length c3] 81))
  have xz0 : (w2.alloc (.cells #[.slice A2 bs.length c2, .int .i64 T, .slice A3 bs.length c3] 81)).cell? ⟨w1.heap.size, 0, none⟩ = some (.int .i64 n) := (HZ1.out.grow hal2).cell 0
  have xz1 : (w2.alloc (.cells #[.slice A2 bs.length c2, .int .i64 T, .slice A3 bs.length c3] 81)).cell? ⟨w1.heap.size, 1, none⟩ = some (.slice A1 bs.length c1) := (HZ1.out.grow hal2).cell 1
  clear hT
  have HAL2 := Lib.hid hal2
  have HQ2 := Lib.hid hq2
  have HBE := Lib.hid hbest
  have HPA := Lib.hid hpays
  clear ho2 ho3 hb2 hal2 hq2 hbest hpays
  obtain ⟨z2, hz2⟩ : ∃ V, V = w2.alloc (.cells #[.slice A2 bs.length c2, .int .i64 T, .slice A3 bs.length c3] 81) := ⟨_, rfl⟩
  rcases hr with rfl | rfl
  · have hpp1 : (paysC n y)[k]? = some p := by
      have h := HPP.out
      unfold payR at h
      rwa [if_pos rfl] at h
    have hbe3 := HBE.out
    have hpa3 := HPA.out
    have hq3 := HQ2.out
    have hbb3 := HBB.out.trans (HAL2.out.mono HBB.out.size)
    have hq0 : (w2.alloc (.cells #[.slice A2 bs.length c2, .int .i64 T, .slice A3 bs.length c3] 81)).cell? ⟨w2.heap.size, 0, none⟩ = some (.slice A2 bs.length c2) := hq3.cell 0
    have hq2' : (w2.alloc (.cells #[.slice A2 bs.length c2, .int .i64 T, .slice A3 bs.length c3] 81)).cell? ⟨w2.heap.size, 2, none⟩ = some (.slice A3 bs.length c3) := hq3.cell 2
    obtain ⟨g2, of2, c', rfl, hg2, hc', xc⟩ := hbe3.int_at hk
    rw [HC.out] at hc'
    injection hc' with hc'
    subst hc'
    obtain ⟨g4, of4, p', rfl, hg4, hp', xp4⟩ := hpa3.int_at hk
    rw [hpp1] at hp'
    injection hp' with hp'
    subst hp'
    have HBB3 := Lib.hid hbb3
    clear hbe3 hpa3 hq3 hbb3 hpp1 xz0 xz1
    rcases hcg with rfl | ⟨j, o, rfl, hj⟩
    · have HAN2 := Lib.hid (show ans = 0 from by rw [HANS.out, if_pos (by decide)])
      clear hz2
      go_wp2_with fail
      go_ret
      exact ⟨by rw [HAN2.out]; rfl, HBB3.out⟩
    · obtain ⟨gl, ofl, rfl, hgl, l0, l1⟩ := (HL.out.grow HBB3.out).at_ hj
      have hwo := HWF.out o (List.mem_of_getElem? hj)
      unfold Off.wf at hwo
      have hgv : (if (j : Int) < 0 then (0 : Int) else gainV tr ((l[((j : Nat) : Int).toNat]?.map (·.g)).getD 0) p) = gainV tr o.g p := by
        rw [if_neg (by omega), Int.toNat_natCast, hj]
        rfl
      have HAN2 := Lib.hid (show ans = gainV tr o.g p from by rw [HANS.out, hgv])
      have hjl : j < l.length := (List.getElem?_eq_some_iff.1 hj).1
      have f1 : (j : Int) < (l.length : Int) := by omega
      have f0 : (0 : Int) ≤ (j : Int) := by omega
      have f2 : ((j : Int) < 0) = False := by simp
      obtain ⟨og, oc⟩ := o
      simp only at l0 l1 hwo ⊢
      obtain ⟨gv, hgvv⟩ : ∃ z, z = gainV tr og p := ⟨_, rfl⟩
      have HGV := Lib.hid hgvv
      clear hgv hj hgvv hz2
      go_wp2_with fail
      obtain ⟨z2, hz2⟩ : ∃ V, V = w2.alloc (.cells #[.slice (some ⟨g2, of2, none⟩) bs.length c2, .int .i64 T, .slice (some ⟨g4, of4, none⟩) bs.length c3] 81) := ⟨_, rfl⟩
      rw [← hz2] at hgl l0 hg4 xp4 ⊢
      replace HBB3 := Lib.hid (show Below w.heap.size w z2 from by rw [hz2]; exact HBB3.out)
      clear hz2
      refine wp_region_F (Below z2.heap.size z2) [] (by kernel_rfl) ((Below.refl _ _).drew) (fun hS => ?_)
      refine wpAnyF_take (i := 0) (oi := { dst := some 45, op := Go.Op.move (Go.Operand.tmp 3), type := 26, pos := "ref.go:110", after := #[], guard := none }) (v := ?_) rfl (by kernel_rfl) (by kernel_rfl) (by kernel_rfl) (by kernel_rfl) (fun _ _ _ h => h) (Or.inl ⟨by rfl, ?_⟩) hS ?_
      rotate_left
      · intro w' hSw; have q3 := (hSw.cell (p := ⟨gl, ofl + j * 2, none⟩) hgl).trans l0; have q4 := (hSw.cell (p := ⟨g4, of4 + k, none⟩) hg4).trans xp4; go_simp; try with_reducible rfl
      try simp only [Act.put, List.setIfInBounds_toArray, List.set_cons_zero, List.set_cons_succ]
      refine wpAnyF_take (i := 1) (oi := { dst := some 46, op := Go.Op.move (Go.Operand.tmp 4), type := 26, pos := "ref.go:110", after := #[], guard := none }) (v := ?_) rfl (by kernel_rfl) (by kernel_rfl) (by kernel_rfl) (by kernel_rfl) (fun _ _ _ h => h) (Or.inl ⟨by rfl, ?_⟩) hS ?_
      rotate_left
      · intro w' hSw; have q3 := (hSw.cell (p := ⟨gl, ofl + j * 2, none⟩) hgl).trans l0; have q4 := (hSw.cell (p := ⟨g4, of4 + k, none⟩) hg4).trans xp4; go_simp; try with_reducible rfl
      try simp only [Act.put, List.setIfInBounds_toArray, List.set_cons_zero, List.set_cons_succ]
      refine wpAnyF_take (i := 2) (oi := { dst := some 47, op := Go.Op.move (Go.Operand.tmp 16), type := 3, pos := "ref.go:110", after := #[], guard := none }) (v := ?_) rfl (by kernel_rfl) (by kernel_rfl) (by kernel_rfl) (by kernel_rfl) (fun _ _ _ h => h) (Or.inl ⟨by rfl, ?_⟩) hS ?_
      rotate_left
      · intro w' hSw; have q3 := (hSw.cell (p := ⟨gl, ofl + j * 2, none⟩) hgl).trans l0; have q4 := (hSw.cell (p := ⟨g4, of4 + k, none⟩) hg4).trans xp4; go_simp; try with_reducible rfl
      try simp only [Act.put, List.setIfInBounds_toArray, List.set_cons_zero, List.set_cons_succ]
      refine wpAnyF_take (i := 3) (oi := { dst := some 48, op := Go.Op.indexAddr 26 (Go.Operand.tmp 46) (Go.Operand.tmp 47), type := 0, pos := "ref.go:110", after := #[{ on := 1, ground := Go.Ground.data }, { on := 2, ground := Go.Ground.data }], guard := none }) (v := ?_) rfl (by kernel_rfl) (by kernel_rfl) (by kernel_rfl) (by kernel_rfl) (fun _ _ _ h => h) (Or.inl ⟨by rfl, ?_⟩) hS ?_
      rotate_left
      · intro w' hSw; have q3 := (hSw.cell (p := ⟨gl, ofl + j * 2, none⟩) hgl).trans l0; have q4 := (hSw.cell (p := ⟨g4, of4 + k, none⟩) hg4).trans xp4; go_simp; try with_reducible rfl
      try simp only [Act.put, List.setIfInBounds_toArray, List.set_cons_zero, List.set_cons_succ]
      refine wpAnyF_take (i := 4) (oi := { dst := some 49, op := Go.Op.fieldAddr 53 (Go.Operand.tmp 48) 0, type := 0, pos := "ref.go:110", after := #[{ on := 3, ground := Go.Ground.data }], guard := none }) (v := ?_) rfl (by kernel_rfl) (by kernel_rfl) (by kernel_rfl) (by kernel_rfl) (fun _ _ _ h => h) (Or.inl ⟨by rfl, ?_⟩) hS ?_
      rotate_left
      · intro w' hSw; have q3 := (hSw.cell (p := ⟨gl, ofl + j * 2, none⟩) hgl).trans l0; have q4 := (hSw.cell (p := ⟨g4, of4 + k, none⟩) hg4).trans xp4; go_simp; try with_reducible rfl
      try simp only [Act.put, List.setIfInBounds_toArray, List.set_cons_zero, List.set_cons_succ]
      refine wpAnyF_take (i := 5) (oi := { dst := some 50, op := Go.Op.load 51 (Go.Operand.tmp 49), type := 51, pos := "ref.go:110", after := #[{ on := 4, ground := Go.Ground.data }], guard := none }) (v := ?_) rfl (by kernel_rfl) (by kernel_rfl) (by kernel_rfl) (by kernel_rfl) (fun _ _ _ h => h) (Or.inl ⟨by rfl, ?_⟩) hS ?_
      rotate_left
      · intro w' hSw; have q3 := (hSw.cell (p := ⟨gl, ofl + j * 2, none⟩) hgl).trans l0; have q4 := (hSw.cell (p := ⟨g4, of4 + k, none⟩) hg4).trans xp4; go_simp; try with_reducible rfl
      try simp only [Act.put, List.setIfInBounds_toArray, List.set_cons_zero, List.set_cons_succ]
      refine wpAnyF_take (i := 6) (oi := { dst := some 51, op := Go.Op.move (Go.Operand.tmp 15), type := 37, pos := "ref.go:110", after := #[], guard := none }) (v := ?_) rfl (by kernel_rfl) (by kernel_rfl) (by kernel_rfl) (by kernel_rfl) (fun _ _ _ h => h) (Or.inl ⟨by rfl, ?_⟩) hS ?_
      rotate_left
      · intro w' hSw; have q3 := (hSw.cell (p := ⟨gl, ofl + j * 2, none⟩) hgl).trans l0; have q4 := (hSw.cell (p := ⟨g4, of4 + k, none⟩) hg4).trans xp4; go_simp; try with_reducible rfl
      try simp only [Act.put, List.setIfInBounds_toArray, List.set_cons_zero, List.set_cons_succ]
      refine wpAnyF_take (i := 7) (oi := { dst := some 52, op := Go.Op.move (Go.Operand.tmp 1), type := 3, pos := "ref.go:110", after := #[], guard := none }) (v := ?_) rfl (by kernel_rfl) (by kernel_rfl) (by kernel_rfl) (by kernel_rfl) (fun _ _ _ h => h) (Or.inl ⟨by rfl, ?_⟩) hS ?_
      rotate_left
      · intro w' hSw; have q3 := (hSw.cell (p := ⟨gl, ofl + j * 2, none⟩) hgl).trans l0; have q4 := (hSw.cell (p := ⟨g4, of4 + k, none⟩) hg4).trans xp4; go_simp; try with_reducible rfl
      try simp only [Act.put, List.setIfInBounds_toArray, List.set_cons_zero, List.set_cons_succ]
      refine wpAnyF_take (i := 8) (oi := { dst := some 53, op := Go.Op.indexAddr 37 (Go.Operand.tmp 51) (Go.Operand.tmp 52), type := 0, pos := "ref.go:110", after := #[{ on := 6, ground := Go.Ground.data }, { on := 7, ground := Go.Ground.data }], guard := none }) (v := ?_) rfl (by kernel_rfl) (by kernel_rfl) (by kernel_rfl) (by kernel_rfl) (fun _ _ _ h => h) (Or.inl ⟨by rfl, ?_⟩) hS ?_
      rotate_left
      · intro w' hSw; have q3 := (hSw.cell (p := ⟨gl, ofl + j * 2, none⟩) hgl).trans l0; have q4 := (hSw.cell (p := ⟨g4, of4 + k, none⟩) hg4).trans xp4; go_simp; try with_reducible rfl
      try simp only [Act.put, List.setIfInBounds_toArray, List.set_cons_zero, List.set_cons_succ]
      refine wpAnyF_take (i := 9) (oi := { dst := some 54, op := Go.Op.load 2 (Go.Operand.tmp 53), type := 2, pos := "ref.go:110", after := #[{ on := 8, ground := Go.Ground.data }], guard := none }) (v := ?_) rfl (by kernel_rfl) (by kernel_rfl) (by kernel_rfl) (by kernel_rfl) (fun _ _ _ h => h) (Or.inl ⟨by rfl, ?_⟩) hS ?_
      rotate_left
      · intro w' hSw; have q3 := (hSw.cell (p := ⟨gl, ofl + j * 2, none⟩) hgl).trans l0; have q4 := (hSw.cell (p := ⟨g4, of4 + k, none⟩) hg4).trans xp4; go_simp; try with_reducible rfl
      try simp only [Act.put, List.setIfInBounds_toArray, List.set_cons_zero, List.set_cons_succ]
      refine wpAnyF_ready (rs := [10]) (by kernel_rfl) (by simp) ?_
      refine AllReadyF.cons (o := { dst := some 55, op := Go.Op.call { callee := Go.Callee.value (Go.Operand.func 40), args := #[Go.Operand.tmp 45, Go.Operand.tmp 50, Go.Operand.tmp 54], argTypes := #[26, 51, 2] }, type := 2, pos := "ref.go:110", after := #[{ on := 0, ground := Go.Ground.data }, { on := 5, ground := Go.Ground.data }, { on := 9, ground := Go.Ground.data }], guard := none }) rfl (by rfl) (fun K hK => ?_) ?_
      · go_simp
        refine (refGain_any tr og hwo.1 p _ Rt _ ((HT.out.grow HBB3.out).grow (Below.refl _ _).drew)).mono ?_
        rintro e w5 ⟨rfl, hb5⟩
        rw [← HGV.out]
        refine hK.out _ _ ?_ (fun hS => ?_)
        · exact (Below.refl z2.heap.size z2).drew.trans (hb5.mono (by simp))
        clear hK K
        try simp only [Act.put, List.setIfInBounds_toArray, List.set_cons_zero, List.set_cons_succ]
        have HB5 := Lib.hid hb5
        have hs5 := hb5.size
        clear hb5
        refine wpAnyF_take (i := 11) (oi := { dst := some 10, op := Go.Op.assign (Go.Operand.tmp 55), type := 2, pos := "ref.go:110", after := #[{ on := 10, ground := Go.Ground.data }, { on := 10, ground := Go.Ground.chain }, { on := 0, ground := Go.Ground.phase }, { on := 1, ground := Go.Ground.phase }, { on := 2, ground := Go.Ground.phase }, { on := 3, ground := Go.Ground.phase }, { on := 4, ground := Go.Ground.phase }, { on := 5, ground := Go.Ground.phase }, { on := 6, ground := Go.Ground.phase }, { on := 7, ground := Go.Ground.phase }, { on := 8, ground := Go.Ground.phase }, { on := 9, ground := Go.Ground.phase }, { on := 10, ground := Go.Ground.phase }], guard := none }) (v := ?_) rfl (by kernel_rfl) (by kernel_rfl) (by kernel_rfl) (by kernel_rfl) (fun _ _ _ h => h) (Or.inl ⟨by rfl, ?_⟩) hS ?_
        rotate_left
        · intro w' hSw; have q3 := (hSw.cell (p := ⟨gl, ofl + j * 2, none⟩) hgl).trans l0; have q4 := (hSw.cell (p := ⟨g4, of4 + k, none⟩) hg4).trans xp4; go_simp; try with_reducible rfl
        try simp only [Act.put, List.setIfInBounds_toArray, List.set_cons_zero, List.set_cons_succ]
        refine wpAnyF_done (by kernel_rfl) ?_ _
        go_wp2_with fail
        go_ret
        exact ⟨by rw [HAN2.out, ← HGV.out]; rfl, HBB3.out.drew.trans (HB5.out.mono (by have := HBB3.out.size; simp; omega))⟩
      exact AllReadyF.nil
  · have hpp1 : (payTo n y y.length)[k]? = some p := by
      have h := HPP.out
      unfold payR at h
      rwa [if_neg (by decide)] at h
    obtain ⟨ps, hps⟩ : ∃ z, z = payTo n y y.length := ⟨_, rfl⟩
    rw [← hps] at hpp1
    have HPS := Lib.hid hps
    have HPP1 := Lib.hid hpp1
    have hq2' : (w2.alloc (.cells #[.slice A2 bs.length c2, .int .i64 T, .slice A3 bs.length c3] 81)).cell? ⟨w2.heap.size, 2, none⟩ = some (.slice A3 bs.length c3) := HQ2.out.cell 2
    clear hpp1 hps hz2
    go_wp2_with fail
    obtain ⟨z2, hz2⟩ : ∃ V, V = w2.alloc (.cells #[.slice A2 bs.length c2, .int .i64 T, .slice A3 bs.length c3] 81) := ⟨_, rfl⟩
    have HZ2 := Lib.hid hz2
    rw [← hz2]
    have HBZ2 := Lib.hid (show Buys z2 (fun _ => True) (.slice A1 bs.length c1) y from by rw [HZ2.out]; exact HBZ.out.grow HAL2.out)
    refine (refPay_ok n y _ _ z2 HBZ2.out HYI.out).mono ?_
    rintro e w3 ⟨A4, c4, rfl, ho4, hb4⟩
    rw [← HPS.out, HYL.out] at ho4
    rw [HYL.out]
    have hq3 : Blk w3 w2.heap.size 81 #[.slice A2 bs.length c2, .int .i64 T, .slice A3 bs.length c3] := (show Blk z2 w2.heap.size 81 #[.slice A2 bs.length c2, .int .i64 T, .slice A3 bs.length c3] from by rw [HZ2.out]; exact HQ2.out).grow hb4
    have hbe3 := (show Sl z2 _ (.slice A2 bs.length c2) bs.length 1 (ints (bestC n y)) from by rw [HZ2.out]; exact HBE.out).grow hb4
    have hbb3 : Below w.heap.size w w3 := (show Below w.heap.size w z2 from by rw [HZ2.out]; exact HBB.out.trans (HAL2.out.mono HBB.out.size)).trans (hb4.mono (by rw [HZ2.out]; exact (HBB.out.trans (HAL2.out.mono HBB.out.size)).size))
    have xq : w3.cell? ⟨w2.heap.size, 0, none⟩ = some (.slice A2 bs.length c2) := hq3.cell 0
    obtain ⟨g2, of2, c', rfl, hg2, hc', xc⟩ := hbe3.int_at hk
    rw [HC.out] at hc'
    injection hc' with hc'
    subst hc'
    obtain ⟨g4, of4, p', rfl, hg4, hp', xp4⟩ := ho4.int_at hk
    rw [HPP1.out] at hp'
    injection hp' with hp'
    subst hp'
    have HBB3 := Lib.hid hbb3
    clear ho4 hb4 hq3 hbe3 hbb3 xz0 xz1 hz2 hq2'
    rcases hcg with rfl | ⟨j, o, rfl, hj⟩
    · have HAN2 := Lib.hid (show ans = 0 from by rw [HANS.out, if_pos (by decide)])
      go_wp2_with fail
      go_ret
      exact ⟨by rw [HAN2.out]; rfl, HBB3.out⟩
    · obtain ⟨gl, ofl, rfl, hgl, l0, l1⟩ := (HL.out.grow HBB3.out).at_ hj
      have hwo := HWF.out o (List.mem_of_getElem? hj)
      unfold Off.wf at hwo
      have hgv : (if (j : Int) < 0 then (0 : Int) else gainV tr ((l[((j : Nat) : Int).toNat]?.map (·.g)).getD 0) p) = gainV tr o.g p := by
        rw [if_neg (by omega), Int.toNat_natCast, hj]
        rfl
      have HAN2 := Lib.hid (show ans = gainV tr o.g p from by rw [HANS.out, hgv])
      have hjl : j < l.length := (List.getElem?_eq_some_iff.1 hj).1
      have f1 : (j : Int) < (l.length : Int) := by omega
      have f0 : (0 : Int) ≤ (j : Int) := by omega
      have f2 : ((j : Int) < 0) = False := by simp
      obtain ⟨og, oc⟩ := o
      simp only at l0 l1 hwo ⊢
      obtain ⟨gv, hgvv⟩ : ∃ z, z = gainV tr og p := ⟨_, rfl⟩
      have HGV := Lib.hid hgvv
      clear hgv hj hgvv
      go_wp2_with fail
      refine wp_region_F (Below w3.heap.size w3) [] (by kernel_rfl) ((Below.refl _ _).drew) (fun hS => ?_)
      refine wpAnyF_take (i := 0) (oi := { dst := some 45, op := Go.Op.move (Go.Operand.tmp 3), type := 26, pos := "ref.go:110", after := #[], guard := none }) (v := ?_) rfl (by kernel_rfl) (by kernel_rfl) (by kernel_rfl) (by kernel_rfl) (fun _ _ _ h => h) (Or.inl ⟨by rfl, ?_⟩) hS ?_
      rotate_left
      · intro w' hSw; have q3 := (hSw.cell (p := ⟨gl, ofl + j * 2, none⟩) hgl).trans l0; have q4 := (hSw.cell (p := ⟨g4, of4 + k, none⟩) hg4).trans xp4; go_simp; try with_reducible rfl
      try simp only [Act.put, List.setIfInBounds_toArray, List.set_cons_zero, List.set_cons_succ]
      refine wpAnyF_take (i := 1) (oi := { dst := some 46, op := Go.Op.move (Go.Operand.tmp 4), type := 26, pos := "ref.go:110", after := #[], guard := none }) (v := ?_) rfl (by kernel_rfl) (by kernel_rfl) (by kernel_rfl) (by kernel_rfl) (fun _ _ _ h => h) (Or.inl ⟨by rfl, ?_⟩) hS ?_
      rotate_left
      · intro w' hSw; have q3 := (hSw.cell (p := ⟨gl, ofl + j * 2, none⟩) hgl).trans l0; have q4 := (hSw.cell (p := ⟨g4, of4 + k, none⟩) hg4).trans xp4; go_simp; try with_reducible rfl
      try simp only [Act.put, List.setIfInBounds_toArray, List.set_cons_zero, List.set_cons_succ]
      refine wpAnyF_take (i := 2) (oi := { dst := some 47, op := Go.Op.move (Go.Operand.tmp 16), type := 3, pos := "ref.go:110", after := #[], guard := none }) (v := ?_) rfl (by kernel_rfl) (by kernel_rfl) (by kernel_rfl) (by kernel_rfl) (fun _ _ _ h => h) (Or.inl ⟨by rfl, ?_⟩) hS ?_
      rotate_left
      · intro w' hSw; have q3 := (hSw.cell (p := ⟨gl, ofl + j * 2, none⟩) hgl).trans l0; have q4 := (hSw.cell (p := ⟨g4, of4 + k, none⟩) hg4).trans xp4; go_simp; try with_reducible rfl
      try simp only [Act.put, List.setIfInBounds_toArray, List.set_cons_zero, List.set_cons_succ]
      refine wpAnyF_take (i := 3) (oi := { dst := some 48, op := Go.Op.indexAddr 26 (Go.Operand.tmp 46) (Go.Operand.tmp 47), type := 0, pos := "ref.go:110", after := #[{ on := 1, ground := Go.Ground.data }, { on := 2, ground := Go.Ground.data }], guard := none }) (v := ?_) rfl (by kernel_rfl) (by kernel_rfl) (by kernel_rfl) (by kernel_rfl) (fun _ _ _ h => h) (Or.inl ⟨by rfl, ?_⟩) hS ?_
      rotate_left
      · intro w' hSw; have q3 := (hSw.cell (p := ⟨gl, ofl + j * 2, none⟩) hgl).trans l0; have q4 := (hSw.cell (p := ⟨g4, of4 + k, none⟩) hg4).trans xp4; go_simp; try with_reducible rfl
      try simp only [Act.put, List.setIfInBounds_toArray, List.set_cons_zero, List.set_cons_succ]
      refine wpAnyF_take (i := 4) (oi := { dst := some 49, op := Go.Op.fieldAddr 53 (Go.Operand.tmp 48) 0, type := 0, pos := "ref.go:110", after := #[{ on := 3, ground := Go.Ground.data }], guard := none }) (v := ?_) rfl (by kernel_rfl) (by kernel_rfl) (by kernel_rfl) (by kernel_rfl) (fun _ _ _ h => h) (Or.inl ⟨by rfl, ?_⟩) hS ?_
      rotate_left
      · intro w' hSw; have q3 := (hSw.cell (p := ⟨gl, ofl + j * 2, none⟩) hgl).trans l0; have q4 := (hSw.cell (p := ⟨g4, of4 + k, none⟩) hg4).trans xp4; go_simp; try with_reducible rfl
      try simp only [Act.put, List.setIfInBounds_toArray, List.set_cons_zero, List.set_cons_succ]
      refine wpAnyF_take (i := 5) (oi := { dst := some 50, op := Go.Op.load 51 (Go.Operand.tmp 49), type := 51, pos := "ref.go:110", after := #[{ on := 4, ground := Go.Ground.data }], guard := none }) (v := ?_) rfl (by kernel_rfl) (by kernel_rfl) (by kernel_rfl) (by kernel_rfl) (fun _ _ _ h => h) (Or.inl ⟨by rfl, ?_⟩) hS ?_
      rotate_left
      · intro w' hSw; have q3 := (hSw.cell (p := ⟨gl, ofl + j * 2, none⟩) hgl).trans l0; have q4 := (hSw.cell (p := ⟨g4, of4 + k, none⟩) hg4).trans xp4; go_simp; try with_reducible rfl
      try simp only [Act.put, List.setIfInBounds_toArray, List.set_cons_zero, List.set_cons_succ]
      refine wpAnyF_take (i := 6) (oi := { dst := some 51, op := Go.Op.move (Go.Operand.tmp 15), type := 37, pos := "ref.go:110", after := #[], guard := none }) (v := ?_) rfl (by kernel_rfl) (by kernel_rfl) (by kernel_rfl) (by kernel_rfl) (fun _ _ _ h => h) (Or.inl ⟨by rfl, ?_⟩) hS ?_
      rotate_left
      · intro w' hSw; have q3 := (hSw.cell (p := ⟨gl, ofl + j * 2, none⟩) hgl).trans l0; have q4 := (hSw.cell (p := ⟨g4, of4 + k, none⟩) hg4).trans xp4; go_simp; try with_reducible rfl
      try simp only [Act.put, List.setIfInBounds_toArray, List.set_cons_zero, List.set_cons_succ]
      refine wpAnyF_take (i := 7) (oi := { dst := some 52, op := Go.Op.move (Go.Operand.tmp 1), type := 3, pos := "ref.go:110", after := #[], guard := none }) (v := ?_) rfl (by kernel_rfl) (by kernel_rfl) (by kernel_rfl) (by kernel_rfl) (fun _ _ _ h => h) (Or.inl ⟨by rfl, ?_⟩) hS ?_
      rotate_left
      · intro w' hSw; have q3 := (hSw.cell (p := ⟨gl, ofl + j * 2, none⟩) hgl).trans l0; have q4 := (hSw.cell (p := ⟨g4, of4 + k, none⟩) hg4).trans xp4; go_simp; try with_reducible rfl
      try simp only [Act.put, List.setIfInBounds_toArray, List.set_cons_zero, List.set_cons_succ]
      refine wpAnyF_take (i := 8) (oi := { dst := some 53, op := Go.Op.indexAddr 37 (Go.Operand.tmp 51) (Go.Operand.tmp 52), type := 0, pos := "ref.go:110", after := #[{ on := 6, ground := Go.Ground.data }, { on := 7, ground := Go.Ground.data }], guard := none }) (v := ?_) rfl (by kernel_rfl) (by kernel_rfl) (by kernel_rfl) (by kernel_rfl) (fun _ _ _ h => h) (Or.inl ⟨by rfl, ?_⟩) hS ?_
      rotate_left
      · intro w' hSw; have q3 := (hSw.cell (p := ⟨gl, ofl + j * 2, none⟩) hgl).trans l0; have q4 := (hSw.cell (p := ⟨g4, of4 + k, none⟩) hg4).trans xp4; go_simp; try with_reducible rfl
      try simp only [Act.put, List.setIfInBounds_toArray, List.set_cons_zero, List.set_cons_succ]
      refine wpAnyF_take (i := 9) (oi := { dst := some 54, op := Go.Op.load 2 (Go.Operand.tmp 53), type := 2, pos := "ref.go:110", after := #[{ on := 8, ground := Go.Ground.data }], guard := none }) (v := ?_) rfl (by kernel_rfl) (by kernel_rfl) (by kernel_rfl) (by kernel_rfl) (fun _ _ _ h => h) (Or.inl ⟨by rfl, ?_⟩) hS ?_
      rotate_left
      · intro w' hSw; have q3 := (hSw.cell (p := ⟨gl, ofl + j * 2, none⟩) hgl).trans l0; have q4 := (hSw.cell (p := ⟨g4, of4 + k, none⟩) hg4).trans xp4; go_simp; try with_reducible rfl
      try simp only [Act.put, List.setIfInBounds_toArray, List.set_cons_zero, List.set_cons_succ]
      refine wpAnyF_ready (rs := [10]) (by kernel_rfl) (by simp) ?_
      refine AllReadyF.cons (o := { dst := some 55, op := Go.Op.call { callee := Go.Callee.value (Go.Operand.func 40), args := #[Go.Operand.tmp 45, Go.Operand.tmp 50, Go.Operand.tmp 54], argTypes := #[26, 51, 2] }, type := 2, pos := "ref.go:110", after := #[{ on := 0, ground := Go.Ground.data }, { on := 5, ground := Go.Ground.data }, { on := 9, ground := Go.Ground.data }], guard := none }) rfl (by rfl) (fun K hK => ?_) ?_
      · go_simp
        refine (refGain_any tr og hwo.1 p _ Rt _ ((HT.out.grow HBB3.out).grow (Below.refl _ _).drew)).mono ?_
        rintro e w5 ⟨rfl, hb5⟩
        rw [← HGV.out]
        refine hK.out _ _ ?_ (fun hS => ?_)
        · exact (Below.refl w3.heap.size w3).drew.trans (hb5.mono (by simp))
        clear hK K
        try simp only [Act.put, List.setIfInBounds_toArray, List.set_cons_zero, List.set_cons_succ]
        have HB5 := Lib.hid hb5
        have hs5 := hb5.size
        clear hb5
        refine wpAnyF_take (i := 11) (oi := { dst := some 10, op := Go.Op.assign (Go.Operand.tmp 55), type := 2, pos := "ref.go:110", after := #[{ on := 10, ground := Go.Ground.data }, { on := 10, ground := Go.Ground.chain }, { on := 0, ground := Go.Ground.phase }, { on := 1, ground := Go.Ground.phase }, { on := 2, ground := Go.Ground.phase }, { on := 3, ground := Go.Ground.phase }, { on := 4, ground := Go.Ground.phase }, { on := 5, ground := Go.Ground.phase }, { on := 6, ground := Go.Ground.phase }, { on := 7, ground := Go.Ground.phase }, { on := 8, ground := Go.Ground.phase }, { on := 9, ground := Go.Ground.phase }, { on := 10, ground := Go.Ground.phase }], guard := none }) (v := ?_) rfl (by kernel_rfl) (by kernel_rfl) (by kernel_rfl) (by kernel_rfl) (fun _ _ _ h => h) (Or.inl ⟨by rfl, ?_⟩) hS ?_
        rotate_left
        · intro w' hSw; have q3 := (hSw.cell (p := ⟨gl, ofl + j * 2, none⟩) hgl).trans l0; have q4 := (hSw.cell (p := ⟨g4, of4 + k, none⟩) hg4).trans xp4; go_simp; try with_reducible rfl
        try simp only [Act.put, List.setIfInBounds_toArray, List.set_cons_zero, List.set_cons_succ]
        refine wpAnyF_done (by kernel_rfl) ?_ _
        go_wp2_with fail
        go_ret
        exact ⟨by rw [HAN2.out, ← HGV.out]; rfl, HBB3.out.drew.trans (HB5.out.mono (by have := HBB3.out.size; simp; omega))⟩
      exact AllReadyF.nil
end Go.Proofs.YtcigobiolbojhaaGreat.Vb

/- gavelref29.Wrong, Package. -/
namespace Go.Proofs.YtcigobiolbojhaaGreat.Vb
open Go.RowKit

set_option maxRecDepth 100000 in
set_option maxHeartbeats 3200000 in
theorem refWrong_any (n : Int) (bs : List (List Off)) (buyer r : Int) (tr : List Off) (ts : List (List Off)) (v vt vs : Value) (R Rt Rs : Nat → Prop) (w : World) (hl : Buys w R v bs) (ht : Offs w Rt vt tr) (hs : Buys w Rs vs ts)
    (hts : ts.length ≤ 1000000) (hb : -9223372036854775808 ≤ buyer ∧ buyer ≤ 9223372036854775807) (hr : -9223372036854775808 ≤ r ∧ r ≤ 9223372036854775807) :
    Calls Tryz.prog 22 #[.agg #[.int .i64 n, v], .int .i64 buyer, .int .i64 r, vt, vs] w fun e w' => e = .returned (.int .i64 (askedE n bs buyer r (tr :: ts))) ∧ Below w.heap.size w w' := by
  obtain ⟨_, ⟨_, A, cap, rfl, _, hcm, _⟩, _⟩ := id hl
  obtain ⟨⟨_, At, capt, rfl, _⟩, _⟩ := id ht
  obtain ⟨vts, ⟨hvl, As, caps, rfl, hsl1, hsl2, hsl3⟩, hvs⟩ := id hs
  have HSL := Lib.hid (show Sl w Rs (.slice As ts.length caps) ts.length 1 vts from ⟨hvl, As, caps, rfl, hsl1, hsl2, hsl3⟩)
  have HVS := Lib.hid hvs
  clear hsl1 hsl2 hsl3 hvs
  have HBS := Lib.hid hl
  have HT := Lib.hid ht
  have HS := Lib.hid hs
  unfold maxLen at hcm
  clear hl ht hs
  have hie := instE_bd n bs
  have hck := checkE_bd n tr
  obtain ⟨ans, hans⟩ : ∃ a, a = askedE n bs buyer r (tr :: ts) := ⟨_, rfl⟩
  rw [← hans]
  have HAN := Lib.hid hans
  obtain ⟨ie, hiee⟩ : ∃ z, z = instE n bs := ⟨_, rfl⟩
  rw [← hiee] at hie
  have HIE := Lib.hid hiee
  obtain ⟨ck, hcke⟩ : ∃ z, z = checkE n tr := ⟨_, rfl⟩
  rw [← hcke] at hck
  have HCK := Lib.hid hcke
  clear hans hiee hcke
  go_enter Tryz.func22, Tryz.ntmps22
  go_wp2_with fail
  refine (refInstance_any n bs _ R (w.alloc (.cells #[.int .i64 n, .slice A bs.length cap] 24)) (HBS.out.alloc _)).mono ?_
  rintro e w1 ⟨rfl, hb1⟩
  rw [← HIE.out]
  have hx := (Blk.new w 24 #[.int .i64 n, .slice A bs.length cap]).grow hb1
  have x0 : w1.cell? ⟨w.heap.size, 0, none⟩ = some (.int .i64 n) := hx.cell 0
  have x1 : w1.cell? ⟨w.heap.size, 1, none⟩ = some (.slice A bs.length cap) := hx.cell 1
  have HX := Lib.hid hx
  have HB1 := Lib.hid (((Below.refl w.heap.size w).alloc (Nat.le_refl _) (.cells #[.int .i64 n, .slice A bs.length cap] 24)).trans (hb1.mono (by simp)))
  clear hx hb1
  by_cases hz : ie = 0
  · subst hz
    have HAN1 := Lib.hid (show ans = if buyer < 0 ∨ (bs.length : Int) ≤ buyer ∨ ¬(r = 1 ∨ r = 2) then 2 else firstE n (tr :: ts) from by rw [HAN.out]; unfold askedE; rw [← HIE.out, if_neg (by simp)])
    by_cases hb0 : buyer < 0
    · have HA := Lib.hid (show ans = 2 from by rw [HAN1.out, if_pos (.inl hb0)])
      go_wp2_with fail
      go_ret
      exact ⟨by rw [HA.out]; rfl, HB1.out⟩
    by_cases hb2 : (bs.length : Int) ≤ buyer
    · have HA := Lib.hid (show ans = 2 from by rw [HAN1.out, if_pos (.inr (.inl hb2))])
      go_wp2_with fail
      go_ret
      exact ⟨by rw [HA.out]; rfl, HB1.out⟩
    by_cases hr1 : r < 1
    · have HA := Lib.hid (show ans = 2 from by rw [HAN1.out, if_pos (.inr (.inr (by omega)))])
      go_wp2_with fail
      go_ret
      exact ⟨by rw [HA.out]; rfl, HB1.out⟩
    by_cases hr2 : 2 < r
    · have HA := Lib.hid (show ans = 2 from by rw [HAN1.out, if_pos (.inr (.inr (by omega)))])
      go_wp2_with fail
      go_ret
      exact ⟨by rw [HA.out]; rfl, HB1.out⟩
    have HAN2 := Lib.hid (show ans = firstE n (tr :: ts) from by rw [HAN1.out, if_neg (by omega)])
    go_wp2_with fail
    refine (refCheck_any n tr _ Rt w1 (HT.out.grow HB1.out)).mono ?_
    rintro e w2 ⟨rfl, hb2'⟩
    rw [← HCK.out]
    have hx2 := HX.out.grow hb2'
    have HX2 := Lib.hid hx2
    have HB2 := Lib.hid (HB1.out.trans (hb2'.mono HB1.out.size))
    clear hx2 hb2' x0 x1 HX
    by_cases hz2 : ck = 0
    · subst hz2
      go_wp2_with fail
      go_loopw [13, 14] (fun f i wr => ∃ k : Nat, k ≤ ts.length ∧ i = .int .i64 k ∧ f = .int .i64 0 ∧ (∀ (j : Nat) (x : List Off), j < k → ts[j]? = some x → checkE n x = 0) ∧ Below w2.heap.size w2 wr) (fun _ i _ => ts.length - (intOf i).toNat)
      case atStart => exact ⟨0, Nat.zero_le _, rfl, rfl, fun j x h => absurd h (by omega), Below.refl _ _⟩
      case round =>
        obtain ⟨k, hk, rfl, rfl, hnone, hbr⟩ := hrel
        have HN := Lib.hid hnone
        have HBR := Lib.hid hbr
        have HBW := Lib.hid (HB2.out.trans (hbr.mono HB2.out.size))
        by_cases hlt : k < ts.length
        · obtain ⟨l, hlk⟩ : ∃ l, ts[k]? = some l := ⟨_, List.getElem?_eq_getElem hlt⟩
          obtain ⟨bq, of, u, rfl, hbq, hcu, hou⟩ := (HS.out.grow HBW.out).at_ hlk
          obtain ⟨⟨_, Au, cu, rfl, _⟩, _⟩ := id hou
          have x0 : wr.cell? ⟨w.heap.size, 0, none⟩ = some (.int .i64 n) := (HX2.out.grow hbr).cell 0
          have hx0 := World.block_lt_of_cell? _ _ x0
          have hck2 := checkE_bd n l
          obtain ⟨c2, hc2⟩ : ∃ z, z = checkE n l := ⟨_, rfl⟩
          rw [← hc2] at hck2
          have HC2 := Lib.hid hc2
          have HOU := Lib.hid hou
          have HLK := Lib.hid hlk
          have e0 : (0 : Int) ≤ (k : Int) := by omega
          have e1 : (k : Int) < (ts.length : Int) := by omega
          clear hnone hbr hlk hou hc2
          go_wp2_with fail
          refine wp_region_F (Below wr.heap.size wr) [] (by kernel_rfl) ((Below.refl _ _).drew) (fun hS => ?_)
          refine wpAnyF_take (i := 0) (oi := { dst := some 54, op := Go.Op.fieldAddr 24 (Go.Operand.tmp 5) 0, type := 0, pos := "ref.go:127", after := #[], guard := none }) (v := ?_) rfl (by kernel_rfl) (by kernel_rfl) (by kernel_rfl) (by kernel_rfl) (fun _ _ _ h => h) (Or.inl ⟨by rfl, ?_⟩) hS ?_
          rotate_left
          · intro w' hSw; have q1 := (hSw.cell (p := ⟨w.heap.size, 0, none⟩) hx0).trans x0; have q2 := (hSw.cell (p := ⟨bq, of + k, none⟩) hbq).trans hcu; go_simp; try with_reducible rfl
          try simp only [Act.put, List.setIfInBounds_toArray, List.set_cons_zero, List.set_cons_succ]
          refine wpAnyF_take (i := 1) (oi := { dst := some 55, op := Go.Op.load 3 (Go.Operand.tmp 54), type := 3, pos := "ref.go:127", after := #[{ on := 0, ground := Go.Ground.data }], guard := none }) (v := ?_) rfl (by kernel_rfl) (by kernel_rfl) (by kernel_rfl) (by kernel_rfl) (fun _ _ _ h => h) (Or.inl ⟨by rfl, ?_⟩) hS ?_
          rotate_left
          · intro w' hSw; have q1 := (hSw.cell (p := ⟨w.heap.size, 0, none⟩) hx0).trans x0; have q2 := (hSw.cell (p := ⟨bq, of + k, none⟩) hbq).trans hcu; go_simp; try with_reducible rfl
          try simp only [Act.put, List.setIfInBounds_toArray, List.set_cons_zero, List.set_cons_succ]
          refine wpAnyF_take (i := 2) (oi := { dst := some 56, op := Go.Op.move (Go.Operand.tmp 4), type := 22, pos := "ref.go:127", after := #[], guard := none }) (v := ?_) rfl (by kernel_rfl) (by kernel_rfl) (by kernel_rfl) (by kernel_rfl) (fun _ _ _ h => h) (Or.inl ⟨by rfl, ?_⟩) hS ?_
          rotate_left
          · intro w' hSw; have q1 := (hSw.cell (p := ⟨w.heap.size, 0, none⟩) hx0).trans x0; have q2 := (hSw.cell (p := ⟨bq, of + k, none⟩) hbq).trans hcu; go_simp; try with_reducible rfl
          try simp only [Act.put, List.setIfInBounds_toArray, List.set_cons_zero, List.set_cons_succ]
          refine wpAnyF_take (i := 3) (oi := { dst := some 57, op := Go.Op.move (Go.Operand.tmp 14), type := 3, pos := "ref.go:127", after := #[], guard := none }) (v := ?_) rfl (by kernel_rfl) (by kernel_rfl) (by kernel_rfl) (by kernel_rfl) (fun _ _ _ h => h) (Or.inl ⟨by rfl, ?_⟩) hS ?_
          rotate_left
          · intro w' hSw; have q1 := (hSw.cell (p := ⟨w.heap.size, 0, none⟩) hx0).trans x0; have q2 := (hSw.cell (p := ⟨bq, of + k, none⟩) hbq).trans hcu; go_simp; try with_reducible rfl
          try simp only [Act.put, List.setIfInBounds_toArray, List.set_cons_zero, List.set_cons_succ]
          refine wpAnyF_take (i := 4) (oi := { dst := some 58, op := Go.Op.indexAddr 22 (Go.Operand.tmp 56) (Go.Operand.tmp 57), type := 0, pos := "ref.go:127", after := #[{ on := 2, ground := Go.Ground.data }, { on := 3, ground := Go.Ground.data }], guard := none }) (v := ?_) rfl (by kernel_rfl) (by kernel_rfl) (by kernel_rfl) (by kernel_rfl) (fun _ _ _ h => h) (Or.inl ⟨by rfl, ?_⟩) hS ?_
          rotate_left
          · intro w' hSw; have q1 := (hSw.cell (p := ⟨w.heap.size, 0, none⟩) hx0).trans x0; have q2 := (hSw.cell (p := ⟨bq, of + k, none⟩) hbq).trans hcu; go_simp; try with_reducible rfl
          try simp only [Act.put, List.setIfInBounds_toArray, List.set_cons_zero, List.set_cons_succ]
          refine wpAnyF_take (i := 5) (oi := { dst := some 59, op := Go.Op.load 26 (Go.Operand.tmp 58), type := 26, pos := "ref.go:127", after := #[{ on := 4, ground := Go.Ground.data }], guard := none }) (v := ?_) rfl (by kernel_rfl) (by kernel_rfl) (by kernel_rfl) (by kernel_rfl) (fun _ _ _ h => h) (Or.inl ⟨by rfl, ?_⟩) hS ?_
          rotate_left
          · intro w' hSw; have q1 := (hSw.cell (p := ⟨w.heap.size, 0, none⟩) hx0).trans x0; have q2 := (hSw.cell (p := ⟨bq, of + k, none⟩) hbq).trans hcu; go_simp; try with_reducible rfl
          try simp only [Act.put, List.setIfInBounds_toArray, List.set_cons_zero, List.set_cons_succ]
          refine wpAnyF_ready (rs := [6]) (by kernel_rfl) (by simp) ?_
          refine AllReadyF.cons (o := { dst := some 60, op := Go.Op.call { callee := Go.Callee.value (Go.Operand.func 36), args := #[Go.Operand.tmp 55, Go.Operand.tmp 59], argTypes := #[3, 26] }, type := 87, pos := "ref.go:127", after := #[{ on := 1, ground := Go.Ground.data }, { on := 5, ground := Go.Ground.data }], guard := none }) rfl (by rfl) (fun K hK => ?_) ?_
          · go_simp
            refine (refCheck_any n l _ _ _ (HOU.out.grow (Below.refl _ _).drew)).mono ?_
            rintro e w3 ⟨rfl, hb3⟩
            rw [← HC2.out]
            refine hK.out _ _ ?_ (fun hS => ?_)
            · exact (Below.refl wr.heap.size wr).drew.trans (hb3.mono (by simp))
            clear hK K
            try simp only [Act.put, List.setIfInBounds_toArray, List.set_cons_zero, List.set_cons_succ]
            have HB3 := Lib.hid ((Below.refl wr.heap.size wr).drew.trans (hb3.mono (by simp)))
            clear hb3
            refine wpAnyF_take (i := 7) (oi := { dst := some 53, op := Go.Op.move (Go.Operand.tmp 60), type := 87, pos := "ref.go:127", after := #[{ on := 6, ground := Go.Ground.data }], guard := none }) (v := ?_) rfl (by kernel_rfl) (by kernel_rfl) (by kernel_rfl) (by kernel_rfl) (fun _ _ _ h => h) (Or.inl ⟨by rfl, ?_⟩) hS ?_
            rotate_left
            · intro w' hSw; have q1 := (hSw.cell (p := ⟨w.heap.size, 0, none⟩) hx0).trans x0; have q2 := (hSw.cell (p := ⟨bq, of + k, none⟩) hbq).trans hcu; go_simp; try with_reducible rfl
            try simp only [Act.put, List.setIfInBounds_toArray, List.set_cons_zero, List.set_cons_succ]
            refine wpAnyF_take (i := 8) (oi := { dst := some 61, op := Go.Op.extract (Go.Operand.tmp 53) 0, type := 3, pos := "ref.go:127", after := #[{ on := 7, ground := Go.Ground.data }], guard := none }) (v := ?_) rfl (by kernel_rfl) (by kernel_rfl) (by kernel_rfl) (by kernel_rfl) (fun _ _ _ h => h) (Or.inl ⟨by rfl, ?_⟩) hS ?_
            rotate_left
            · intro w' hSw; have q1 := (hSw.cell (p := ⟨w.heap.size, 0, none⟩) hx0).trans x0; have q2 := (hSw.cell (p := ⟨bq, of + k, none⟩) hbq).trans hcu; go_simp; try with_reducible rfl
            try simp only [Act.put, List.setIfInBounds_toArray, List.set_cons_zero, List.set_cons_succ]
            refine wpAnyF_take (i := 9) (oi := { dst := some 62, op := Go.Op.extract (Go.Operand.tmp 53) 1, type := 3, pos := "ref.go:127", after := #[{ on := 7, ground := Go.Ground.data }], guard := none }) (v := ?_) rfl (by kernel_rfl) (by kernel_rfl) (by kernel_rfl) (by kernel_rfl) (fun _ _ _ h => h) (Or.inl ⟨by rfl, ?_⟩) hS ?_
            rotate_left
            · intro w' hSw; have q1 := (hSw.cell (p := ⟨w.heap.size, 0, none⟩) hx0).trans x0; have q2 := (hSw.cell (p := ⟨bq, of + k, none⟩) hbq).trans hcu; go_simp; try with_reducible rfl
            try simp only [Act.put, List.setIfInBounds_toArray, List.set_cons_zero, List.set_cons_succ]
            refine wpAnyF_take (i := 10) (oi := { dst := some 13, op := Go.Op.assign (Go.Operand.tmp 62), type := 3, pos := "ref.go:127", after := #[{ on := 9, ground := Go.Ground.data }, { on := 6, ground := Go.Ground.chain }, { on := 0, ground := Go.Ground.phase }, { on := 1, ground := Go.Ground.phase }, { on := 2, ground := Go.Ground.phase }, { on := 3, ground := Go.Ground.phase }, { on := 4, ground := Go.Ground.phase }, { on := 5, ground := Go.Ground.phase }, { on := 6, ground := Go.Ground.phase }, { on := 7, ground := Go.Ground.phase }, { on := 8, ground := Go.Ground.phase }, { on := 9, ground := Go.Ground.phase }], guard := none }) (v := ?_) rfl (by kernel_rfl) (by kernel_rfl) (by kernel_rfl) (by kernel_rfl) (fun _ _ _ h => h) (Or.inl ⟨by rfl, ?_⟩) hS ?_
            rotate_left
            · intro w' hSw; have q1 := (hSw.cell (p := ⟨w.heap.size, 0, none⟩) hx0).trans x0; have q2 := (hSw.cell (p := ⟨bq, of + k, none⟩) hbq).trans hcu; go_simp; try with_reducible rfl
            try simp only [Act.put, List.setIfInBounds_toArray, List.set_cons_zero, List.set_cons_succ]
            refine wpAnyF_done (by kernel_rfl) ?_ _
            clear hS
            by_cases hz3 : c2 = 0
            · subst hz3
              go_wp2_with fail
              go_roundw
              case rel =>
                refine ⟨k + 1, by omega, by go_num, rfl, fun j x hj hx => ?_, HBR.out.trans (HB3.out.mono HBR.out.size)⟩
                rcases Nat.lt_or_ge j k with h | h
                · exact HN.out j x h hx
                · obtain rfl : j = k := by omega
                  rw [HLK.out] at hx
                  injection hx with hx
                  rw [← hx]
                  exact HC2.out.symm
              case measure => simp [intOf]; omega
            · have hz3b : (c2 != 0) = true := by simpa using hz3
              have HA := Lib.hid (show ans = c2 from by
                rw [HAN2.out]
                have h1 : firstE n (tr :: ts) = firstE n ts := by simp [firstE, ← HCK.out]
                rw [h1, HC2.out]
                exact firstE_at HLK.out (by rw [← HC2.out]; exact hz3) HN.out)
              go_wp2_with fail
              go_ret
              exact ⟨by rw [HA.out]; rfl, HBW.out.trans (HB3.out.mono HBW.out.size)⟩
          exact AllReadyF.nil
        · obtain rfl : k = ts.length := by omega
          have HA := Lib.hid (show ans = 0 from by
            rw [HAN2.out]
            refine firstE_none fun l hl => ?_
            rcases List.mem_cons.1 hl with rfl | h
            · exact HCK.out.symm
            · obtain ⟨j, hj⟩ := List.mem_iff_getElem?.1 h
              exact HN.out j l (List.getElem?_eq_some_iff.1 hj).1 hj)
          clear hnone hbr
          go_wp2_with fail
          go_ret
          exact ⟨by rw [HA.out]; rfl, HBW.out⟩
    · have hz2b : (ck != 0) = true := by simpa using hz2
      have HA := Lib.hid (show ans = ck from by rw [HAN2.out]; simp [firstE, ← HCK.out, hz2])
      go_wp2_with fail
      go_ret
      exact ⟨by rw [HA.out]; rfl, HB2.out⟩
  · have hzb : (ie != 0) = true := by simpa using hz
    have HA := Lib.hid (show ans = ie from by rw [HAN.out]; unfold askedE; rw [← HIE.out, if_pos hz])
    go_wp2_with fail
    go_ret
    exact ⟨by rw [HA.out]; rfl, HB1.out⟩

set_option maxRecDepth 100000 in
set_option maxHeartbeats 3200000 in
theorem refPackage_any (n : Int) (bs : List (List Off)) (buyer r : Int) (tr ot : List Off) (v vt vo : Value) (R Rt Ro : Nat → Prop) (w : World) (hl : Buys w R v bs) (ht : Offs w Rt vt tr) (ho : Offs w Ro vo ot)
    (hb : -9223372036854775808 ≤ buyer ∧ buyer ≤ 9223372036854775807) (hr : -9223372036854775808 ≤ r ∧ r ≤ 9223372036854775807) :
    Calls Tryz.prog 14 #[.agg #[.int .i64 n, v], .int .i64 buyer, .int .i64 r, vt, vo] w fun e w' => e = .returned (packV n bs buyer r tr ot) ∧ Below w.heap.size w w' := by
  obtain ⟨_, ⟨_, A, cap, rfl, _⟩, _⟩ := id hl
  obtain ⟨⟨_, At, capt, rfl, _⟩, _⟩ := id ht
  obtain ⟨⟨_, Ao, capo, rfl, _⟩, _⟩ := id ho
  have HB := Lib.hid hl
  have HT := Lib.hid ht
  have HO := Lib.hid ho
  clear hl ht ho
  have hbd := askedE_bd n bs buyer r [tr, ot]
  obtain ⟨z, hz⟩ : ∃ z, z = askedE n bs buyer r [tr, ot] := ⟨_, rfl⟩
  obtain ⟨ans, hans⟩ : ∃ a, a = packV n bs buyer r tr ot := ⟨_, rfl⟩
  rw [← hans]
  have HANS := Lib.hid hans
  rw [← hz] at hbd
  have HZ := Lib.hid hz
  clear hz hans
  go_enter Tryz.func14, Tryz.ntmps14
  go_wp2_with fail
  have hone := Buys.one (HO.out.alloc (.cells #[.int .i64 n, .slice A bs.length cap] 24)) 26
  rw [World.size_alloc] at hone
  refine (refWrong_any n bs buyer r tr [ot] _ _ _ R Rt (fun _ => True) ((w.alloc (.cells #[.int .i64 n, .slice A bs.length cap] 24)).alloc (.cells #[.slice Ao ot.length capo] 26)) ((HB.out.alloc _).alloc _) ((HT.out.alloc _).alloc _) hone (by simp) hb hr).mono ?_
  clear hone
  rintro e w1 ⟨rfl, hb1⟩
  rw [← HZ.out]
  have hx := ((Blk.new w 24 #[.int .i64 n, .slice A bs.length cap]).alloc (.cells #[.slice Ao ot.length capo] 26)).grow hb1
  have x0 : w1.cell? ⟨w.heap.size, 0, none⟩ = some (.int .i64 n) := hx.cell 0
  have x1 : w1.cell? ⟨w.heap.size, 1, none⟩ = some (.slice A bs.length cap) := hx.cell 1
  have hxs := World.block_lt_of_cell? _ _ x0
  have HB1 := Lib.hid ((((Below.refl w.heap.size w).alloc (Nat.le_refl _) (.cells #[.int .i64 n, .slice A bs.length cap] 24)).alloc (by simp) (.cells #[.slice Ao ot.length capo] 26)).trans (hb1.mono (by simp; omega)))
  clear hb1 hx
  by_cases h0 : z = 0
  · subst h0
    obtain ⟨h1, h2, h3, h4, h5⟩ := askedE_zero HZ.out.symm
    obtain ⟨k, hbk⟩ : ∃ k : Nat, buyer = (k : Int) := ⟨buyer.toNat, by omega⟩
    subst hbk
    have hk : k < bs.length := by omega
    have HI := Lib.hid h1
    have HR := Lib.hid h4
    have HCT := Lib.hid (h5 tr (by simp))
    have HCO := Lib.hid (h5 ot (by simp))
    obtain ⟨ga, hga⟩ : ∃ z, z = byV n bs k r tr tr := ⟨_, rfl⟩
    obtain ⟨gb, hgb⟩ : ∃ z, z = byV n bs k r tr ot := ⟨_, rfl⟩
    have HAN := Lib.hid (show ans = .tuple #[.int .i64 ga, .int .i64 gb, .int .i64 0] from by rw [HANS.out]; unfold packV; rw [← HZ.out, if_pos rfl, Int.toNat_natCast, hga, hgb])
    have HGA := Lib.hid hga
    have HGB := Lib.hid hgb
    have HP0 : Below w1.heap.size w1 w1.drew := (Below.refl _ _).drew
    clear h1 h2 h3 h4 h5 hbd hga hgb
    go_wp2_with fail
    refine wp_region_F (Below w1.heap.size w1) [] (by kernel_rfl) ((Below.refl _ _).drew) (fun hS => ?_)
    obtain ⟨V0, hV⟩ : ∃ V, V = w1.drew := ⟨_, rfl⟩
    rw [← hV] at hS HP0 ⊢
    replace HP0 := Lib.hid HP0
    clear hV
    refine wpAnyF_take (i := 0) (oi := { dst := some 24, op := Go.Op.load 24 (Go.Operand.tmp 5), type := 24, pos := "ref.go:141", after := #[], guard := none }) (v := ?_) rfl (by kernel_rfl) (by kernel_rfl) (by kernel_rfl) (by kernel_rfl) (fun _ _ _ h => h) (Or.inl ⟨by rfl, ?_⟩) hS ?_
    rotate_left
    · intro w' hSw; have q1 := (hSw.cell (p := ⟨w.heap.size, 0, none⟩) hxs).trans x0; have q2 := (hSw.cell (p := ⟨w.heap.size, 1, none⟩) hxs).trans x1; go_simp; try with_reducible rfl
    try simp only [Act.put, List.setIfInBounds_toArray, List.set_cons_zero, List.set_cons_succ]
    refine wpAnyF_take (i := 1) (oi := { dst := some 25, op := Go.Op.move (Go.Operand.tmp 1), type := 3, pos := "ref.go:141", after := #[], guard := none }) (v := ?_) rfl (by kernel_rfl) (by kernel_rfl) (by kernel_rfl) (by kernel_rfl) (fun _ _ _ h => h) (Or.inl ⟨by rfl, ?_⟩) hS ?_
    rotate_left
    · intro w' hSw; have q1 := (hSw.cell (p := ⟨w.heap.size, 0, none⟩) hxs).trans x0; have q2 := (hSw.cell (p := ⟨w.heap.size, 1, none⟩) hxs).trans x1; go_simp; try with_reducible rfl
    try simp only [Act.put, List.setIfInBounds_toArray, List.set_cons_zero, List.set_cons_succ]
    refine wpAnyF_take (i := 2) (oi := { dst := some 26, op := Go.Op.move (Go.Operand.tmp 2), type := 3, pos := "ref.go:141", after := #[], guard := none }) (v := ?_) rfl (by kernel_rfl) (by kernel_rfl) (by kernel_rfl) (by kernel_rfl) (fun _ _ _ h => h) (Or.inl ⟨by rfl, ?_⟩) hS ?_
    rotate_left
    · intro w' hSw; have q1 := (hSw.cell (p := ⟨w.heap.size, 0, none⟩) hxs).trans x0; have q2 := (hSw.cell (p := ⟨w.heap.size, 1, none⟩) hxs).trans x1; go_simp; try with_reducible rfl
    try simp only [Act.put, List.setIfInBounds_toArray, List.set_cons_zero, List.set_cons_succ]
    refine wpAnyF_take (i := 3) (oi := { dst := some 27, op := Go.Op.move (Go.Operand.tmp 3), type := 26, pos := "ref.go:141", after := #[], guard := none }) (v := ?_) rfl (by kernel_rfl) (by kernel_rfl) (by kernel_rfl) (by kernel_rfl) (fun _ _ _ h => h) (Or.inl ⟨by rfl, ?_⟩) hS ?_
    rotate_left
    · intro w' hSw; have q1 := (hSw.cell (p := ⟨w.heap.size, 0, none⟩) hxs).trans x0; have q2 := (hSw.cell (p := ⟨w.heap.size, 1, none⟩) hxs).trans x1; go_simp; try with_reducible rfl
    try simp only [Act.put, List.setIfInBounds_toArray, List.set_cons_zero, List.set_cons_succ]
    refine wpAnyF_take (i := 4) (oi := { dst := some 28, op := Go.Op.move (Go.Operand.tmp 3), type := 26, pos := "ref.go:141", after := #[], guard := none }) (v := ?_) rfl (by kernel_rfl) (by kernel_rfl) (by kernel_rfl) (by kernel_rfl) (fun _ _ _ h => h) (Or.inl ⟨by rfl, ?_⟩) hS ?_
    rotate_left
    · intro w' hSw; have q1 := (hSw.cell (p := ⟨w.heap.size, 0, none⟩) hxs).trans x0; have q2 := (hSw.cell (p := ⟨w.heap.size, 1, none⟩) hxs).trans x1; go_simp; try with_reducible rfl
    try simp only [Act.put, List.setIfInBounds_toArray, List.set_cons_zero, List.set_cons_succ]
    refine wpAnyF_take (i := 6) (oi := { dst := some 30, op := Go.Op.load 24 (Go.Operand.tmp 5), type := 24, pos := "ref.go:141", after := #[], guard := none }) (v := ?_) rfl (by kernel_rfl) (by kernel_rfl) (by kernel_rfl) (by kernel_rfl) (fun _ _ _ h => h) (Or.inl ⟨by rfl, ?_⟩) hS ?_
    rotate_left
    · intro w' hSw; have q1 := (hSw.cell (p := ⟨w.heap.size, 0, none⟩) hxs).trans x0; have q2 := (hSw.cell (p := ⟨w.heap.size, 1, none⟩) hxs).trans x1; go_simp; try with_reducible rfl
    try simp only [Act.put, List.setIfInBounds_toArray, List.set_cons_zero, List.set_cons_succ]
    refine wpAnyF_take (i := 7) (oi := { dst := some 31, op := Go.Op.move (Go.Operand.tmp 1), type := 3, pos := "ref.go:141", after := #[], guard := none }) (v := ?_) rfl (by kernel_rfl) (by kernel_rfl) (by kernel_rfl) (by kernel_rfl) (fun _ _ _ h => h) (Or.inl ⟨by rfl, ?_⟩) hS ?_
    rotate_left
    · intro w' hSw; have q1 := (hSw.cell (p := ⟨w.heap.size, 0, none⟩) hxs).trans x0; have q2 := (hSw.cell (p := ⟨w.heap.size, 1, none⟩) hxs).trans x1; go_simp; try with_reducible rfl
    try simp only [Act.put, List.setIfInBounds_toArray, List.set_cons_zero, List.set_cons_succ]
    refine wpAnyF_take (i := 8) (oi := { dst := some 32, op := Go.Op.move (Go.Operand.tmp 2), type := 3, pos := "ref.go:141", after := #[], guard := none }) (v := ?_) rfl (by kernel_rfl) (by kernel_rfl) (by kernel_rfl) (by kernel_rfl) (fun _ _ _ h => h) (Or.inl ⟨by rfl, ?_⟩) hS ?_
    rotate_left
    · intro w' hSw; have q1 := (hSw.cell (p := ⟨w.heap.size, 0, none⟩) hxs).trans x0; have q2 := (hSw.cell (p := ⟨w.heap.size, 1, none⟩) hxs).trans x1; go_simp; try with_reducible rfl
    try simp only [Act.put, List.setIfInBounds_toArray, List.set_cons_zero, List.set_cons_succ]
    refine wpAnyF_take (i := 9) (oi := { dst := some 33, op := Go.Op.move (Go.Operand.tmp 3), type := 26, pos := "ref.go:141", after := #[], guard := none }) (v := ?_) rfl (by kernel_rfl) (by kernel_rfl) (by kernel_rfl) (by kernel_rfl) (fun _ _ _ h => h) (Or.inl ⟨by rfl, ?_⟩) hS ?_
    rotate_left
    · intro w' hSw; have q1 := (hSw.cell (p := ⟨w.heap.size, 0, none⟩) hxs).trans x0; have q2 := (hSw.cell (p := ⟨w.heap.size, 1, none⟩) hxs).trans x1; go_simp; try with_reducible rfl
    try simp only [Act.put, List.setIfInBounds_toArray, List.set_cons_zero, List.set_cons_succ]
    refine wpAnyF_take (i := 10) (oi := { dst := some 34, op := Go.Op.move (Go.Operand.tmp 4), type := 26, pos := "ref.go:141", after := #[], guard := none }) (v := ?_) rfl (by kernel_rfl) (by kernel_rfl) (by kernel_rfl) (by kernel_rfl) (fun _ _ _ h => h) (Or.inl ⟨by rfl, ?_⟩) hS ?_
    rotate_left
    · intro w' hSw; have q1 := (hSw.cell (p := ⟨w.heap.size, 0, none⟩) hxs).trans x0; have q2 := (hSw.cell (p := ⟨w.heap.size, 1, none⟩) hxs).trans x1; go_simp; try with_reducible rfl
    try simp only [Act.put, List.setIfInBounds_toArray, List.set_cons_zero, List.set_cons_succ]
    refine wpAnyF_ready (rs := [5]) (by kernel_rfl) (by simp) ?_
    refine AllReadyF.cons (o := { dst := some 29, op := Go.Op.call { callee := Go.Callee.value (Go.Operand.func 23), args := #[Go.Operand.tmp 24, Go.Operand.tmp 25, Go.Operand.tmp 26, Go.Operand.tmp 27, Go.Operand.tmp 28], argTypes := #[24, 3, 3, 26, 26] }, type := 2, pos := "ref.go:141", after := #[{ on := 0, ground := Go.Ground.data }, { on := 1, ground := Go.Ground.data }, { on := 2, ground := Go.Ground.data }, { on := 3, ground := Go.Ground.data }, { on := 4, ground := Go.Ground.data }], guard := none }) rfl (by rfl) (fun K hK => ?_) ?_
    · go_simp
      refine (refBy_any n bs k r tr tr _ _ _ R Rt Rt V0 (HB.out.grow (HB1.out.trans (HP0.out.mono HB1.out.size))) (HT.out.grow (HB1.out.trans (HP0.out.mono HB1.out.size))) (HT.out.grow (HB1.out.trans (HP0.out.mono HB1.out.size))) HR.out HI.out hk HCT.out).mono ?_
      rintro e V1 ⟨rfl, hb5⟩
      rw [← HGA.out]
      refine hK.out _ _ ?_ (fun hS => ?_)
      · exact HP0.out.trans (hb5.mono HP0.out.size)
      clear hK K
      try simp only [Act.put, List.setIfInBounds_toArray, List.set_cons_zero, List.set_cons_succ]
      have HP1 := Lib.hid (HP0.out.trans (hb5.mono HP0.out.size))
      clear hb5
      refine wpAnyF_ready (rs := [11]) (by kernel_rfl) (by simp) ?_
      refine AllReadyF.cons (o := { dst := some 35, op := Go.Op.call { callee := Go.Callee.value (Go.Operand.func 23), args := #[Go.Operand.tmp 30, Go.Operand.tmp 31, Go.Operand.tmp 32, Go.Operand.tmp 33, Go.Operand.tmp 34], argTypes := #[24, 3, 3, 26, 26] }, type := 2, pos := "ref.go:141", after := #[{ on := 6, ground := Go.Ground.data }, { on := 7, ground := Go.Ground.data }, { on := 8, ground := Go.Ground.data }, { on := 9, ground := Go.Ground.data }, { on := 10, ground := Go.Ground.data }, { on := 5, ground := Go.Ground.chain }], guard := none }) rfl (by rfl) (fun K hK => ?_) ?_
      · go_simp
        refine (refBy_any n bs k r tr ot _ _ _ R Rt Ro V1 (HB.out.grow (HB1.out.trans (HP1.out.mono HB1.out.size))) (HT.out.grow (HB1.out.trans (HP1.out.mono HB1.out.size))) (HO.out.grow (HB1.out.trans (HP1.out.mono HB1.out.size))) HR.out HI.out hk HCO.out).mono ?_
        rintro e V2 ⟨rfl, hb5⟩
        rw [← HGB.out]
        refine hK.out _ _ ?_ (fun hS => ?_)
        · exact HP1.out.trans (hb5.mono HP1.out.size)
        clear hK K
        try simp only [Act.put, List.setIfInBounds_toArray, List.set_cons_zero, List.set_cons_succ]
        have HP2 := Lib.hid (HP1.out.trans (hb5.mono HP1.out.size))
        clear hb5
        refine wpAnyF_take (i := 12) (oi := { dst := some 10, op := Go.Op.assign (Go.Operand.tmp 29), type := 2, pos := "ref.go:141", after := #[{ on := 5, ground := Go.Ground.data }, { on := 11, ground := Go.Ground.chain }, { on := 0, ground := Go.Ground.phase }, { on := 1, ground := Go.Ground.phase }, { on := 2, ground := Go.Ground.phase }, { on := 3, ground := Go.Ground.phase }, { on := 4, ground := Go.Ground.phase }, { on := 5, ground := Go.Ground.phase }, { on := 6, ground := Go.Ground.textOnly Go.Departure.lateStores }, { on := 7, ground := Go.Ground.textOnly Go.Departure.lateStores }, { on := 8, ground := Go.Ground.textOnly Go.Departure.lateStores }, { on := 9, ground := Go.Ground.textOnly Go.Departure.lateStores }, { on := 10, ground := Go.Ground.textOnly Go.Departure.lateStores }, { on := 11, ground := Go.Ground.textOnly Go.Departure.lateStoresUnsure }], guard := none }) (v := ?_) rfl (by kernel_rfl) (by kernel_rfl) (by kernel_rfl) (by kernel_rfl) (fun _ _ _ h => h) (Or.inl ⟨by rfl, ?_⟩) hS ?_
        rotate_left
        · intro w' hSw; have q1 := (hSw.cell (p := ⟨w.heap.size, 0, none⟩) hxs).trans x0; have q2 := (hSw.cell (p := ⟨w.heap.size, 1, none⟩) hxs).trans x1; go_simp; try with_reducible rfl
        try simp only [Act.put, List.setIfInBounds_toArray, List.set_cons_zero, List.set_cons_succ]
        refine wpAnyF_take (i := 13) (oi := { dst := some 11, op := Go.Op.assign (Go.Operand.tmp 35), type := 2, pos := "ref.go:141", after := #[{ on := 11, ground := Go.Ground.data }, { on := 12, ground := Go.Ground.chain }, { on := 0, ground := Go.Ground.phase }, { on := 1, ground := Go.Ground.phase }, { on := 2, ground := Go.Ground.phase }, { on := 3, ground := Go.Ground.phase }, { on := 4, ground := Go.Ground.phase }, { on := 5, ground := Go.Ground.phase }, { on := 6, ground := Go.Ground.phase }, { on := 7, ground := Go.Ground.phase }, { on := 8, ground := Go.Ground.phase }, { on := 9, ground := Go.Ground.phase }, { on := 10, ground := Go.Ground.phase }, { on := 11, ground := Go.Ground.phase }, { on := 12, ground := Go.Ground.phase }], guard := none }) (v := ?_) rfl (by kernel_rfl) (by kernel_rfl) (by kernel_rfl) (by kernel_rfl) (fun _ _ _ h => h) (Or.inl ⟨by rfl, ?_⟩) hS ?_
        rotate_left
        · intro w' hSw; have q1 := (hSw.cell (p := ⟨w.heap.size, 0, none⟩) hxs).trans x0; have q2 := (hSw.cell (p := ⟨w.heap.size, 1, none⟩) hxs).trans x1; go_simp; try with_reducible rfl
        try simp only [Act.put, List.setIfInBounds_toArray, List.set_cons_zero, List.set_cons_succ]
        refine wpAnyF_take (i := 14) (oi := { dst := some 12, op := Go.Op.assign (Go.Operand.const (Go.Value.int Go.IntKind.i64 0)), type := 3, pos := "ref.go:141", after := #[{ on := 13, ground := Go.Ground.chain }, { on := 0, ground := Go.Ground.phase }, { on := 1, ground := Go.Ground.phase }, { on := 2, ground := Go.Ground.phase }, { on := 3, ground := Go.Ground.phase }, { on := 4, ground := Go.Ground.phase }, { on := 5, ground := Go.Ground.phase }, { on := 6, ground := Go.Ground.phase }, { on := 7, ground := Go.Ground.phase }, { on := 8, ground := Go.Ground.phase }, { on := 9, ground := Go.Ground.phase }, { on := 10, ground := Go.Ground.phase }, { on := 11, ground := Go.Ground.phase }, { on := 12, ground := Go.Ground.phase }, { on := 13, ground := Go.Ground.phase }], guard := none }) (v := ?_) rfl (by kernel_rfl) (by kernel_rfl) (by kernel_rfl) (by kernel_rfl) (fun _ _ _ h => h) (Or.inl ⟨by rfl, ?_⟩) hS ?_
        rotate_left
        · intro w' hSw; have q1 := (hSw.cell (p := ⟨w.heap.size, 0, none⟩) hxs).trans x0; have q2 := (hSw.cell (p := ⟨w.heap.size, 1, none⟩) hxs).trans x1; go_simp; try with_reducible rfl
        try simp only [Act.put, List.setIfInBounds_toArray, List.set_cons_zero, List.set_cons_succ]
        refine wpAnyF_done (by kernel_rfl) ?_ _
        go_wp2_with fail
        exact bodyPost_ret (v := .tuple #[.int .i64 ga, .int .i64 gb, .int .i64 0]) (by simp [results, Tryz.results14, go_sem]) rfl ⟨by rw [HAN.out], HB1.out.trans (HP2.out.mono HB1.out.size)⟩
      exact AllReadyF.nil
    exact AllReadyF.nil
  · have hcb : (z != 0) = true := by simpa using h0
    have HA := Lib.hid (show ans = .tuple #[.int .i64 0, .int .i64 0, .int .i64 z] from by rw [HANS.out]; unfold packV; rw [← HZ.out, if_neg h0])
    go_wp2_with fail
    exact bodyPost_ret (v := .tuple #[.int .i64 0, .int .i64 0, .int .i64 z]) (by simp [results, Tryz.results14, go_sem]) rfl ⟨by rw [HA.out], HB1.out⟩
end Go.Proofs.YtcigobiolbojhaaGreat.Vb

/- gavelref29.Tries, Regret. -/
namespace Go.Proofs.YtcigobiolbojhaaGreat.Vb
open Go.RowKit

def byL (n : Int) (bs : List (List Off)) (k : Nat) (r : Int) (tr : List Off) (ts : List (List Off)) : List Int := ts.map (byV n bs k r tr)
theorem byL_take {n : Int} {bs : List (List Off)} {k : Nat} {r : Int} {tr : List Off} {ts : List (List Off)} {j : Nat} {l : List Off} (h : ts[j]? = some l) : byL n bs k r tr (ts.take (j + 1)) = byL n bs k r tr (ts.take j) ++ [byV n bs k r tr l] := by
  unfold byL
  rw [List.take_add_one, h]
  simp
def RefTriesR (n : Int) (bs : List (List Off)) (buyer r : Int) (tr : List Off) (ts : List (List Off)) (w : World) (e : Ending) (w' : World) : Prop :=
  Below w.heap.size w w' ∧ ((askedE n bs buyer r (tr :: ts) ≠ 0 ∧ e = .returned (.tuple #[.slice none 0 0, .int .i64 (askedE n bs buyer r (tr :: ts))])) ∨
    (askedE n bs buyer r (tr :: ts) = 0 ∧ ∃ (A : Option Addr) (c : Nat), e = .returned (.tuple #[.slice A ts.length c, .int .i64 0]) ∧ w'.ownsRow w.heap.size 2 1 (.slice A ts.length c) ts.length (ints (byL n bs buyer.toNat r tr ts))))

set_option maxRecDepth 100000 in
set_option maxHeartbeats 3200000 in
theorem refTries_any (n : Int) (bs : List (List Off)) (buyer r : Int) (tr : List Off) (ts : List (List Off)) (v vt vs : Value) (R Rt Rs : Nat → Prop) (w : World) (hl : Buys w R v bs) (ht : Offs w Rt vt tr) (hs : Buys w Rs vs ts)
    (hts : ts.length ≤ 1000000) (hb : -9223372036854775808 ≤ buyer ∧ buyer ≤ 9223372036854775807) (hr : -9223372036854775808 ≤ r ∧ r ≤ 9223372036854775807) :
    Calls Tryz.prog 8 #[.agg #[.int .i64 n, v], .int .i64 buyer, .int .i64 r, vt, vs] w fun e w' => RefTriesR n bs buyer r tr ts w e w' := by
  obtain ⟨_, ⟨_, A, cap, rfl, _⟩, _⟩ := id hl
  obtain ⟨⟨_, At, capt, rfl, _⟩, _⟩ := id ht
  obtain ⟨_, ⟨_, As, caps, rfl, _⟩, _⟩ := id hs
  have HB := Lib.hid hl
  have HT := Lib.hid ht
  have HS := Lib.hid hs
  have hbd := askedE_bd n bs buyer r (tr :: ts)
  obtain ⟨z, hz⟩ : ∃ z, z = askedE n bs buyer r (tr :: ts) := ⟨_, rfl⟩
  rw [← hz] at hbd
  have HZ := Lib.hid hz
  obtain ⟨P, hP⟩ : ∃ P : Ending → World → Prop, P = fun e w' => RefTriesR n bs buyer r tr ts w e w' := ⟨_, rfl⟩
  rw [← hP]
  have HP := Lib.hid hP
  clear hl ht hs hz hP
  go_enter Tryz.func8, Tryz.ntmps8
  go_wp2_with fail
  refine (refWrong_any n bs buyer r tr ts _ _ _ R Rt Rs (w.alloc (.cells #[.int .i64 n, .slice A bs.length cap] 24)) (HB.out.alloc _) (HT.out.alloc _) (HS.out.alloc _) hts hb hr).mono ?_
  rintro e w1 ⟨rfl, hb1⟩
  rw [← HZ.out]
  have HX := Lib.hid ((Blk.new w 24 #[.int .i64 n, .slice A bs.length cap]).grow hb1)
  have HB1 := Lib.hid (((Below.refl w.heap.size w).alloc (Nat.le_refl _) (.cells #[.int .i64 n, .slice A bs.length cap] 24)).trans (hb1.mono (by simp)))
  have hs1 := HB1.out.size
  clear hb1
  by_cases h0 : z = 0
  · subst h0
    obtain ⟨h1, h2, h3, h4, h5⟩ := askedE_zero HZ.out.symm
    obtain ⟨q, hbk⟩ : ∃ q : Nat, buyer = (q : Int) := ⟨buyer.toNat, by omega⟩
    subst hbk
    have hq : q < bs.length := by omega
    have HI := Lib.hid h1
    have HR := Lib.hid h4
    have HCK := Lib.hid (fun l hl => h5 l (List.mem_cons_of_mem _ hl) : ∀ l ∈ ts, checkE n l = 0)
    clear h1 h2 h3 h4 h5 hbd
    go_wp2_with fail
    go_loopw [13, 14] (fun s i wr => ∃ (k : Nat) (A' : Option Addr) (c' : Nat), k ≤ ts.length ∧ i = .int .i64 k ∧ s = .slice A' k c' ∧ wr.ownsRow w1.heap.size 2 1 (.slice A' k c') k (ints (byL n bs q r tr (ts.take k))) ∧ Below w1.heap.size w1 wr) (fun _ i _ => ts.length - (intOf i).toNat)
    case atStart => exact ⟨0, none, 0, Nat.zero_le _, rfl, rfl, World.ownsRow_nil _ _ _ _, Below.refl _ _⟩
    case round =>
      obtain ⟨k, A', c', hk, rfl, rfl, hob, hbr⟩ := hrel
      have HOB := Lib.hid hob
      have HBR := Lib.hid hbr
      have HBW := Lib.hid (HB1.out.trans (hbr.mono HB1.out.size))
      by_cases hlt : k < ts.length
      · obtain ⟨l, hlk⟩ : ∃ l, ts[k]? = some l := ⟨_, List.getElem?_eq_getElem hlt⟩
        obtain ⟨bq, of, u, rfl, hbq, hcu, hou⟩ := (HS.out.grow HB1.out).at_ hlk
        obtain ⟨⟨_, Au, cu, rfl, _⟩, _⟩ := id hou
        have x0 : w1.cell? ⟨w.heap.size, 0, none⟩ = some (.int .i64 n) := HX.out.cell 0
        have x1 : w1.cell? ⟨w.heap.size, 1, none⟩ = some (.slice A bs.length cap) := HX.out.cell 1
        have hxs := World.block_lt_of_cell? _ _ x0
        obtain ⟨g, hg⟩ : ∃ z, z = byV n bs q r tr l := ⟨_, rfl⟩
        have HTK := Lib.hid (byL_take (n := n) (bs := bs) (k := q) (r := r) (tr := tr) hlk)
        have HCL := Lib.hid (HCK.out l (List.mem_of_getElem? hlk))
        have HG := Lib.hid hg
        have HOU := Lib.hid (hou.grow hbr)
        have hszr := hbr.size
        have e0 : (0 : Int) ≤ (k : Int) := by omega
        have e1 : (k : Int) < (ts.length : Int) := by omega
        have HP0 : Below wr.heap.size wr wr.drew := (Below.refl _ _).drew
        clear hob hbr hlk hou hg
        go_wp2_with fail
        refine wp_region_F (Below w1.heap.size w1) [] (by kernel_rfl) HBR.out.drew (fun hS => ?_)
        refine wpAnyF_take (i := 0) (oi := { dst := some 30, op := Go.Op.move (Go.Operand.tmp 13), type := 37, pos := "ref.go:152", after := #[], guard := none }) (v := ?_) rfl (by kernel_rfl) (by kernel_rfl) (by kernel_rfl) (by kernel_rfl) (fun _ _ _ h => h) (Or.inl ⟨by rfl, ?_⟩) hS ?_
        rotate_left
        · intro w' hSw; have q1 := (hSw.cell (p := ⟨w.heap.size, 0, none⟩) hxs).trans x0; have q2 := (hSw.cell (p := ⟨w.heap.size, 1, none⟩) hxs).trans x1; have q3 := (hSw.cell (p := ⟨bq, of + k, none⟩) hbq).trans hcu; go_simp; try with_reducible rfl
        try simp only [Act.put, List.setIfInBounds_toArray, List.set_cons_zero, List.set_cons_succ]
        refine wpAnyF_take (i := 1) (oi := { dst := some 31, op := Go.Op.load 24 (Go.Operand.tmp 5), type := 24, pos := "ref.go:152", after := #[], guard := none }) (v := ?_) rfl (by kernel_rfl) (by kernel_rfl) (by kernel_rfl) (by kernel_rfl) (fun _ _ _ h => h) (Or.inl ⟨by rfl, ?_⟩) hS ?_
        rotate_left
        · intro w' hSw; have q1 := (hSw.cell (p := ⟨w.heap.size, 0, none⟩) hxs).trans x0; have q2 := (hSw.cell (p := ⟨w.heap.size, 1, none⟩) hxs).trans x1; have q3 := (hSw.cell (p := ⟨bq, of + k, none⟩) hbq).trans hcu; go_simp; try with_reducible rfl
        try simp only [Act.put, List.setIfInBounds_toArray, List.set_cons_zero, List.set_cons_succ]
        refine wpAnyF_take (i := 2) (oi := { dst := some 32, op := Go.Op.move (Go.Operand.tmp 1), type := 3, pos := "ref.go:152", after := #[], guard := none }) (v := ?_) rfl (by kernel_rfl) (by kernel_rfl) (by kernel_rfl) (by kernel_rfl) (fun _ _ _ h => h) (Or.inl ⟨by rfl, ?_⟩) hS ?_
        rotate_left
        · intro w' hSw; have q1 := (hSw.cell (p := ⟨w.heap.size, 0, none⟩) hxs).trans x0; have q2 := (hSw.cell (p := ⟨w.heap.size, 1, none⟩) hxs).trans x1; have q3 := (hSw.cell (p := ⟨bq, of + k, none⟩) hbq).trans hcu; go_simp; try with_reducible rfl
        try simp only [Act.put, List.setIfInBounds_toArray, List.set_cons_zero, List.set_cons_succ]
        refine wpAnyF_take (i := 3) (oi := { dst := some 33, op := Go.Op.move (Go.Operand.tmp 2), type := 3, pos := "ref.go:152", after := #[], guard := none }) (v := ?_) rfl (by kernel_rfl) (by kernel_rfl) (by kernel_rfl) (by kernel_rfl) (fun _ _ _ h => h) (Or.inl ⟨by rfl, ?_⟩) hS ?_
        rotate_left
        · intro w' hSw; have q1 := (hSw.cell (p := ⟨w.heap.size, 0, none⟩) hxs).trans x0; have q2 := (hSw.cell (p := ⟨w.heap.size, 1, none⟩) hxs).trans x1; have q3 := (hSw.cell (p := ⟨bq, of + k, none⟩) hbq).trans hcu; go_simp; try with_reducible rfl
        try simp only [Act.put, List.setIfInBounds_toArray, List.set_cons_zero, List.set_cons_succ]
        refine wpAnyF_take (i := 4) (oi := { dst := some 34, op := Go.Op.move (Go.Operand.tmp 3), type := 26, pos := "ref.go:152", after := #[], guard := none }) (v := ?_) rfl (by kernel_rfl) (by kernel_rfl) (by kernel_rfl) (by kernel_rfl) (fun _ _ _ h => h) (Or.inl ⟨by rfl, ?_⟩) hS ?_
        rotate_left
        · intro w' hSw; have q1 := (hSw.cell (p := ⟨w.heap.size, 0, none⟩) hxs).trans x0; have q2 := (hSw.cell (p := ⟨w.heap.size, 1, none⟩) hxs).trans x1; have q3 := (hSw.cell (p := ⟨bq, of + k, none⟩) hbq).trans hcu; go_simp; try with_reducible rfl
        try simp only [Act.put, List.setIfInBounds_toArray, List.set_cons_zero, List.set_cons_succ]
        refine wpAnyF_take (i := 5) (oi := { dst := some 35, op := Go.Op.move (Go.Operand.tmp 4), type := 22, pos := "ref.go:152", after := #[], guard := none }) (v := ?_) rfl (by kernel_rfl) (by kernel_rfl) (by kernel_rfl) (by kernel_rfl) (fun _ _ _ h => h) (Or.inl ⟨by rfl, ?_⟩) hS ?_
        rotate_left
        · intro w' hSw; have q1 := (hSw.cell (p := ⟨w.heap.size, 0, none⟩) hxs).trans x0; have q2 := (hSw.cell (p := ⟨w.heap.size, 1, none⟩) hxs).trans x1; have q3 := (hSw.cell (p := ⟨bq, of + k, none⟩) hbq).trans hcu; go_simp; try with_reducible rfl
        try simp only [Act.put, List.setIfInBounds_toArray, List.set_cons_zero, List.set_cons_succ]
        refine wpAnyF_take (i := 6) (oi := { dst := some 36, op := Go.Op.move (Go.Operand.tmp 14), type := 3, pos := "ref.go:152", after := #[], guard := none }) (v := ?_) rfl (by kernel_rfl) (by kernel_rfl) (by kernel_rfl) (by kernel_rfl) (fun _ _ _ h => h) (Or.inl ⟨by rfl, ?_⟩) hS ?_
        rotate_left
        · intro w' hSw; have q1 := (hSw.cell (p := ⟨w.heap.size, 0, none⟩) hxs).trans x0; have q2 := (hSw.cell (p := ⟨w.heap.size, 1, none⟩) hxs).trans x1; have q3 := (hSw.cell (p := ⟨bq, of + k, none⟩) hbq).trans hcu; go_simp; try with_reducible rfl
        try simp only [Act.put, List.setIfInBounds_toArray, List.set_cons_zero, List.set_cons_succ]
        refine wpAnyF_take (i := 7) (oi := { dst := some 37, op := Go.Op.indexAddr 22 (Go.Operand.tmp 35) (Go.Operand.tmp 36), type := 0, pos := "ref.go:152", after := #[{ on := 5, ground := Go.Ground.data }, { on := 6, ground := Go.Ground.data }], guard := none }) (v := ?_) rfl (by kernel_rfl) (by kernel_rfl) (by kernel_rfl) (by kernel_rfl) (fun _ _ _ h => h) (Or.inl ⟨by rfl, ?_⟩) hS ?_
        rotate_left
        · intro w' hSw; have q1 := (hSw.cell (p := ⟨w.heap.size, 0, none⟩) hxs).trans x0; have q2 := (hSw.cell (p := ⟨w.heap.size, 1, none⟩) hxs).trans x1; have q3 := (hSw.cell (p := ⟨bq, of + k, none⟩) hbq).trans hcu; go_simp; try with_reducible rfl
        try simp only [Act.put, List.setIfInBounds_toArray, List.set_cons_zero, List.set_cons_succ]
        refine wpAnyF_take (i := 8) (oi := { dst := some 38, op := Go.Op.load 26 (Go.Operand.tmp 37), type := 26, pos := "ref.go:152", after := #[{ on := 7, ground := Go.Ground.data }], guard := none }) (v := ?_) rfl (by kernel_rfl) (by kernel_rfl) (by kernel_rfl) (by kernel_rfl) (fun _ _ _ h => h) (Or.inl ⟨by rfl, ?_⟩) hS ?_
        rotate_left
        · intro w' hSw; have q1 := (hSw.cell (p := ⟨w.heap.size, 0, none⟩) hxs).trans x0; have q2 := (hSw.cell (p := ⟨w.heap.size, 1, none⟩) hxs).trans x1; have q3 := (hSw.cell (p := ⟨bq, of + k, none⟩) hbq).trans hcu; go_simp; try with_reducible rfl
        try simp only [Act.put, List.setIfInBounds_toArray, List.set_cons_zero, List.set_cons_succ]
        refine wpAnyF_ready (rs := [9]) (by kernel_rfl) (by simp) ?_
        refine AllReadyF.cons (o := { dst := some 39, op := Go.Op.call { callee := Go.Callee.value (Go.Operand.func 23), args := #[Go.Operand.tmp 31, Go.Operand.tmp 32, Go.Operand.tmp 33, Go.Operand.tmp 34, Go.Operand.tmp 38], argTypes := #[24, 3, 3, 26, 26] }, type := 2, pos := "ref.go:152", after := #[{ on := 1, ground := Go.Ground.data }, { on := 2, ground := Go.Ground.data }, { on := 3, ground := Go.Ground.data }, { on := 4, ground := Go.Ground.data }, { on := 8, ground := Go.Ground.data }], guard := none }) rfl (by rfl) (fun K hK => ?_) ?_
        · go_simp
          refine (refBy_any n bs q r tr l _ _ _ R Rt _ wr.drew (HB.out.grow (HBW.out.trans (HP0.mono HBW.out.size))) (HT.out.grow (HBW.out.trans (HP0.mono HBW.out.size))) (HOU.out.grow HP0) HR.out HI.out hq HCL.out).mono ?_
          rintro e w7 ⟨rfl, hb7⟩
          rw [← HG.out]
          refine hK.out _ _ ?_ (fun hS => ?_)
          · exact HBR.out.trans ((HP0.trans (hb7.mono (by simp))).mono hszr)
          clear hK K
          try simp only [Act.put, List.setIfInBounds_toArray, List.set_cons_zero, List.set_cons_succ]
          have hb7' : Below wr.heap.size wr w7 := HP0.trans (hb7.mono (by simp))
          have HB7 := Lib.hid hb7'
          have HBX7 := Lib.hid (HBR.out.trans (hb7'.mono hszr))
          have hs7 := hb7'.size
          have HS8 := Lib.hid (own_alloc (own_grow HOB.out hb7') (.cells #[.int .i64 g] 2))
          clear hb7 hb7'
          refine wpAnyF_ready (rs := [10]) (by kernel_rfl) (by simp) ?_
          refine AllReadyF.cons (o := { dst := some 40, op := Go.Op.buildSlice 37 1 #[(0, Go.Operand.tmp 39)], type := 37, pos := "ref.go:152", after := #[{ on := 9, ground := Go.Ground.data }], guard := none }) rfl (by rfl) (fun K hK => ?_) ?_
          · go_simp
            refine hK.out _ _ ?_ (fun hS => ?_)
            · exact HBX7.out.alloc HBX7.out.size _
            clear hK K
            try simp only [Act.put, List.setIfInBounds_toArray, List.set_cons_zero, List.set_cons_succ]
            refine wpAnyF_ready (rs := [11]) (by kernel_rfl) (by simp) ?_
            refine AllReadyF.cons (o := { dst := some 41, op := Go.Op.call { callee := Go.Callee.builtin Go.Builtin.append, args := #[Go.Operand.tmp 30, Go.Operand.tmp 40], argTypes := #[37, 37] }, type := 37, pos := "ref.go:152", after := #[{ on := 0, ground := Go.Ground.data }, { on := 10, ground := Go.Ground.data }, { on := 9, ground := Go.Ground.chain }], guard := none }) rfl (by rfl) (fun K hK => ?_) ?_
            · refine step_app (w7.alloc (.cells #[.int .i64 g] 2)) rfl (.tmp 30) (.tmp 40) et_i64 rfl w1.heap.size (.slice A' k c') k (ints (byL n bs q r tr (ts.take k))) rfl HS8.out _ (.slice (some ⟨w7.heap.size, 0, none⟩) 1 1) 1 [.int .i64 g] rfl (Sl.new w7 #[.int .i64 g] _ 1 1 (by unfold maxLen; omega) rfl) (by simp [Value.oneCell']) (by omega) (by unfold maxLen; omega) (by simp; omega) ?_
              intro A8 c8 w8 hown8 hg8 hlo8
              refine hK.out _ _ ?_ (fun hS => ?_)
              · exact (HBX7.out.alloc HBX7.out.size _).grown hg8 (by have := HBX7.out.size; simp; omega) (fun g e => (HS8.out.lt g e).1)
              clear hK K
              try simp only [Act.put, List.setIfInBounds_toArray, List.set_cons_zero, List.set_cons_succ]
              have HG8 := Lib.hid hg8
              have HO8 := Lib.hid hown8
              clear hown8 hg8 hlo8
              refine wpAnyF_take (i := 12) (oi := { dst := some 13, op := Go.Op.assign (Go.Operand.tmp 41), type := 37, pos := "ref.go:152", after := #[{ on := 11, ground := Go.Ground.data }, { on := 11, ground := Go.Ground.chain }, { on := 0, ground := Go.Ground.phase }, { on := 1, ground := Go.Ground.phase }, { on := 2, ground := Go.Ground.phase }, { on := 3, ground := Go.Ground.phase }, { on := 4, ground := Go.Ground.phase }, { on := 5, ground := Go.Ground.phase }, { on := 6, ground := Go.Ground.phase }, { on := 7, ground := Go.Ground.phase }, { on := 8, ground := Go.Ground.phase }, { on := 9, ground := Go.Ground.phase }, { on := 10, ground := Go.Ground.phase }, { on := 11, ground := Go.Ground.phase }], guard := none }) (v := ?_) rfl (by kernel_rfl) (by kernel_rfl) (by kernel_rfl) (by kernel_rfl) (fun _ _ _ h => h) (Or.inl ⟨by rfl, ?_⟩) hS ?_
              rotate_left
              · intro w' hSw; have q1 := (hSw.cell (p := ⟨w.heap.size, 0, none⟩) hxs).trans x0; have q2 := (hSw.cell (p := ⟨w.heap.size, 1, none⟩) hxs).trans x1; have q3 := (hSw.cell (p := ⟨bq, of + k, none⟩) hbq).trans hcu; go_simp; try with_reducible rfl
              try simp only [Act.put, List.setIfInBounds_toArray, List.set_cons_zero, List.set_cons_succ]
              refine wpAnyF_done (by kernel_rfl) ?_ _
              go_wp2_with fail
              go_roundw
              case rel =>
                refine ⟨k + 1, A8, c8, by omega, by go_num, rfl, ?_, ?_⟩
                · rw [HTK.out, ← HG.out]
                  have := HO8.out
                  simpa [ints] using this
                · exact ((HBR.out.trans (HB7.out.mono (by omega))).alloc (by omega) _).grown HG8.out (by simp; omega) (fun g e => (HS8.out.lt g e).1)
              case measure => simp [intOf]; omega
            exact AllReadyF.nil
          exact AllReadyF.nil
        exact AllReadyF.nil
      · obtain rfl : k = ts.length := by omega
        rw [List.take_length] at hob
        have HOB2 := Lib.hid hob
        clear hob hbr HOB
        go_wp2_with fail
        show P (.returned (.tuple #[.slice A' ts.length c', .int .i64 0])) _
        rw [HP.out]
        exact ⟨HBW.out, .inr ⟨HZ.out.symm, A', c', rfl, by rw [Int.toNat_natCast]; exact own_mono HOB2.out hs1⟩⟩
  · have hcb : (z != 0) = true := by simpa using h0
    have HNZ := Lib.hid h0
    clear h0
    go_wp2_with fail
    show P (.returned (.tuple #[.slice none 0 0, .int .i64 z])) _
    rw [HP.out]
    exact ⟨HB1.out, .inl ⟨by rw [← HZ.out]; exact HNZ.out, by rw [← HZ.out]⟩⟩

set_option maxRecDepth 100000 in
set_option maxHeartbeats 3200000 in
theorem refRegret_any (n : Int) (bs : List (List Off)) (buyer r : Int) (tr : List Off) (ts : List (List Off)) (v vt vs : Value) (R Rt Rs : Nat → Prop) (w : World) (hl : Buys w R v bs) (ht : Offs w Rt vt tr) (hs : Buys w Rs vs ts)
    (hts : ts.length ≤ 1000000) (hb : -9223372036854775808 ≤ buyer ∧ buyer ≤ 9223372036854775807) (hr : -9223372036854775808 ≤ r ∧ r ≤ 9223372036854775807) :
    Calls Tryz.prog 10 #[.agg #[.int .i64 n, v], .int .i64 buyer, .int .i64 r, vt, vs] w fun e w' => e = .returned (regretV n bs buyer r tr ts) ∧ Below w.heap.size w w' := by
  obtain ⟨_, ⟨_, A, cap, rfl, _⟩, _⟩ := id hl
  obtain ⟨⟨_, At, capt, rfl, _⟩, _⟩ := id ht
  obtain ⟨_, ⟨_, As, caps, rfl, _⟩, _⟩ := id hs
  have HB := Lib.hid hl
  have HT := Lib.hid ht
  have HS := Lib.hid hs
  have hbd := askedE_bd n bs buyer r (tr :: ts)
  obtain ⟨z, hz⟩ : ∃ z, z = askedE n bs buyer r (tr :: ts) := ⟨_, rfl⟩
  obtain ⟨ans, hans⟩ : ∃ a, a = regretV n bs buyer r tr ts := ⟨_, rfl⟩
  rw [← hans]
  have HANS := Lib.hid hans
  rw [← hz] at hbd
  have HZ := Lib.hid hz
  clear hl ht hs hz hans
  go_enter Tryz.func10, Tryz.ntmps10
  go_wp2_with fail
  refine (refTries_any n bs buyer r tr ts _ _ _ R Rt Rs (w.alloc (.cells #[.int .i64 n, .slice A bs.length cap] 24)) (HB.out.alloc _) (HT.out.alloc _) (HS.out.alloc _) hts hb hr).mono ?_
  rintro e w1 ⟨hb1, hcase⟩
  have HX := Lib.hid ((Blk.new w 24 #[.int .i64 n, .slice A bs.length cap]).grow hb1)
  have HB1 := Lib.hid (((Below.refl w.heap.size w).alloc (Nat.le_refl _) (.cells #[.int .i64 n, .slice A bs.length cap] 24)).trans (hb1.mono (by simp)))
  have hs1 := HB1.out.size
  clear hb1
  rw [← HZ.out] at hcase
  rcases hcase with ⟨hne, rfl⟩ | ⟨h0, A1, c1, rfl, hown⟩
  · have hcb : (z != 0) = true := by simpa using hne
    have HA := Lib.hid (show ans = .tuple #[.int .i64 0, .int .i64 0, .int .i64 z] from by rw [HANS.out]; unfold regretV; rw [← HZ.out, if_neg hne])
    clear hne
    go_wp2_with fail
    exact bodyPost_ret (v := .tuple #[.int .i64 0, .int .i64 0, .int .i64 z]) (by simp [results, Tryz.results10, go_sem]) rfl ⟨by rw [HA.out], HB1.out⟩
  · subst h0
    obtain ⟨h1, h2, h3, h4, h5⟩ := askedE_zero HZ.out.symm
    obtain ⟨q, hbk⟩ : ∃ q : Nat, buyer = (q : Int) := ⟨buyer.toNat, by omega⟩
    subst hbk
    rw [Int.toNat_natCast] at hown
    have hq : q < bs.length := by omega
    have HI := Lib.hid h1
    have HR := Lib.hid h4
    have HCT := Lib.hid (h5 tr (by simp))
    obtain ⟨ow, how⟩ : ∃ z, z = byV n bs q r tr tr := ⟨_, rfl⟩
    obtain ⟨gz, hgz⟩ : ∃ z, z = gainsZ n bs q r tr ts := ⟨_, rfl⟩
    have HAN := Lib.hid (show ans = .tuple #[.int .i64 (wrap64 ((bestZ ow gz).1 - ow)), .int .i64 (bestZ ow gz).2, .int .i64 0] from by rw [HANS.out]; unfold regretV; rw [← HZ.out, if_pos rfl, Int.toNat_natCast, how, hgz])
    have hgl : gz.length = ts.length := by rw [hgz, gainsZ_len]
    have HOW := Lib.hid how
    have HGZ := Lib.hid hgz
    have HSL := Lib.hid (Sl.of_own hown)
    have hx0 : w1.cell? ⟨w.heap.size, 0, none⟩ = some (.int .i64 n) := HX.out.cell 0
    have hx1 : w1.cell? ⟨w.heap.size, 1, none⟩ = some (.slice A bs.length cap) := HX.out.cell 1
    have HGL := Lib.hid hgl
    clear h1 h2 h3 h4 h5 hbd how hgz hown hgl
    go_wp2_with fail
    refine (refBy_any n bs q r tr tr _ _ _ R Rt Rt w1 (HB.out.grow HB1.out) (HT.out.grow HB1.out) (HT.out.grow HB1.out) HR.out HI.out hq HCT.out).mono ?_
    rintro e w2 ⟨rfl, hb2⟩
    rw [← HOW.out]
    have HSL2 := Lib.hid (HSL.out.grow hb2)
    have HB2 := Lib.hid (HB1.out.trans (hb2.mono HB1.out.size))
    clear hb2 hx0 hx1 HSL HX HB1
    go_wp2_with fail
    go_loopw [15, 17, 18] (fun b a i wr => ∃ k : Nat, k ≤ ts.length ∧ i = .int .i64 k ∧ b = .int .i64 (bestZ ow (gz.take k)).1 ∧ a = .int .i64 (bestZ ow (gz.take k)).2 ∧ wr = w2) (fun _ _ i _ => ts.length - (intOf i).toNat)
    case atStart => exact ⟨0, Nat.zero_le _, rfl, rfl, rfl, rfl⟩
    case round =>
      obtain ⟨k, hk, rfl, rfl, rfl, rfl⟩ := hrel
      by_cases hlt : k < ts.length
      · obtain ⟨l, hlk⟩ : ∃ l, ts[k]? = some l := ⟨_, List.getElem?_eq_getElem hlt⟩
        obtain ⟨g1, o1, x1, rfl, hg1, hx1, hc1⟩ := HSL2.out.int_at hlt
        have hx1' : x1 = byV n bs q r tr l := by
          unfold byL at hx1
          rw [List.getElem?_map, hlk] at hx1
          exact (Option.some.inj hx1).symm
        have hgk : gz[k]? = some ((k : Int), x1) := by rw [hx1', HGZ.out]; exact gainsZ_get hlk
        have hsn : bestZ ow (gz.take (k + 1)) = if (bestZ ow (gz.take k)).1 < x1 then (x1, (k : Int)) else bestZ ow (gz.take k) := by
          rw [List.take_add_one, hgk]
          exact bestZ_snoc _ _ _
        obtain ⟨zb, hzb⟩ : ∃ zb, zb = bestZ ow (gz.take k) := ⟨_, rfl⟩
        rw [← hzb] at hsn ⊢
        obtain ⟨z1, z2⟩ := zb
        simp only at hsn ⊢
        have HSN := Lib.hid hsn
        have e0 : (0 : Int) ≤ (k : Int) := by omega
        have e1 : (k : Int) < (ts.length : Int) := by omega
        clear hsn hgk hx1' hx1 hlk hzb
        by_cases hgt : z1 < x1
        · go_wp2_with fail
          go_roundw
          case rel => exact ⟨k + 1, by omega, by go_num, by rw [HSN.out, if_pos hgt], by rw [HSN.out, if_pos hgt], trivial⟩
          case measure => simp [intOf]; omega
        · have HN := Lib.hid hgt
          go_wp2_with fail
          go_roundw
          case rel => exact ⟨k + 1, by omega, by go_num, by rw [HSN.out, if_neg HN.out], by rw [HSN.out, if_neg HN.out], trivial⟩
          case measure => simp [intOf]; omega
      · obtain rfl : k = ts.length := by omega
        rw [List.take_of_length_le (by rw [HGL.out]; exact Nat.le_refl _)]
        obtain ⟨zb, hzb⟩ : ∃ zb, zb = bestZ ow gz := ⟨_, rfl⟩
        have HA2 := Lib.hid (show ans = .tuple #[.int .i64 (wrap64 (zb.1 - ow)), .int .i64 zb.2, .int .i64 0] from by rw [HAN.out, hzb])
        rw [← hzb]
        obtain ⟨z1, z2⟩ := zb
        simp only at HA2 ⊢
        clear hzb
        go_wp2_with fail
        exact bodyPost_ret (v := .tuple #[.int .i64 (wrap64 (z1 - ow)), .int .i64 z2, .int .i64 0]) (by simp [results, Tryz.results10, go_sem]) rfl ⟨by rw [HA2.out], HB2.out⟩
end Go.Proofs.YtcigobiolbojhaaGreat.Vb

/- Law 29's own: great, given. -/
namespace Go.Proofs.YtcigobiolbojhaaGreat.Vb
open Go.RowKit

def put6 (W : World) (b : Nat) (u0 u1 u2 u3 u4 u5 : Value) : World := (((((W.setCell ⟨b, 0, none⟩ u0).setCell ⟨b, 1, none⟩ u1).setCell ⟨b, 2, none⟩ u2).setCell ⟨b, 3, none⟩ u3).setCell ⟨b, 4, none⟩ u4).setCell ⟨b, 5, none⟩ u5
theorem put6_below {n b : Nat} {w W : World} (h : Below n w W) (hb : n ≤ b) (u0 u1 u2 u3 u4 u5 : Value) : Below n w (put6 W b u0 u1 u2 u3 u4 u5) :=
  (((((h.setCell (p := ⟨b, 0, none⟩) hb _).setCell (p := ⟨b, 1, none⟩) hb _).setCell (p := ⟨b, 2, none⟩) hb _).setCell (p := ⟨b, 3, none⟩) hb _).setCell (p := ⟨b, 4, none⟩) hb _).setCell (p := ⟨b, 5, none⟩) hb _
theorem put6_blk {W : World} {b : Nat} {t : TypeId} {c0 c1 c2 c3 c4 c5 : Value} (h : Blk W b t #[c0, c1, c2, c3, c4, c5]) (u0 u1 u2 u3 u4 u5 : Value) : Blk (put6 W b u0 u1 u2 u3 u4 u5) b t #[u0, u1, u2, u3, u4, u5] :=
  (((((h.set_ 0 u0).set_ 1 u1).set_ 2 u2).set_ 3 u3).set_ 4 u4).set_ 5 u5
theorem LentO.put {W : World} {lo g c b : Nat} {l : List Off} (h : LentO W lo g c l) (hb : g ≠ b) (j : Nat) (u : Value) : LentO (W.setCell ⟨b, j, none⟩ u) lo g c l :=
  ⟨own_far h.1 (grownBy_setCell W ⟨b, j, none⟩ u) (fun k e e2 => by simp at e; simp [Value.ownBlock] at e2; omega), h.2⟩
theorem LentO.put6 {W : World} {lo g c b : Nat} {l : List Off} (h : LentO W lo g c l) (hb : g ≠ b) (u0 u1 u2 u3 u4 u5 : Value) : LentO (put6 W b u0 u1 u2 u3 u4 u5) lo g c l :=
  (((((h.put hb 0 u0).put hb 1 u1).put hb 2 u2).put hb 3 u3).put hb 4 u4).put hb 5 u5
theorem LentO.ne {W : World} {lo g c b : Nat} {l : List Off} {cs : Array Value} (h : LentO W lo g c l) (hy : Blk W b 28 cs) : g ≠ b := fun e => own_ne_blk h.1 hy (by decide) (by rw [e]; rfl)
theorem LentB.put {W : World} {lo b : Nat} {v : Value} {bs : List (List Off)} {cs : Array Value} (h : LentB W lo v bs) (hy : Blk W b 28 cs) (j : Nat) (u : Value) : LentB (W.setCell ⟨b, j, none⟩ u) lo v bs := by
  refine h.row (grownBy_setCell W ⟨b, j, none⟩ u) (fun g e e2 => ?_) (fun g c l hl e => ?_)
  · obtain ⟨vs, hs, _⟩ := h
    simp at e
    subst e
    exact own_ne_blk hs hy (by decide) e2
  · simp at e
    exact hl.ne hy e.symm
theorem LentB.out_lt {W : World} {lo : Nat} {v : Value} {bs : List (List Off)} (h : LentB W lo v bs) {g : Nat} (hg : v.ownBlock = some g) : lo ≤ g ∧ g < W.heap.size := by
  obtain ⟨vs, hs, _⟩ := h
  exact hs.lt g hg
theorem LentB.low {W W' : World} {lo : Nat} {v : Value} {bs : List (List Off)} (h : LentB W lo v bs) {b : Nat} (hb : b < lo) (j : Nat) (u : Value) : LentB (W.setCell ⟨b, j, none⟩ u) lo v bs := h.far (grownBy_setCell W ⟨b, j, none⟩ u) (fun k e => by simp at e; omega)
theorem LentB.low6 {W : World} {lo : Nat} {v : Value} {bs : List (List Off)} (h : LentB W lo v bs) {b : Nat} (hb : b < lo) (u0 u1 u2 u3 u4 u5 : Value) : LentB (Vb.put6 W b u0 u1 u2 u3 u4 u5) lo v bs :=
  (((((h.low (W' := W) hb 0 u0).low (W' := W) hb 1 u1).low (W' := W) hb 2 u2).low (W' := W) hb 3 u3).low (W' := W) hb 4 u4).low (W' := W) hb 5 u5

/-- as far as given has come -/
structure GvI (lo yb : Nat) (n buyer r : Int) (g c : Nat) (tr : List Off) (vb vs : Value) (bs ts : List (List Off)) (W : World) : Prop where
  y : Blk W yb 28 #[.int .i64 n, vb, .int .i64 buyer, .int .i64 r, .slice (some ⟨g, 0, none⟩) tr.length c, vs]
  tt : LentO W lo g c tr
  ob : LentB W lo vb bs
  ot : LentB W lo vs ts
  sep : ∀ k, vb.ownBlock = some k → vs.ownBlock ≠ some k
theorem GvI.start {lo yb g c : Nat} {n buyer r : Int} {tr : List Off} {W : World} {c0 c1 c2 c3 c4 c5 : Value} (hy : Blk W yb 28 #[c0, c1, c2, c3, c4, c5]) (ht : LentO W lo g c tr) :
    GvI lo yb n buyer r g c tr (.slice none 0 0) (.slice none 0 0) [] [] (put6 W yb (.int .i64 n) (.slice none 0 0) (.int .i64 buyer) (.int .i64 r) (.slice (some ⟨g, 0, none⟩) tr.length c) (.slice none 0 0)) :=
  ⟨put6_blk hy _ _ _ _ _ _, ht.put6 (ht.ne hy) _ _ _ _ _ _, LentB.nil _ _, LentB.nil _ _, fun k e => by simp [Value.ownBlock] at e⟩
theorem GvI.grow {lo yb g c : Nat} {n buyer r : Int} {tr : List Off} {vb vs : Value} {bs ts : List (List Off)} {W W' : World} (h : GvI lo yb n buyer r g c tr vb vs bs ts W) (hb : Below W.heap.size W W') : GvI lo yb n buyer r g c tr vb vs bs ts W' :=
  ⟨h.y.grow hb, h.tt.grow hb, h.ob.grow hb, h.ot.grow hb, h.sep⟩
theorem GvI.addB {lo yb g c : Nat} {n buyer r : Int} {tr : List Off} {bs : List (List Off)} {W W' : World} {A A' : Option Addr} {k cap cap' b cl : Nat} {vs : List Value} {l : List Off} (h : GvI lo yb n buyer r g c tr (.slice A k cap) (.slice none 0 0) bs [] W) (hlen : bs.length = k)
    (hs : W.ownsRow lo 26 1 (.slice A k cap) k vs) (ho : ∀ (j : Nat) (l : List Off), bs[j]? = some l → ∃ g c, vs[j]? = some (.slice (some ⟨g, 0, none⟩) l.length c) ∧ LentO W lo g c l) (hl : LentO W lo b cl l)
    (hown : W'.ownsRow lo 26 1 (.slice A' (k + 1) cap') (k + 1) (vs ++ [.slice (some ⟨b, 0, none⟩) l.length cl])) (hg : W.grownBy W' (Value.slice A k cap).ownBlock) :
    GvI lo yb n buyer r g c tr (.slice A' (k + 1) cap') (.slice none 0 0) (bs ++ [l]) [] (W'.setCell ⟨yb, 1, none⟩ (.slice A' (k + 1) cap')) := by
  have hy := h.y.grown hg (fun e => own_ne_blk hs h.y (by decide) e.symm)
  have ht : LentO W' lo g c tr := ⟨own_far h.tt.1 hg (fun k e => own_ne hs h.tt.1 (by decide) e), h.tt.2⟩
  exact ⟨hy.set_ 1 _, ht.put (ht.ne hy) 1 _, (LentB.snoc hlen hs ho hl hown hg).put hy 1 _, LentB.nil _ _, fun k _ => by simp [Value.ownBlock]⟩
theorem GvI.addT {lo yb g c : Nat} {n buyer r : Int} {tr : List Off} {vb : Value} {bs ts : List (List Off)} {W W' : World} {A A' : Option Addr} {k cap cap' b cl : Nat} {vs : List Value} {l : List Off} (h : GvI lo yb n buyer r g c tr vb (.slice A k cap) bs ts W) (hlen : ts.length = k)
    (hs : W.ownsRow lo 26 1 (.slice A k cap) k vs) (ho : ∀ (j : Nat) (l : List Off), ts[j]? = some l → ∃ g c, vs[j]? = some (.slice (some ⟨g, 0, none⟩) l.length c) ∧ LentO W lo g c l) (hl : LentO W lo b cl l)
    (hown : W'.ownsRow lo 26 1 (.slice A' (k + 1) cap') (k + 1) (vs ++ [.slice (some ⟨b, 0, none⟩) l.length cl])) (hg : W.grownBy W' (Value.slice A k cap).ownBlock)
    (hloc : (Value.slice A' (k + 1) cap').ownBlock = (Value.slice A k cap).ownBlock ∨ (Value.slice A' (k + 1) cap').ownBlock = some W.heap.size) :
    GvI lo yb n buyer r g c tr vb (.slice A' (k + 1) cap') bs (ts ++ [l]) (W'.setCell ⟨yb, 5, none⟩ (.slice A' (k + 1) cap')) := by
  have hy := h.y.grown hg (fun e => own_ne_blk hs h.y (by decide) e.symm)
  have ht : LentO W' lo g c tr := ⟨own_far h.tt.1 hg (fun k e => own_ne hs h.tt.1 (by decide) e), h.tt.2⟩
  have hb : LentB W' lo vb bs := h.ob.row hg (fun g e e2 => h.sep g e2 e) (fun g c l hl e => own_ne hs hl.1 (by decide) e rfl)
  refine ⟨hy.set_ 5 _, ht.put (ht.ne hy) 5 _, hb.put hy 5 _, (LentB.snoc hlen hs ho hl hown hg).put hy 5 _, fun k e e2 => ?_⟩
  rcases hloc with h1 | h1
  · rw [h1] at e2
    exact h.sep k e e2
  · rw [h1] at e2
    injection e2 with e2
    have := (h.ob.out_lt e).2
    omega

/-- the slices' heads -/
def Heads (vs : List Value) (bs : List (List Off)) : Prop := vs.length = bs.length ∧ ∀ (k : Nat) (l : List Off), bs[k]? = some l → ∃ A c, vs[k]? = some (.slice A l.length c)
theorem Heads.one {vs : List Value} {bs : List (List Off)} (h : Heads vs bs) : ∀ u ∈ vs, u.oneCell' = true := by
  intro u hu
  obtain ⟨k, hk⟩ := List.mem_iff_getElem?.1 hu
  have hlt : k < bs.length := by rw [← h.1]; exact (List.getElem?_eq_some_iff.1 hk).1
  obtain ⟨A, c, h1⟩ := h.2 k _ (List.getElem?_eq_getElem hlt)
  rw [hk] at h1
  injection h1 with h1
  subst h1
  rfl
theorem Heads.app {vs ws : List Value} {bs cs : List (List Off)} (h : Heads vs bs) (k : Heads ws cs) : Heads (vs ++ ws) (bs ++ cs) := by
  refine ⟨by simp [h.1, k.1], fun j l hj => ?_⟩
  by_cases hlt : j < bs.length
  · rw [List.getElem?_append_left hlt] at hj
    obtain ⟨A, c, h1⟩ := h.2 j l hj
    exact ⟨A, c, by rw [List.getElem?_append_left (by rw [h.1]; exact hlt)]; exact h1⟩
  · rw [List.getElem?_append_right (by omega)] at hj
    obtain ⟨A, c, h1⟩ := k.2 _ l hj
    exact ⟨A, c, by rw [List.getElem?_append_right (by rw [h.1]; omega), h.1]; exact h1⟩
theorem Heads.single {A : Option Addr} {c : Nat} (l : List Off) : Heads [.slice A l.length c] [l] := ⟨rfl, fun k l' hk => by
  cases k with
  | zero => simp at hk; subst hk; exact ⟨A, c, rfl⟩
  | succ k => simp at hk⟩

theorem great29_at {tr : List Off} {bs ts : List (List Off)} {k : Nat} {l : List Off} (h : (tr :: (bs ++ ts))[k]? = some l) (h40 : 40 < l.length) : great29 tr bs ts = true := by
  have : (tr :: (bs ++ ts)).any big40 = true := List.any_eq_true.2 ⟨l, List.mem_of_getElem? h, by simpa [big40] using h40⟩
  simp [great29, this]
theorem great29_none {tr : List Off} {bs ts : List (List Off)} (h : ∀ (j : Nat) (l : List Off), (tr :: (bs ++ ts))[j]? = some l → ¬ 40 < l.length) : great29 tr bs ts = (decide (40 < bs.length) || decide (40 < ts.length)) := by
  have : (tr :: (bs ++ ts)).any big40 = false := by
    rw [List.any_eq_false]
    intro l hl
    obtain ⟨j, hj⟩ := List.mem_iff_getElem?.1 hl
    simpa [big40] using h j l hj
  unfold great29
  rw [this, Bool.false_or]

set_option maxRecDepth 100000 in
set_option maxHeartbeats 1600000 in
theorem great29_any (n : Int) (bs : List (List Off)) (buyer r : Int) (tr : List Off) (ts : List (List Off)) (v vt vs : Value) (R Rt Rs : Nat → Prop) (w : World) (hl : Buys w R v bs) (ht : Offs w Rt vt tr) (hs : Buys w Rs vs ts)
    (hbl : bs.length ≤ 1048576) (htl : ts.length ≤ 1048576) :
    Calls Tryz.prog 4 #[.agg #[.int .i64 n, v, .int .i64 buyer, .int .i64 r, vt, vs]] w fun e w' => e = .returned (.bool (great29 tr bs ts)) ∧ Below w.heap.size w w' := by
  obtain ⟨vbs, ⟨hvl, Ab, cb, rfl, hb1, hb2, hb3⟩, hvb⟩ := id hl
  obtain ⟨vts, ⟨hvl2, As, cs, rfl, hs1, hs2, hs3⟩, hvt⟩ := id hs
  obtain ⟨⟨_, At, ct, rfl, _⟩, _⟩ := id ht
  have hhb : Heads vbs bs := ⟨by simpa using hvl, fun k l hk => let ⟨u, hu, ho⟩ := hvb k l hk; let ⟨⟨_, A, c, e, _⟩, _⟩ := ho; ⟨A, c, by rw [hu, e]⟩⟩
  have hht : Heads vts ts := ⟨by simpa using hvl2, fun k l hk => let ⟨u, hu, ho⟩ := hvt k l hk; let ⟨⟨_, A, c, e, _⟩, _⟩ := ho; ⟨A, c, by rw [hu, e]⟩⟩
  have HSB := Lib.hid (show Sl w R (.slice Ab bs.length cb) bs.length 1 vbs from ⟨hvl, Ab, cb, rfl, hb1, hb2, hb3⟩)
  have HST := Lib.hid (show Sl w Rs (.slice As ts.length cs) ts.length 1 vts from ⟨hvl2, As, cs, rfl, hs1, hs2, hs3⟩)
  have hall : Heads ([.slice At tr.length ct] ++ vbs ++ vts) (tr :: (bs ++ ts)) := by
    have := ((Heads.single (A := At) (c := ct) tr).app hhb).app hht
    simpa using this
  have HALL := Lib.hid hall
  have HHB := Lib.hid hhb
  have HHT := Lib.hid hht
  obtain ⟨ans, hans⟩ : ∃ a, a = great29 tr bs ts := ⟨_, rfl⟩
  rw [← hans]
  have HAN := Lib.hid hans
  clear hl ht hs hvl hb1 hb2 hb3 hvl2 hs1 hs2 hs3 hvb hvt hhb hht hall hans
  go_enter Tryz.func4, Tryz.ntmps4
  go_wp2_with fail
  obtain ⟨W0, hW0⟩ : ∃ V, V = w.alloc (.cells #[.int .i64 n, .slice Ab bs.length cb, .int .i64 buyer, .int .i64 r, .slice At tr.length ct, .slice As ts.length cs] 28) := ⟨_, rfl⟩
  have hx : Blk W0 w.heap.size 28 #[.int .i64 n, .slice Ab bs.length cb, .int .i64 buyer, .int .i64 r, .slice At tr.length ct, .slice As ts.length cs] := by rw [hW0]; exact Blk.new w _ _
  have HBW := Lib.hid (show Below w.heap.size w W0 from by rw [hW0]; exact (Below.refl _ _).alloc (Nat.le_refl _) _)
  have hs0 : W0.heap.size = w.heap.size + 1 := by rw [hW0]; simp
  have x1 : W0.cell? ⟨w.heap.size, 1, none⟩ = some (.slice Ab bs.length cb) := hx.cell 1
  have x4 : W0.cell? ⟨w.heap.size, 4, none⟩ = some (.slice At tr.length ct) := hx.cell 4
  have x5 : W0.cell? ⟨w.heap.size, 5, none⟩ = some (.slice As ts.length cs) := hx.cell 5
  rw [← hW0]
  have HX := Lib.hid hx
  clear hW0 hx
  refine wp_region_F (Below W0.heap.size W0) [] (by kernel_rfl) ((Below.refl _ _).drew) (fun hS => ?_)
  obtain ⟨V0, hV⟩ : ∃ V, V = W0.drew := ⟨_, rfl⟩
  have HP0 : Below W0.heap.size W0 V0 := by rw [hV]; exact (Below.refl _ _).drew
  have HSV := Lib.hid (show V0.heap.size = W0.heap.size by rw [hV]; simp)
  rw [← hV] at hS ⊢
  clear hV
  refine wpAnyF_take (i := 0) (oi := { dst := some 5, op := Go.Op.fieldAddr 28 (Go.Operand.tmp 1) 3, type := 0, pos := "law.go:87", after := #[], guard := none }) (v := ?_) rfl (by kernel_rfl) (by kernel_rfl) (by kernel_rfl) (by kernel_rfl) (fun _ _ _ h => h) (Or.inl ⟨by rfl, ?_⟩) hS ?_
  rotate_left
  · intro w' hSw; have q1 := (hSw.cell (p := ⟨w.heap.size, 1, none⟩) (by simp <;> omega)).trans x1; have q2 := (hSw.cell (p := ⟨w.heap.size, 4, none⟩) (by simp <;> omega)).trans x4; have q3 := (hSw.cell (p := ⟨w.heap.size, 5, none⟩) (by simp <;> omega)).trans x5; go_simp; try with_reducible rfl
  try simp only [Act.put, List.setIfInBounds_toArray, List.set_cons_zero, List.set_cons_succ]
  refine wpAnyF_take (i := 1) (oi := { dst := some 6, op := Go.Op.load 26 (Go.Operand.tmp 5), type := 26, pos := "law.go:87", after := #[{ on := 0, ground := Go.Ground.data }], guard := none }) (v := ?_) rfl (by kernel_rfl) (by kernel_rfl) (by kernel_rfl) (by kernel_rfl) (fun _ _ _ h => h) (Or.inl ⟨by rfl, ?_⟩) hS ?_
  rotate_left
  · intro w' hSw; have q1 := (hSw.cell (p := ⟨w.heap.size, 1, none⟩) (by simp <;> omega)).trans x1; have q2 := (hSw.cell (p := ⟨w.heap.size, 4, none⟩) (by simp <;> omega)).trans x4; have q3 := (hSw.cell (p := ⟨w.heap.size, 5, none⟩) (by simp <;> omega)).trans x5; go_simp; try with_reducible rfl
  try simp only [Act.put, List.setIfInBounds_toArray, List.set_cons_zero, List.set_cons_succ]
  refine wpAnyF_take (i := 3) (oi := { dst := some 8, op := Go.Op.fieldAddr 28 (Go.Operand.tmp 1) 0, type := 0, pos := "law.go:87", after := #[], guard := none }) (v := ?_) rfl (by kernel_rfl) (by kernel_rfl) (by kernel_rfl) (by kernel_rfl) (fun _ _ _ h => h) (Or.inl ⟨by rfl, ?_⟩) hS ?_
  rotate_left
  · intro w' hSw; have q1 := (hSw.cell (p := ⟨w.heap.size, 1, none⟩) (by simp <;> omega)).trans x1; have q2 := (hSw.cell (p := ⟨w.heap.size, 4, none⟩) (by simp <;> omega)).trans x4; have q3 := (hSw.cell (p := ⟨w.heap.size, 5, none⟩) (by simp <;> omega)).trans x5; go_simp; try with_reducible rfl
  try simp only [Act.put, List.setIfInBounds_toArray, List.set_cons_zero, List.set_cons_succ]
  refine wpAnyF_take (i := 4) (oi := { dst := some 9, op := Go.Op.fieldAddr 24 (Go.Operand.tmp 8) 1, type := 0, pos := "law.go:87", after := #[{ on := 3, ground := Go.Ground.data }], guard := none }) (v := ?_) rfl (by kernel_rfl) (by kernel_rfl) (by kernel_rfl) (by kernel_rfl) (fun _ _ _ h => h) (Or.inl ⟨by rfl, ?_⟩) hS ?_
  rotate_left
  · intro w' hSw; have q1 := (hSw.cell (p := ⟨w.heap.size, 1, none⟩) (by simp <;> omega)).trans x1; have q2 := (hSw.cell (p := ⟨w.heap.size, 4, none⟩) (by simp <;> omega)).trans x4; have q3 := (hSw.cell (p := ⟨w.heap.size, 5, none⟩) (by simp <;> omega)).trans x5; go_simp; try with_reducible rfl
  try simp only [Act.put, List.setIfInBounds_toArray, List.set_cons_zero, List.set_cons_succ]
  refine wpAnyF_take (i := 5) (oi := { dst := some 10, op := Go.Op.load 22 (Go.Operand.tmp 9), type := 22, pos := "law.go:87", after := #[{ on := 4, ground := Go.Ground.data }], guard := none }) (v := ?_) rfl (by kernel_rfl) (by kernel_rfl) (by kernel_rfl) (by kernel_rfl) (fun _ _ _ h => h) (Or.inl ⟨by rfl, ?_⟩) hS ?_
  rotate_left
  · intro w' hSw; have q1 := (hSw.cell (p := ⟨w.heap.size, 1, none⟩) (by simp <;> omega)).trans x1; have q2 := (hSw.cell (p := ⟨w.heap.size, 4, none⟩) (by simp <;> omega)).trans x4; have q3 := (hSw.cell (p := ⟨w.heap.size, 5, none⟩) (by simp <;> omega)).trans x5; go_simp; try with_reducible rfl
  try simp only [Act.put, List.setIfInBounds_toArray, List.set_cons_zero, List.set_cons_succ]
  refine wpAnyF_take (i := 7) (oi := { dst := some 12, op := Go.Op.fieldAddr 28 (Go.Operand.tmp 1) 4, type := 0, pos := "law.go:87", after := #[], guard := none }) (v := ?_) rfl (by kernel_rfl) (by kernel_rfl) (by kernel_rfl) (by kernel_rfl) (fun _ _ _ h => h) (Or.inl ⟨by rfl, ?_⟩) hS ?_
  rotate_left
  · intro w' hSw; have q1 := (hSw.cell (p := ⟨w.heap.size, 1, none⟩) (by simp <;> omega)).trans x1; have q2 := (hSw.cell (p := ⟨w.heap.size, 4, none⟩) (by simp <;> omega)).trans x4; have q3 := (hSw.cell (p := ⟨w.heap.size, 5, none⟩) (by simp <;> omega)).trans x5; go_simp; try with_reducible rfl
  try simp only [Act.put, List.setIfInBounds_toArray, List.set_cons_zero, List.set_cons_succ]
  refine wpAnyF_take (i := 8) (oi := { dst := some 13, op := Go.Op.load 22 (Go.Operand.tmp 12), type := 22, pos := "law.go:87", after := #[{ on := 7, ground := Go.Ground.data }], guard := none }) (v := ?_) rfl (by kernel_rfl) (by kernel_rfl) (by kernel_rfl) (by kernel_rfl) (fun _ _ _ h => h) (Or.inl ⟨by rfl, ?_⟩) hS ?_
  rotate_left
  · intro w' hSw; have q1 := (hSw.cell (p := ⟨w.heap.size, 1, none⟩) (by simp <;> omega)).trans x1; have q2 := (hSw.cell (p := ⟨w.heap.size, 4, none⟩) (by simp <;> omega)).trans x4; have q3 := (hSw.cell (p := ⟨w.heap.size, 5, none⟩) (by simp <;> omega)).trans x5; go_simp; try with_reducible rfl
  try simp only [Act.put, List.setIfInBounds_toArray, List.set_cons_zero, List.set_cons_succ]
  refine wpAnyF_ready (rs := [2]) (by kernel_rfl) (by simp) ?_
  refine AllReadyF.cons (o := { dst := some 7, op := Go.Op.buildSlice 22 1 #[(0, Go.Operand.tmp 6)], type := 22, pos := "law.go:87", after := #[{ on := 1, ground := Go.Ground.data }], guard := none }) rfl (by rfl) (fun K hK => ?_) ?_
  · go_simp
    refine hK.out _ _ ?_ (fun hS => ?_)
    · exact HP0.alloc (by have := HSV.out; omega) _
    clear hK K
    try simp only [Act.put, List.setIfInBounds_toArray, List.set_cons_zero, List.set_cons_succ]
    have hB := HP0.alloc (by have := HSV.out; omega) (.cells #[.slice At tr.length ct] 26)
    have hO : (V0.alloc (.cells #[.slice At tr.length ct] 26)).ownsRow W0.heap.size 26 1 (.slice (some ⟨V0.heap.size, 0, none⟩) 1 1) 1 [.slice At tr.length ct] := World.ownsRow_lit V0 #[.slice At tr.length ct] 1 (by have := HSV.out; omega) (by unfold maxLen; omega) rfl
    obtain ⟨V1, hV⟩ : ∃ V, V = V0.alloc (.cells #[.slice At tr.length ct] 26) := ⟨_, rfl⟩
    rw [← hV] at hB hO hS ⊢
    have HP1 := Lib.hid hB
    have HO1 := Lib.hid hO
    clear hV hB hO
    refine wpAnyF_ready (rs := [6]) (by kernel_rfl) (by simp) ?_
    refine AllReadyF.cons (o := { dst := some 11, op := Go.Op.call { callee := Go.Callee.builtin Go.Builtin.append, args := #[Go.Operand.tmp 7, Go.Operand.tmp 10], argTypes := #[22, 22] }, type := 22, pos := "law.go:87", after := #[{ on := 2, ground := Go.Ground.data }, { on := 5, ground := Go.Ground.data }], guard := none }) rfl (by rfl) (fun K hK => ?_) ?_
    · refine step_app V1 rfl (.tmp 7) (.tmp 10) et_offs rfl W0.heap.size (.slice (some ⟨V0.heap.size, 0, none⟩) 1 1) 1 [.slice At tr.length ct] rfl HO1.out R (.slice Ab bs.length cb) bs.length vbs rfl (HSB.out.grow (HBW.out.trans (HP1.out.mono HBW.out.size))) HHB.out.one (by omega) (by unfold maxLen; omega) (by have := HP1.out.size; omega) ?_
      intro A2 c2 V2 hown hg hloc
      refine hK.out _ _ ?_ (fun hS => ?_)
      · exact HP1.out.grown hg (by have := HP1.out.size; omega) (fun g e => (HO1.out.lt g e).1)
      clear hK K
      try simp only [Act.put, List.setIfInBounds_toArray, List.set_cons_zero, List.set_cons_succ]
      have HP2 := Lib.hid (HP1.out.grown hg (by have := HP1.out.size; omega) (fun g e => (HO1.out.lt g e).1))
      have HO2 := Lib.hid hown
      clear hown hg hloc
      refine wpAnyF_ready (rs := [9]) (by kernel_rfl) (by simp) ?_
      refine AllReadyF.cons (o := { dst := some 14, op := Go.Op.call { callee := Go.Callee.builtin Go.Builtin.append, args := #[Go.Operand.tmp 11, Go.Operand.tmp 13], argTypes := #[22, 22] }, type := 22, pos := "law.go:87", after := #[{ on := 6, ground := Go.Ground.data }, { on := 8, ground := Go.Ground.data }, { on := 6, ground := Go.Ground.chain }], guard := none }) rfl (by rfl) (fun K hK => ?_) ?_
      · refine step_app V2 rfl (.tmp 11) (.tmp 13) et_offs rfl W0.heap.size (.slice A2 (1 + bs.length) c2) (1 + bs.length) ([.slice At tr.length ct] ++ vbs) rfl HO2.out Rs (.slice As ts.length cs) ts.length vts rfl (HST.out.grow (HBW.out.trans (HP2.out.mono HBW.out.size))) HHT.out.one (by omega) (by unfold maxLen; omega) (by have := HP2.out.size; omega) ?_
        intro A3 c3 V3 hown hg hloc
        refine hK.out _ _ ?_ (fun hS => ?_)
        · exact HP2.out.grown hg (by have := HP2.out.size; omega) (fun g e => (HO2.out.lt g e).1)
        clear hK K
        try simp only [Act.put, List.setIfInBounds_toArray, List.set_cons_zero, List.set_cons_succ]
        have HP3 := Lib.hid (HP2.out.grown hg (by have := HP2.out.size; omega) (fun g e => (HO2.out.lt g e).1))
        have HO3 := Lib.hid hown
        clear hown hg hloc
        refine wpAnyF_take (i := 10) (oi := { dst := some 3, op := Go.Op.assign (Go.Operand.tmp 14), type := 22, pos := "law.go:87", after := #[{ on := 9, ground := Go.Ground.data }, { on := 9, ground := Go.Ground.chain }, { on := 0, ground := Go.Ground.phase }, { on := 1, ground := Go.Ground.phase }, { on := 2, ground := Go.Ground.phase }, { on := 3, ground := Go.Ground.phase }, { on := 4, ground := Go.Ground.phase }, { on := 5, ground := Go.Ground.phase }, { on := 6, ground := Go.Ground.phase }, { on := 7, ground := Go.Ground.phase }, { on := 8, ground := Go.Ground.phase }, { on := 9, ground := Go.Ground.phase }], guard := none }) (v := ?_) rfl (by kernel_rfl) (by kernel_rfl) (by kernel_rfl) (by kernel_rfl) (fun _ _ _ h => h) (Or.inl ⟨by rfl, ?_⟩) hS ?_
        rotate_left
        · intro w' hSw; have q1 := (hSw.cell (p := ⟨w.heap.size, 1, none⟩) (by simp <;> omega)).trans x1; have q2 := (hSw.cell (p := ⟨w.heap.size, 4, none⟩) (by simp <;> omega)).trans x4; have q3 := (hSw.cell (p := ⟨w.heap.size, 5, none⟩) (by simp <;> omega)).trans x5; go_simp; try with_reducible rfl
        try simp only [Act.put, List.setIfInBounds_toArray, List.set_cons_zero, List.set_cons_succ]
        refine wpAnyF_done (by kernel_rfl) ?_ _
        clear hS
        have HSL := Lib.hid (Sl.of_own HO3.out)
        obtain ⟨N, hN⟩ : ∃ N, N = 1 + bs.length + ts.length := ⟨_, rfl⟩
        rw [← hN] at HSL ⊢
        have HL := Lib.hid (show (tr :: (bs ++ ts)).length = N from by rw [hN]; simp; omega)
        have HBZ := Lib.hid (HBW.out.trans (HP3.out.mono HBW.out.size))
        have hx3 := HX.out.grow HP3.out
        have y1 : V3.cell? ⟨w.heap.size, 1, none⟩ = some (.slice Ab bs.length cb) := hx3.cell 1
        have y5 : V3.cell? ⟨w.heap.size, 5, none⟩ = some (.slice As ts.length cs) := hx3.cell 5
        clear hx3 x1 x4 x5 HO1 HO2 HO3 HP1 HP2 HP3 HP0 HSV HSB HST HX HHB HHT HBW
        go_wp2_with fail
        go_loopw [4] (fun i wr => ∃ k : Nat, k ≤ N ∧ i = .int .i64 k ∧ (∀ (j : Nat) (l : List Off), j < k → (tr :: (bs ++ ts))[j]? = some l → ¬ 40 < l.length) ∧ wr = V3) (fun i _ => N - (intOf i).toNat)
        case atStart => exact ⟨0, Nat.zero_le _, rfl, fun j l h => absurd h (by omega), rfl⟩
        case round =>
          obtain ⟨k, hk, rfl, hnone, rfl⟩ := hrel
          have HN := Lib.hid hnone
          clear hnone
          by_cases hlt : k < N
          · obtain ⟨l, hlk⟩ : ∃ l, (tr :: (bs ++ ts))[k]? = some l := ⟨_, List.getElem?_eq_getElem (by rw [HL.out]; exact hlt)⟩
            obtain ⟨A5, c5, hv5⟩ := HALL.out.2 k l hlk
            obtain ⟨_, A6, c6, hv6, _, _, hcs⟩ := HSL.out
            injection hv6 with hA6 _ hc6
            subst hA6 hc6
            obtain ⟨bq, of, rfl, _, hbq, hcell⟩ := hcs (by omega)
            have c0 : wr.cell? ⟨bq, of + k, none⟩ = some (.slice A5 l.length c5) := hcell k _ hv5
            have HLK := Lib.hid hlk
            have e0 : (0 : Int) ≤ (k : Int) := by omega
            have e1 : (k : Int) < (N : Int) := by omega
            clear hlk hv5 hcs hcell
            by_cases h40 : 40 < l.length
            · have h40i : (40 : Int) < (l.length : Int) := by omega
              have HA := Lib.hid (show ans = true from by rw [HAN.out]; exact great29_at HLK.out h40)
              go_wp2_with fail
              go_ret
              exact ⟨by rw [HA.out]; rfl, HBZ.out⟩
            · have h40i : ¬ (40 : Int) < (l.length : Int) := by omega
              go_wp2_with fail
              go_roundw
              case rel =>
                refine ⟨k + 1, by omega, by go_num, fun j x hj hx => ?_, trivial⟩
                rcases Nat.lt_or_ge j k with h | h
                · exact HN.out j x h hx
                · obtain rfl : j = k := by omega
                  rw [HLK.out] at hx
                  injection hx with hx
                  rw [← hx]
                  exact h40
              case measure => simp [intOf]; omega
          · obtain rfl : k = N := by omega
            have HA := Lib.hid (show ans = (decide (40 < bs.length) || decide (40 < ts.length)) from by
              rw [HAN.out]
              exact great29_none fun j l hj => HN.out j l (by rw [← HL.out]; exact (List.getElem?_eq_some_iff.1 hj).1) hj)
            by_cases h1 : 40 < bs.length
            · have h1i : (40 : Int) < (bs.length : Int) := by omega
              go_wp2_with fail
              go_ret
              exact ⟨by rw [HA.out]; simp [h1], HBZ.out⟩
            · have h1i : ¬ (40 : Int) < (bs.length : Int) := by omega
              by_cases h2 : 40 < ts.length
              · have h2i : (40 : Int) < (ts.length : Int) := by omega
                go_wp2_with fail
                go_ret
                exact ⟨by rw [HA.out]; simp [h1, h2], HBZ.out⟩
              · have h2i : ¬ (40 : Int) < (ts.length : Int) := by omega
                go_wp2_with fail
                go_ret
                exact ⟨by rw [HA.out]; simp [h1, h2], HBZ.out⟩
      exact AllReadyF.nil
    exact AllReadyF.nil
  exact AllReadyF.nil
end Go.Proofs.YtcigobiolbojhaaGreat.Vb

/- Joined by program: RefLower RefLeast PlainG RefSteps RefPay TruI TruJ TruL. -/
import Derived.Test.YtcigobiolbojhaaZl
import Derived.Test.YtcigobiolbojhaaZg
import Derived.Test.YtcigobiolbojhaaZi
import Derived.Test.YtcigobiolbojhaaZj
/- The reference of layer 18: Lower. -/
namespace Go.Proofs.Ytcigobiolbojhaa.Vb
open Go.RowKit

end Go.Proofs.Ytcigobiolbojhaa.Vb

/- The reference of layer 18: least. -/
namespace Go.Proofs.Ytcigobiolbojhaa.Vb
open Go.RowKit

end Go.Proofs.Ytcigobiolbojhaa.Vb

/- CoreStands: the steps, one behind the other. -/
namespace Go.Proofs.Ytcigobiolbojhaa.Vb
open Go.RowKit

def atOf (pre : List (Int × List Int)) : Int := match pre.getLast? with | some x => x.1 | none => -1
def lastOf (pre : List (Int × List Int)) : Int := match pre.getLast? with | some x => sumI x.2 | none => -1
section
variable {n : Int} {bs : List (List Off)}
def zipTo (n : Int) (bs : List (List Off)) (k : Nat) : List (Int × List Int) := (whoTo (bestC n bs) k).zip (rowsTo n bs k)
end
end Go.Proofs.Ytcigobiolbojhaa.Vb

/- The reference of layer 18: Steps. -/
namespace Go.Proofs.Ytcigobiolbojhaa.Vb
open Go.RowKit

def stepCells : List (Int × List Int) → List Value → List Value
  | z :: zs, u :: vs => .int .i64 z.1 :: u :: stepCells zs vs
  | _, _ => []
theorem stepCells_snoc : ∀ {zs : List (Int × List Int)} {vs : List Value} (z : Int × List Int) (u : Value), vs.length = zs.length → stepCells (zs ++ [z]) (vs ++ [u]) = stepCells zs vs ++ [.int .i64 z.1, u]
  | [], [], z, u, _ => rfl
  | z0 :: zs, u0 :: vs, z, u, h => by
    have := stepCells_snoc (zs := zs) (vs := vs) z u (by simpa using h)
    simp only [stepCells, List.cons_append, this]
/-- steps in memory of their own -/
def StepsR (w : World) (lo : Nat) (sl : Value) (zs : List (Int × List Int)) : Prop :=
  ∃ vs : List Value, vs.length = zs.length ∧ w.ownsRow lo 83 2 sl zs.length (stepCells zs vs) ∧ ∀ (j : Nat) (z : Int × List Int), zs[j]? = some z → ∃ u, vs[j]? = some u ∧ Sl w (fun b => lo ≤ b ∧ sl.ownBlock ≠ some b) u z.2.length 1 (ints z.2)
theorem StepsR.grow {w w' : World} {lo : Nat} {sl : Value} {zs : List (Int × List Int)} (h : StepsR w lo sl zs) (hb : Below w.heap.size w w') : StepsR w' lo sl zs := by
  obtain ⟨vs, h1, h2, h3⟩ := h
  exact ⟨vs, h1, own_grow h2 hb, fun j z hj => let ⟨u, hu, hs⟩ := h3 j z hj; ⟨u, hu, hs.grow hb⟩⟩
/-- what is written lies above lo, in no row of the steps -/
theorem StepsR.keep {w w' : World} {lo hi : Nat} {sl : Value} {zs : List (Int × List Int)} (h : StepsR w lo sl zs) (hk : KeepR lo hi w w') (hh : hi = w.heap.size) : StepsR w' lo sl zs := by
  subst hh
  obtain ⟨vs, h1, h2, h3⟩ := h
  refine ⟨vs, h1, ?_, fun j z hj => ?_⟩
  · obtain ⟨a, b | ⟨g, cap, cur, hv, hgb, hcur, hrest⟩⟩ := h2
    · exact ⟨a, .inl b⟩
    · exact ⟨a, .inr ⟨g, cap, cur, hv, hgb, (hk.same g hgb (Array.getElem?_eq_some_iff.1 hcur).1).trans hcur, hrest⟩⟩
  · obtain ⟨u, hu, hs⟩ := h3 j z hj
    refine ⟨u, hu, ?_⟩
    have := (hk.sl (hs.mono fun b hlt hb => ⟨hb.1, hlt⟩) : Sl w' (fun b => lo ≤ b ∧ b < w.heap.size) u z.2.length 1 (ints z.2))
    exact (Sl.keep (R := fun b => lo ≤ b ∧ sl.ownBlock ≠ some b) hs hk.size fun b hlt hb => hk.same b hb.1 hlt)

theorem sl_app {w w' : World} {lo n sz : Nat} {v u : Value} {m : Nat} {xs : List Value} {A' : Option Addr} {cap' : Nat} (h : Sl w (fun b => lo ≤ b ∧ v.ownBlock ≠ some b) u n sz xs) (hg : w.grownBy w' v.ownBlock)
    (hloc : (Value.slice A' m cap').ownBlock = v.ownBlock ∨ (Value.slice A' m cap').ownBlock = some w.heap.size) : Sl w' (fun b => lo ≤ b ∧ (Value.slice A' m cap').ownBlock ≠ some b) u n sz xs := by
  refine (h.sized.grown hg fun b _ hb e => hb.1.2 e.symm).mono fun b _ hb => ⟨hb.1.1, fun e => ?_⟩
  rcases hloc with e' | e'
  · exact hb.1.2 (e'.symm.trans e)
  · rw [e'] at e
    injection e with e
    omega
theorem StepsR.snoc {w w' : World} {lo m : Nat} {v : Value} {zs : List (Int × List Int)} {vs : List Value} {z : Int × List Int} {u : Value} {A' : Option Addr} {cap' : Nat} (hm : zs.length = m) (hv : vs.length = zs.length)
    (ho : ∀ (j : Nat) (z : Int × List Int), zs[j]? = some z → ∃ u, vs[j]? = some u ∧ Sl w (fun b => lo ≤ b ∧ v.ownBlock ≠ some b) u z.2.length 1 (ints z.2))
    (hu : Sl w (fun b => lo ≤ b ∧ v.ownBlock ≠ some b) u z.2.length 1 (ints z.2))
    (hown : w'.ownsRow lo 83 2 (.slice A' (m + 1) cap') (m + 1) (stepCells zs vs ++ [.int .i64 z.1, u])) (hg : w.grownBy w' v.ownBlock)
    (hloc : (Value.slice A' (m + 1) cap').ownBlock = v.ownBlock ∨ (Value.slice A' (m + 1) cap').ownBlock = some w.heap.size) : StepsR w' lo (.slice A' (m + 1) cap') (zs ++ [z]) := by
  subst hm
  refine ⟨vs ++ [u], by simp [hv], by rw [stepCells_snoc z u hv]; simpa using hown, fun j z' hj => ?_⟩
  by_cases hlt : j < zs.length
  · rw [List.getElem?_append_left hlt] at hj
    obtain ⟨u', hu', hs'⟩ := ho j z' hj
    exact ⟨u', by rw [List.getElem?_append_left (by omega)]; exact hu', sl_app hs' hg hloc⟩
  · have : j = zs.length := by
      rcases Nat.lt_or_ge j (zs ++ [z]).length with h | h
      · simp at h; omega
      · rw [List.getElem?_eq_none h] at hj; cases hj
    subst this
    simp at hj
    subst hj
    exact ⟨u, by rw [← hv]; simp, sl_app hu hg hloc⟩

end Go.Proofs.Ytcigobiolbojhaa.Vb

/- The reference of layer 18: Pay. -/
namespace Go.Proofs.Ytcigobiolbojhaa.Vb
open Go.RowKit

end Go.Proofs.Ytcigobiolbojhaa.Vb

/- gavelref29.by, Wrong, Package, Tries, Regret. -/
namespace Go.Proofs.Ytcigobiolbojhaa.Vb
open Go.RowKit

end Go.Proofs.Ytcigobiolbojhaa.Vb

/- gavelref29.Wrong, Package. -/
namespace Go.Proofs.Ytcigobiolbojhaa.Vb
open Go.RowKit

set_option maxRecDepth 100000 in
set_option maxHeartbeats 3200000 in
theorem refWrong_any (n : Int) (bs : List (List Off)) (buyer r : Int) (tr : List Off) (ts : List (List Off)) (v vt vs : Value) (R Rt Rs : Nat → Prop) (w : World) (hl : Buys w R v bs) (ht : Offs w Rt vt tr) (hs : Buys w Rs vs ts)
    (hts : ts.length ≤ 1000000) (hb : -9223372036854775808 ≤ buyer ∧ buyer ≤ 9223372036854775807) (hr : -9223372036854775808 ≤ r ∧ r ≤ 9223372036854775807) :
    Calls Try.prog 74 #[.agg #[.int .i64 n, v], .int .i64 buyer, .int .i64 r, vt, vs] w fun e w' => e = .returned (.int .i64 (askedE n bs buyer r (tr :: ts))) ∧ Below w.heap.size w w' := by
  obtain ⟨_, ⟨_, A, cap, rfl, _, hcm, _⟩, _⟩ := id hl
  obtain ⟨⟨_, At, capt, rfl, _⟩, _⟩ := id ht
  obtain ⟨vts, ⟨hvl, As, caps, rfl, hsl1, hsl2, hsl3⟩, hvs⟩ := id hs
  have HSL := Lib.hid (show Sl w Rs (.slice As ts.length caps) ts.length 1 vts from ⟨hvl, As, caps, rfl, hsl1, hsl2, hsl3⟩)
  have HVS := Lib.hid hvs
  clear hsl1 hsl2 hsl3 hvs
  have HBS := Lib.hid hl
  have HT := Lib.hid ht
  have HS := Lib.hid hs
  unfold maxLen at hcm
  clear hl ht hs
  have hie := instE_bd n bs
  have hck := checkE_bd n tr
  obtain ⟨ans, hans⟩ : ∃ a, a = askedE n bs buyer r (tr :: ts) := ⟨_, rfl⟩
  rw [← hans]
  have HAN := Lib.hid hans
  obtain ⟨ie, hiee⟩ : ∃ z, z = instE n bs := ⟨_, rfl⟩
  rw [← hiee] at hie
  have HIE := Lib.hid hiee
  obtain ⟨ck, hcke⟩ : ∃ z, z = checkE n tr := ⟨_, rfl⟩
  rw [← hcke] at hck
  have HCK := Lib.hid hcke
  clear hans hiee hcke
  go_enter Try.func74, Try.ntmps74
  go_wp2_with fail
  refine (refInstance_any n bs _ R (w.alloc (.cells #[.int .i64 n, .slice A bs.length cap] 24)) (HBS.out.alloc _)).mono ?_
  rintro e w1 ⟨rfl, hb1⟩
  rw [← HIE.out]
  have hx := (Blk.new w 24 #[.int .i64 n, .slice A bs.length cap]).grow hb1
  have x0 : w1.cell? ⟨w.heap.size, 0, none⟩ = some (.int .i64 n) := hx.cell 0
  have x1 : w1.cell? ⟨w.heap.size, 1, none⟩ = some (.slice A bs.length cap) := hx.cell 1
  have HX := Lib.hid hx
  have HB1 := Lib.hid (((Below.refl w.heap.size w).alloc (Nat.le_refl _) (.cells #[.int .i64 n, .slice A bs.length cap] 24)).trans (hb1.mono (by simp)))
  clear hx hb1
  by_cases hz : ie = 0
  · subst hz
    have HAN1 := Lib.hid (show ans = if buyer < 0 ∨ (bs.length : Int) ≤ buyer ∨ ¬(r = 1 ∨ r = 2) then 2 else firstE n (tr :: ts) from by rw [HAN.out]; unfold askedE; rw [← HIE.out, if_neg (by simp)])
    by_cases hb0 : buyer < 0
    · have HA := Lib.hid (show ans = 2 from by rw [HAN1.out, if_pos (.inl hb0)])
      go_wp2_with fail
      go_ret
      exact ⟨by rw [HA.out]; rfl, HB1.out⟩
    by_cases hb2 : (bs.length : Int) ≤ buyer
    · have HA := Lib.hid (show ans = 2 from by rw [HAN1.out, if_pos (.inr (.inl hb2))])
      go_wp2_with fail
      go_ret
      exact ⟨by rw [HA.out]; rfl, HB1.out⟩
    by_cases hr1 : r < 1
    · have HA := Lib.hid (show ans = 2 from by rw [HAN1.out, if_pos (.inr (.inr (by omega)))])
      go_wp2_with fail
      go_ret
      exact ⟨by rw [HA.out]; rfl, HB1.out⟩
    by_cases hr2 : 2 < r
    · have HA := Lib.hid (show ans = 2 from by rw [HAN1.out, if_pos (.inr (.inr (by omega)))])
      go_wp2_with fail
      go_ret
      exact ⟨by rw [HA.out]; rfl, HB1.out⟩
    have HAN2 := Lib.hid (show ans = firstE n (tr :: ts) from by rw [HAN1.out, if_neg (by omega)])
    go_wp2_with fail
    refine (refCheck_any n tr _ Rt w1 (HT.out.grow HB1.out)).mono ?_
    rintro e w2 ⟨rfl, hb2'⟩
    rw [← HCK.out]
    have hx2 := HX.out.grow hb2'
    have HX2 := Lib.hid hx2
    have HB2 := Lib.hid (HB1.out.trans (hb2'.mono HB1.out.size))
    clear hx2 hb2' x0 x1 HX
    by_cases hz2 : ck = 0
    · subst hz2
      go_wp2_with fail
      go_loopw [13, 14] (fun f i wr => ∃ k : Nat, k ≤ ts.length ∧ i = .int .i64 k ∧ f = .int .i64 0 ∧ (∀ (j : Nat) (x : List Off), j < k → ts[j]? = some x → checkE n x = 0) ∧ Below w2.heap.size w2 wr) (fun _ i _ => ts.length - (intOf i).toNat)
      case atStart => exact ⟨0, Nat.zero_le _, rfl, rfl, fun j x h => absurd h (by omega), Below.refl _ _⟩
      case round =>
        obtain ⟨k, hk, rfl, rfl, hnone, hbr⟩ := hrel
        have HN := Lib.hid hnone
        have HBR := Lib.hid hbr
        have HBW := Lib.hid (HB2.out.trans (hbr.mono HB2.out.size))
        by_cases hlt : k < ts.length
        · obtain ⟨l, hlk⟩ : ∃ l, ts[k]? = some l := ⟨_, List.getElem?_eq_getElem hlt⟩
          obtain ⟨bq, of, u, rfl, hbq, hcu, hou⟩ := (HS.out.grow HBW.out).at_ hlk
          obtain ⟨⟨_, Au, cu, rfl, _⟩, _⟩ := id hou
          have x0 : wr.cell? ⟨w.heap.size, 0, none⟩ = some (.int .i64 n) := (HX2.out.grow hbr).cell 0
          have hx0 := World.block_lt_of_cell? _ _ x0
          have hck2 := checkE_bd n l
          obtain ⟨c2, hc2⟩ : ∃ z, z = checkE n l := ⟨_, rfl⟩
          rw [← hc2] at hck2
          have HC2 := Lib.hid hc2
          have HOU := Lib.hid hou
          have HLK := Lib.hid hlk
          have e0 : (0 : Int) ≤ (k : Int) := by omega
          have e1 : (k : Int) < (ts.length : Int) := by omega
          clear hnone hbr hlk hou hc2
          go_wp2_with fail
          refine wp_region_F (Below wr.heap.size wr) [] (by kernel_rfl) ((Below.refl _ _).drew) (fun hS => ?_)
          refine wpAnyF_take (i := 0) (oi := { dst := some 54, op := Go.Op.fieldAddr 24 (Go.Operand.tmp 5) 0, type := 0, pos := "ref.go:127", after := #[], guard := none }) (v := ?_) rfl (by kernel_rfl) (by kernel_rfl) (by kernel_rfl) (by kernel_rfl) (fun _ _ _ h => h) (Or.inl ⟨by rfl, ?_⟩) hS ?_
          rotate_left
          · intro w' hSw; have q1 := (hSw.cell (p := ⟨w.heap.size, 0, none⟩) hx0).trans x0; have q2 := (hSw.cell (p := ⟨bq, of + k, none⟩) hbq).trans hcu; go_simp; try with_reducible rfl
          try simp only [Act.put, List.setIfInBounds_toArray, List.set_cons_zero, List.set_cons_succ]
          refine wpAnyF_take (i := 1) (oi := { dst := some 55, op := Go.Op.load 3 (Go.Operand.tmp 54), type := 3, pos := "ref.go:127", after := #[{ on := 0, ground := Go.Ground.data }], guard := none }) (v := ?_) rfl (by kernel_rfl) (by kernel_rfl) (by kernel_rfl) (by kernel_rfl) (fun _ _ _ h => h) (Or.inl ⟨by rfl, ?_⟩) hS ?_
          rotate_left
          · intro w' hSw; have q1 := (hSw.cell (p := ⟨w.heap.size, 0, none⟩) hx0).trans x0; have q2 := (hSw.cell (p := ⟨bq, of + k, none⟩) hbq).trans hcu; go_simp; try with_reducible rfl
          try simp only [Act.put, List.setIfInBounds_toArray, List.set_cons_zero, List.set_cons_succ]
          refine wpAnyF_take (i := 2) (oi := { dst := some 56, op := Go.Op.move (Go.Operand.tmp 4), type := 22, pos := "ref.go:127", after := #[], guard := none }) (v := ?_) rfl (by kernel_rfl) (by kernel_rfl) (by kernel_rfl) (by kernel_rfl) (fun _ _ _ h => h) (Or.inl ⟨by rfl, ?_⟩) hS ?_
          rotate_left
          · intro w' hSw; have q1 := (hSw.cell (p := ⟨w.heap.size, 0, none⟩) hx0).trans x0; have q2 := (hSw.cell (p := ⟨bq, of + k, none⟩) hbq).trans hcu; go_simp; try with_reducible rfl
          try simp only [Act.put, List.setIfInBounds_toArray, List.set_cons_zero, List.set_cons_succ]
          refine wpAnyF_take (i := 3) (oi := { dst := some 57, op := Go.Op.move (Go.Operand.tmp 14), type := 3, pos := "ref.go:127", after := #[], guard := none }) (v := ?_) rfl (by kernel_rfl) (by kernel_rfl) (by kernel_rfl) (by kernel_rfl) (fun _ _ _ h => h) (Or.inl ⟨by rfl, ?_⟩) hS ?_
          rotate_left
          · intro w' hSw; have q1 := (hSw.cell (p := ⟨w.heap.size, 0, none⟩) hx0).trans x0; have q2 := (hSw.cell (p := ⟨bq, of + k, none⟩) hbq).trans hcu; go_simp; try with_reducible rfl
          try simp only [Act.put, List.setIfInBounds_toArray, List.set_cons_zero, List.set_cons_succ]
          refine wpAnyF_take (i := 4) (oi := { dst := some 58, op := Go.Op.indexAddr 22 (Go.Operand.tmp 56) (Go.Operand.tmp 57), type := 0, pos := "ref.go:127", after := #[{ on := 2, ground := Go.Ground.data }, { on := 3, ground := Go.Ground.data }], guard := none }) (v := ?_) rfl (by kernel_rfl) (by kernel_rfl) (by kernel_rfl) (by kernel_rfl) (fun _ _ _ h => h) (Or.inl ⟨by rfl, ?_⟩) hS ?_
          rotate_left
          · intro w' hSw; have q1 := (hSw.cell (p := ⟨w.heap.size, 0, none⟩) hx0).trans x0; have q2 := (hSw.cell (p := ⟨bq, of + k, none⟩) hbq).trans hcu; go_simp; try with_reducible rfl
          try simp only [Act.put, List.setIfInBounds_toArray, List.set_cons_zero, List.set_cons_succ]
          refine wpAnyF_take (i := 5) (oi := { dst := some 59, op := Go.Op.load 41 (Go.Operand.tmp 58), type := 41, pos := "ref.go:127", after := #[{ on := 4, ground := Go.Ground.data }], guard := none }) (v := ?_) rfl (by kernel_rfl) (by kernel_rfl) (by kernel_rfl) (by kernel_rfl) (fun _ _ _ h => h) (Or.inl ⟨by rfl, ?_⟩) hS ?_
          rotate_left
          · intro w' hSw; have q1 := (hSw.cell (p := ⟨w.heap.size, 0, none⟩) hx0).trans x0; have q2 := (hSw.cell (p := ⟨bq, of + k, none⟩) hbq).trans hcu; go_simp; try with_reducible rfl
          try simp only [Act.put, List.setIfInBounds_toArray, List.set_cons_zero, List.set_cons_succ]
          refine wpAnyF_ready (rs := [6]) (by kernel_rfl) (by simp) ?_
          refine AllReadyF.cons (o := { dst := some 60, op := Go.Op.call { callee := Go.Callee.value (Go.Operand.func 86), args := #[Go.Operand.tmp 55, Go.Operand.tmp 59], argTypes := #[3, 41] }, type := 141, pos := "ref.go:127", after := #[{ on := 1, ground := Go.Ground.data }, { on := 5, ground := Go.Ground.data }], guard := none }) rfl (by rfl) (fun K hK => ?_) ?_
          · go_simp
            refine (refCheck_any n l _ _ _ (HOU.out.grow (Below.refl _ _).drew)).mono ?_
            rintro e w3 ⟨rfl, hb3⟩
            rw [← HC2.out]
            refine hK.out _ _ ?_ (fun hS => ?_)
            · exact (Below.refl wr.heap.size wr).drew.trans (hb3.mono (by simp))
            clear hK K
            try simp only [Act.put, List.setIfInBounds_toArray, List.set_cons_zero, List.set_cons_succ]
            have HB3 := Lib.hid ((Below.refl wr.heap.size wr).drew.trans (hb3.mono (by simp)))
            clear hb3
            refine wpAnyF_take (i := 7) (oi := { dst := some 53, op := Go.Op.move (Go.Operand.tmp 60), type := 141, pos := "ref.go:127", after := #[{ on := 6, ground := Go.Ground.data }], guard := none }) (v := ?_) rfl (by kernel_rfl) (by kernel_rfl) (by kernel_rfl) (by kernel_rfl) (fun _ _ _ h => h) (Or.inl ⟨by rfl, ?_⟩) hS ?_
            rotate_left
            · intro w' hSw; have q1 := (hSw.cell (p := ⟨w.heap.size, 0, none⟩) hx0).trans x0; have q2 := (hSw.cell (p := ⟨bq, of + k, none⟩) hbq).trans hcu; go_simp; try with_reducible rfl
            try simp only [Act.put, List.setIfInBounds_toArray, List.set_cons_zero, List.set_cons_succ]
            refine wpAnyF_take (i := 8) (oi := { dst := some 61, op := Go.Op.extract (Go.Operand.tmp 53) 0, type := 3, pos := "ref.go:127", after := #[{ on := 7, ground := Go.Ground.data }], guard := none }) (v := ?_) rfl (by kernel_rfl) (by kernel_rfl) (by kernel_rfl) (by kernel_rfl) (fun _ _ _ h => h) (Or.inl ⟨by rfl, ?_⟩) hS ?_
            rotate_left
            · intro w' hSw; have q1 := (hSw.cell (p := ⟨w.heap.size, 0, none⟩) hx0).trans x0; have q2 := (hSw.cell (p := ⟨bq, of + k, none⟩) hbq).trans hcu; go_simp; try with_reducible rfl
            try simp only [Act.put, List.setIfInBounds_toArray, List.set_cons_zero, List.set_cons_succ]
            refine wpAnyF_take (i := 9) (oi := { dst := some 62, op := Go.Op.extract (Go.Operand.tmp 53) 1, type := 3, pos := "ref.go:127", after := #[{ on := 7, ground := Go.Ground.data }], guard := none }) (v := ?_) rfl (by kernel_rfl) (by kernel_rfl) (by kernel_rfl) (by kernel_rfl) (fun _ _ _ h => h) (Or.inl ⟨by rfl, ?_⟩) hS ?_
            rotate_left
            · intro w' hSw; have q1 := (hSw.cell (p := ⟨w.heap.size, 0, none⟩) hx0).trans x0; have q2 := (hSw.cell (p := ⟨bq, of + k, none⟩) hbq).trans hcu; go_simp; try with_reducible rfl
            try simp only [Act.put, List.setIfInBounds_toArray, List.set_cons_zero, List.set_cons_succ]
            refine wpAnyF_take (i := 10) (oi := { dst := some 13, op := Go.Op.assign (Go.Operand.tmp 62), type := 3, pos := "ref.go:127", after := #[{ on := 9, ground := Go.Ground.data }, { on := 6, ground := Go.Ground.chain }, { on := 0, ground := Go.Ground.phase }, { on := 1, ground := Go.Ground.phase }, { on := 2, ground := Go.Ground.phase }, { on := 3, ground := Go.Ground.phase }, { on := 4, ground := Go.Ground.phase }, { on := 5, ground := Go.Ground.phase }, { on := 6, ground := Go.Ground.phase }, { on := 7, ground := Go.Ground.phase }, { on := 8, ground := Go.Ground.phase }, { on := 9, ground := Go.Ground.phase }], guard := none }) (v := ?_) rfl (by kernel_rfl) (by kernel_rfl) (by kernel_rfl) (by kernel_rfl) (fun _ _ _ h => h) (Or.inl ⟨by rfl, ?_⟩) hS ?_
            rotate_left
            · intro w' hSw; have q1 := (hSw.cell (p := ⟨w.heap.size, 0, none⟩) hx0).trans x0; have q2 := (hSw.cell (p := ⟨bq, of + k, none⟩) hbq).trans hcu; go_simp; try with_reducible rfl
            try simp only [Act.put, List.setIfInBounds_toArray, List.set_cons_zero, List.set_cons_succ]
            refine wpAnyF_done (by kernel_rfl) ?_ _
            clear hS
            by_cases hz3 : c2 = 0
            · subst hz3
              go_wp2_with fail
              go_roundw
              case rel =>
                refine ⟨k + 1, by omega, by go_num, rfl, fun j x hj hx => ?_, HBR.out.trans (HB3.out.mono HBR.out.size)⟩
                rcases Nat.lt_or_ge j k with h | h
                · exact HN.out j x h hx
                · obtain rfl : j = k := by omega
                  rw [HLK.out] at hx
                  injection hx with hx
                  rw [← hx]
                  exact HC2.out.symm
              case measure => simp [intOf]; omega
            · have hz3b : (c2 != 0) = true := by simpa using hz3
              have HA := Lib.hid (show ans = c2 from by
                rw [HAN2.out]
                have h1 : firstE n (tr :: ts) = firstE n ts := by simp [firstE, ← HCK.out]
                rw [h1, HC2.out]
                exact firstE_at HLK.out (by rw [← HC2.out]; exact hz3) HN.out)
              go_wp2_with fail
              go_ret
              exact ⟨by rw [HA.out]; rfl, HBW.out.trans (HB3.out.mono HBW.out.size)⟩
          exact AllReadyF.nil
        · obtain rfl : k = ts.length := by omega
          have HA := Lib.hid (show ans = 0 from by
            rw [HAN2.out]
            refine firstE_none fun l hl => ?_
            rcases List.mem_cons.1 hl with rfl | h
            · exact HCK.out.symm
            · obtain ⟨j, hj⟩ := List.mem_iff_getElem?.1 h
              exact HN.out j l (List.getElem?_eq_some_iff.1 hj).1 hj)
          clear hnone hbr
          go_wp2_with fail
          go_ret
          exact ⟨by rw [HA.out]; rfl, HBW.out⟩
    · have hz2b : (ck != 0) = true := by simpa using hz2
      have HA := Lib.hid (show ans = ck from by rw [HAN2.out]; simp [firstE, ← HCK.out, hz2])
      go_wp2_with fail
      go_ret
      exact ⟨by rw [HA.out]; rfl, HB2.out⟩
  · have hzb : (ie != 0) = true := by simpa using hz
    have HA := Lib.hid (show ans = ie from by rw [HAN.out]; unfold askedE; rw [← HIE.out, if_pos hz])
    go_wp2_with fail
    go_ret
    exact ⟨by rw [HA.out]; rfl, HB1.out⟩

end Go.Proofs.Ytcigobiolbojhaa.Vb

/- Law 29's own: great, given. -/
namespace Go.Proofs.Ytcigobiolbojhaa.Vb
open Go.RowKit

def put6 (W : World) (b : Nat) (u0 u1 u2 u3 u4 u5 : Value) : World := (((((W.setCell ⟨b, 0, none⟩ u0).setCell ⟨b, 1, none⟩ u1).setCell ⟨b, 2, none⟩ u2).setCell ⟨b, 3, none⟩ u3).setCell ⟨b, 4, none⟩ u4).setCell ⟨b, 5, none⟩ u5
theorem LentO.put {W : World} {lo g c b : Nat} {l : List Off} (h : LentO W lo g c l) (hb : g ≠ b) (j : Nat) (u : Value) : LentO (W.setCell ⟨b, j, none⟩ u) lo g c l :=
  ⟨own_far h.1 (grownBy_setCell W ⟨b, j, none⟩ u) (fun k e e2 => by simp at e; simp [Value.ownBlock] at e2; omega), h.2⟩
theorem LentO.put6 {W : World} {lo g c b : Nat} {l : List Off} (h : LentO W lo g c l) (hb : g ≠ b) (u0 u1 u2 u3 u4 u5 : Value) : LentO (put6 W b u0 u1 u2 u3 u4 u5) lo g c l :=
  (((((h.put hb 0 u0).put hb 1 u1).put hb 2 u2).put hb 3 u3).put hb 4 u4).put hb 5 u5
theorem LentO.ne {W : World} {lo g c b : Nat} {l : List Off} {cs : Array Value} (h : LentO W lo g c l) (hy : Blk W b 115 cs) : g ≠ b := fun e => own_ne_blk h.1 hy (by decide) (by rw [e]; rfl)
theorem LentB.put {W : World} {lo b : Nat} {v : Value} {bs : List (List Off)} {cs : Array Value} (h : LentB W lo v bs) (hy : Blk W b 115 cs) (j : Nat) (u : Value) : LentB (W.setCell ⟨b, j, none⟩ u) lo v bs := by
  refine h.row (grownBy_setCell W ⟨b, j, none⟩ u) (fun g e e2 => ?_) (fun g c l hl e => ?_)
  · obtain ⟨vs, hs, _⟩ := h
    simp at e
    subst e
    exact own_ne_blk hs hy (by decide) e2
  · simp at e
    exact hl.ne hy e.symm
theorem LentB.low {W W' : World} {lo : Nat} {v : Value} {bs : List (List Off)} (h : LentB W lo v bs) {b : Nat} (hb : b < lo) (j : Nat) (u : Value) : LentB (W.setCell ⟨b, j, none⟩ u) lo v bs := h.far (grownBy_setCell W ⟨b, j, none⟩ u) (fun k e => by simp at e; omega)
/-- as far as given has come -/
structure GvI (lo yb : Nat) (n buyer r : Int) (g c : Nat) (tr : List Off) (vb vs : Value) (bs ts : List (List Off)) (W : World) : Prop where
  y : Blk W yb 115 #[.int .i64 n, vb, .int .i64 buyer, .int .i64 r, .slice (some ⟨g, 0, none⟩) tr.length c, vs]
  tt : LentO W lo g c tr
  ob : LentB W lo vb bs
  ot : LentB W lo vs ts
  sep : ∀ k, vb.ownBlock = some k → vs.ownBlock ≠ some k
theorem GvI.grow {lo yb g c : Nat} {n buyer r : Int} {tr : List Off} {vb vs : Value} {bs ts : List (List Off)} {W W' : World} (h : GvI lo yb n buyer r g c tr vb vs bs ts W) (hb : Below W.heap.size W W') : GvI lo yb n buyer r g c tr vb vs bs ts W' :=
  ⟨h.y.grow hb, h.tt.grow hb, h.ob.grow hb, h.ot.grow hb, h.sep⟩
/-- the slices' heads -/
def Heads (vs : List Value) (bs : List (List Off)) : Prop := vs.length = bs.length ∧ ∀ (k : Nat) (l : List Off), bs[k]? = some l → ∃ A c, vs[k]? = some (.slice A l.length c)
theorem Heads.one {vs : List Value} {bs : List (List Off)} (h : Heads vs bs) : ∀ u ∈ vs, u.oneCell' = true := by
  intro u hu
  obtain ⟨k, hk⟩ := List.mem_iff_getElem?.1 hu
  have hlt : k < bs.length := by rw [← h.1]; exact (List.getElem?_eq_some_iff.1 hk).1
  obtain ⟨A, c, h1⟩ := h.2 k _ (List.getElem?_eq_getElem hlt)
  rw [hk] at h1
  injection h1 with h1
  subst h1
  rfl
theorem Heads.app {vs ws : List Value} {bs cs : List (List Off)} (h : Heads vs bs) (k : Heads ws cs) : Heads (vs ++ ws) (bs ++ cs) := by
  refine ⟨by simp [h.1, k.1], fun j l hj => ?_⟩
  by_cases hlt : j < bs.length
  · rw [List.getElem?_append_left hlt] at hj
    obtain ⟨A, c, h1⟩ := h.2 j l hj
    exact ⟨A, c, by rw [List.getElem?_append_left (by rw [h.1]; exact hlt)]; exact h1⟩
  · rw [List.getElem?_append_right (by omega)] at hj
    obtain ⟨A, c, h1⟩ := k.2 _ l hj
    exact ⟨A, c, by rw [List.getElem?_append_right (by rw [h.1]; omega), h.1]; exact h1⟩
theorem Heads.single {A : Option Addr} {c : Nat} (l : List Off) : Heads [.slice A l.length c] [l] := ⟨rfl, fun k l' hk => by
  cases k with
  | zero => simp at hk; subst hk; exact ⟨A, c, rfl⟩
  | succ k => simp at hk⟩

theorem great29_at {tr : List Off} {bs ts : List (List Off)} {k : Nat} {l : List Off} (h : (tr :: (bs ++ ts))[k]? = some l) (h40 : 40 < l.length) : great29 tr bs ts = true := by
  have : (tr :: (bs ++ ts)).any big40 = true := List.any_eq_true.2 ⟨l, List.mem_of_getElem? h, by simpa [big40] using h40⟩
  simp [great29, this]
theorem great29_none {tr : List Off} {bs ts : List (List Off)} (h : ∀ (j : Nat) (l : List Off), (tr :: (bs ++ ts))[j]? = some l → ¬ 40 < l.length) : great29 tr bs ts = (decide (40 < bs.length) || decide (40 < ts.length)) := by
  have : (tr :: (bs ++ ts)).any big40 = false := by
    rw [List.any_eq_false]
    intro l hl
    obtain ⟨j, hj⟩ := List.mem_iff_getElem?.1 hl
    simpa [big40] using h j l hj
  unfold great29
  rw [this, Bool.false_or]

set_option maxRecDepth 100000 in
set_option maxHeartbeats 1600000 in
theorem great29_any (n : Int) (bs : List (List Off)) (buyer r : Int) (tr : List Off) (ts : List (List Off)) (v vt vs : Value) (R Rt Rs : Nat → Prop) (w : World) (hl : Buys w R v bs) (ht : Offs w Rt vt tr) (hs : Buys w Rs vs ts)
    (hbl : bs.length ≤ 1048576) (htl : ts.length ≤ 1048576) :
    Calls Try.prog 67 #[.agg #[.int .i64 n, v, .int .i64 buyer, .int .i64 r, vt, vs]] w fun e w' => e = .returned (.bool (great29 tr bs ts)) ∧ Below w.heap.size w w' := by
  obtain ⟨vbs, ⟨hvl, Ab, cb, rfl, hb1, hb2, hb3⟩, hvb⟩ := id hl
  obtain ⟨vts, ⟨hvl2, As, cs, rfl, hs1, hs2, hs3⟩, hvt⟩ := id hs
  obtain ⟨⟨_, At, ct, rfl, _⟩, _⟩ := id ht
  have hhb : Heads vbs bs := ⟨by simpa using hvl, fun k l hk => let ⟨u, hu, ho⟩ := hvb k l hk; let ⟨⟨_, A, c, e, _⟩, _⟩ := ho; ⟨A, c, by rw [hu, e]⟩⟩
  have hht : Heads vts ts := ⟨by simpa using hvl2, fun k l hk => let ⟨u, hu, ho⟩ := hvt k l hk; let ⟨⟨_, A, c, e, _⟩, _⟩ := ho; ⟨A, c, by rw [hu, e]⟩⟩
  have HSB := Lib.hid (show Sl w R (.slice Ab bs.length cb) bs.length 1 vbs from ⟨hvl, Ab, cb, rfl, hb1, hb2, hb3⟩)
  have HST := Lib.hid (show Sl w Rs (.slice As ts.length cs) ts.length 1 vts from ⟨hvl2, As, cs, rfl, hs1, hs2, hs3⟩)
  have hall : Heads ([.slice At tr.length ct] ++ vbs ++ vts) (tr :: (bs ++ ts)) := by
    have := ((Heads.single (A := At) (c := ct) tr).app hhb).app hht
    simpa using this
  have HALL := Lib.hid hall
  have HHB := Lib.hid hhb
  have HHT := Lib.hid hht
  obtain ⟨ans, hans⟩ : ∃ a, a = great29 tr bs ts := ⟨_, rfl⟩
  rw [← hans]
  have HAN := Lib.hid hans
  clear hl ht hs hvl hb1 hb2 hb3 hvl2 hs1 hs2 hs3 hvb hvt hhb hht hall hans
  go_enter Try.func67, Try.ntmps67
  go_wp2_with fail
  obtain ⟨W0, hW0⟩ : ∃ V, V = w.alloc (.cells #[.int .i64 n, .slice Ab bs.length cb, .int .i64 buyer, .int .i64 r, .slice At tr.length ct, .slice As ts.length cs] 115) := ⟨_, rfl⟩
  have hx : Blk W0 w.heap.size 115 #[.int .i64 n, .slice Ab bs.length cb, .int .i64 buyer, .int .i64 r, .slice At tr.length ct, .slice As ts.length cs] := by rw [hW0]; exact Blk.new w _ _
  have HBW := Lib.hid (show Below w.heap.size w W0 from by rw [hW0]; exact (Below.refl _ _).alloc (Nat.le_refl _) _)
  have hs0 : W0.heap.size = w.heap.size + 1 := by rw [hW0]; simp
  have x1 : W0.cell? ⟨w.heap.size, 1, none⟩ = some (.slice Ab bs.length cb) := hx.cell 1
  have x4 : W0.cell? ⟨w.heap.size, 4, none⟩ = some (.slice At tr.length ct) := hx.cell 4
  have x5 : W0.cell? ⟨w.heap.size, 5, none⟩ = some (.slice As ts.length cs) := hx.cell 5
  rw [← hW0]
  have HX := Lib.hid hx
  clear hW0 hx
  refine wp_region_F (Below W0.heap.size W0) [] (by kernel_rfl) ((Below.refl _ _).drew) (fun hS => ?_)
  obtain ⟨V0, hV⟩ : ∃ V, V = W0.drew := ⟨_, rfl⟩
  have HP0 : Below W0.heap.size W0 V0 := by rw [hV]; exact (Below.refl _ _).drew
  have HSV := Lib.hid (show V0.heap.size = W0.heap.size by rw [hV]; simp)
  rw [← hV] at hS ⊢
  clear hV
  refine wpAnyF_take (i := 0) (oi := { dst := some 5, op := Go.Op.fieldAddr 115 (Go.Operand.tmp 1) 3, type := 0, pos := "law.go:87", after := #[], guard := none }) (v := ?_) rfl (by kernel_rfl) (by kernel_rfl) (by kernel_rfl) (by kernel_rfl) (fun _ _ _ h => h) (Or.inl ⟨by rfl, ?_⟩) hS ?_
  rotate_left
  · intro w' hSw; have q1 := (hSw.cell (p := ⟨w.heap.size, 1, none⟩) (by simp <;> omega)).trans x1; have q2 := (hSw.cell (p := ⟨w.heap.size, 4, none⟩) (by simp <;> omega)).trans x4; have q3 := (hSw.cell (p := ⟨w.heap.size, 5, none⟩) (by simp <;> omega)).trans x5; go_simp; try with_reducible rfl
  try simp only [Act.put, List.setIfInBounds_toArray, List.set_cons_zero, List.set_cons_succ]
  refine wpAnyF_take (i := 1) (oi := { dst := some 6, op := Go.Op.load 41 (Go.Operand.tmp 5), type := 41, pos := "law.go:87", after := #[{ on := 0, ground := Go.Ground.data }], guard := none }) (v := ?_) rfl (by kernel_rfl) (by kernel_rfl) (by kernel_rfl) (by kernel_rfl) (fun _ _ _ h => h) (Or.inl ⟨by rfl, ?_⟩) hS ?_
  rotate_left
  · intro w' hSw; have q1 := (hSw.cell (p := ⟨w.heap.size, 1, none⟩) (by simp <;> omega)).trans x1; have q2 := (hSw.cell (p := ⟨w.heap.size, 4, none⟩) (by simp <;> omega)).trans x4; have q3 := (hSw.cell (p := ⟨w.heap.size, 5, none⟩) (by simp <;> omega)).trans x5; go_simp; try with_reducible rfl
  try simp only [Act.put, List.setIfInBounds_toArray, List.set_cons_zero, List.set_cons_succ]
  refine wpAnyF_take (i := 3) (oi := { dst := some 8, op := Go.Op.fieldAddr 115 (Go.Operand.tmp 1) 0, type := 0, pos := "law.go:87", after := #[], guard := none }) (v := ?_) rfl (by kernel_rfl) (by kernel_rfl) (by kernel_rfl) (by kernel_rfl) (fun _ _ _ h => h) (Or.inl ⟨by rfl, ?_⟩) hS ?_
  rotate_left
  · intro w' hSw; have q1 := (hSw.cell (p := ⟨w.heap.size, 1, none⟩) (by simp <;> omega)).trans x1; have q2 := (hSw.cell (p := ⟨w.heap.size, 4, none⟩) (by simp <;> omega)).trans x4; have q3 := (hSw.cell (p := ⟨w.heap.size, 5, none⟩) (by simp <;> omega)).trans x5; go_simp; try with_reducible rfl
  try simp only [Act.put, List.setIfInBounds_toArray, List.set_cons_zero, List.set_cons_succ]
  refine wpAnyF_take (i := 4) (oi := { dst := some 9, op := Go.Op.fieldAddr 24 (Go.Operand.tmp 8) 1, type := 0, pos := "law.go:87", after := #[{ on := 3, ground := Go.Ground.data }], guard := none }) (v := ?_) rfl (by kernel_rfl) (by kernel_rfl) (by kernel_rfl) (by kernel_rfl) (fun _ _ _ h => h) (Or.inl ⟨by rfl, ?_⟩) hS ?_
  rotate_left
  · intro w' hSw; have q1 := (hSw.cell (p := ⟨w.heap.size, 1, none⟩) (by simp <;> omega)).trans x1; have q2 := (hSw.cell (p := ⟨w.heap.size, 4, none⟩) (by simp <;> omega)).trans x4; have q3 := (hSw.cell (p := ⟨w.heap.size, 5, none⟩) (by simp <;> omega)).trans x5; go_simp; try with_reducible rfl
  try simp only [Act.put, List.setIfInBounds_toArray, List.set_cons_zero, List.set_cons_succ]
  refine wpAnyF_take (i := 5) (oi := { dst := some 10, op := Go.Op.load 22 (Go.Operand.tmp 9), type := 22, pos := "law.go:87", after := #[{ on := 4, ground := Go.Ground.data }], guard := none }) (v := ?_) rfl (by kernel_rfl) (by kernel_rfl) (by kernel_rfl) (by kernel_rfl) (fun _ _ _ h => h) (Or.inl ⟨by rfl, ?_⟩) hS ?_
  rotate_left
  · intro w' hSw; have q1 := (hSw.cell (p := ⟨w.heap.size, 1, none⟩) (by simp <;> omega)).trans x1; have q2 := (hSw.cell (p := ⟨w.heap.size, 4, none⟩) (by simp <;> omega)).trans x4; have q3 := (hSw.cell (p := ⟨w.heap.size, 5, none⟩) (by simp <;> omega)).trans x5; go_simp; try with_reducible rfl
  try simp only [Act.put, List.setIfInBounds_toArray, List.set_cons_zero, List.set_cons_succ]
  refine wpAnyF_take (i := 7) (oi := { dst := some 12, op := Go.Op.fieldAddr 115 (Go.Operand.tmp 1) 4, type := 0, pos := "law.go:87", after := #[], guard := none }) (v := ?_) rfl (by kernel_rfl) (by kernel_rfl) (by kernel_rfl) (by kernel_rfl) (fun _ _ _ h => h) (Or.inl ⟨by rfl, ?_⟩) hS ?_
  rotate_left
  · intro w' hSw; have q1 := (hSw.cell (p := ⟨w.heap.size, 1, none⟩) (by simp <;> omega)).trans x1; have q2 := (hSw.cell (p := ⟨w.heap.size, 4, none⟩) (by simp <;> omega)).trans x4; have q3 := (hSw.cell (p := ⟨w.heap.size, 5, none⟩) (by simp <;> omega)).trans x5; go_simp; try with_reducible rfl
  try simp only [Act.put, List.setIfInBounds_toArray, List.set_cons_zero, List.set_cons_succ]
  refine wpAnyF_take (i := 8) (oi := { dst := some 13, op := Go.Op.load 22 (Go.Operand.tmp 12), type := 22, pos := "law.go:87", after := #[{ on := 7, ground := Go.Ground.data }], guard := none }) (v := ?_) rfl (by kernel_rfl) (by kernel_rfl) (by kernel_rfl) (by kernel_rfl) (fun _ _ _ h => h) (Or.inl ⟨by rfl, ?_⟩) hS ?_
  rotate_left
  · intro w' hSw; have q1 := (hSw.cell (p := ⟨w.heap.size, 1, none⟩) (by simp <;> omega)).trans x1; have q2 := (hSw.cell (p := ⟨w.heap.size, 4, none⟩) (by simp <;> omega)).trans x4; have q3 := (hSw.cell (p := ⟨w.heap.size, 5, none⟩) (by simp <;> omega)).trans x5; go_simp; try with_reducible rfl
  try simp only [Act.put, List.setIfInBounds_toArray, List.set_cons_zero, List.set_cons_succ]
  refine wpAnyF_ready (rs := [2]) (by kernel_rfl) (by simp) ?_
  refine AllReadyF.cons (o := { dst := some 7, op := Go.Op.buildSlice 22 1 #[(0, Go.Operand.tmp 6)], type := 22, pos := "law.go:87", after := #[{ on := 1, ground := Go.Ground.data }], guard := none }) rfl (by rfl) (fun K hK => ?_) ?_
  · go_simp
    refine hK.out _ _ ?_ (fun hS => ?_)
    · exact HP0.alloc (by have := HSV.out; omega) _
    clear hK K
    try simp only [Act.put, List.setIfInBounds_toArray, List.set_cons_zero, List.set_cons_succ]
    have hB := HP0.alloc (by have := HSV.out; omega) (.cells #[.slice At tr.length ct] 41)
    have hO : (V0.alloc (.cells #[.slice At tr.length ct] 41)).ownsRow W0.heap.size 41 1 (.slice (some ⟨V0.heap.size, 0, none⟩) 1 1) 1 [.slice At tr.length ct] := World.ownsRow_lit V0 #[.slice At tr.length ct] 1 (by have := HSV.out; omega) (by unfold maxLen; omega) rfl
    obtain ⟨V1, hV⟩ : ∃ V, V = V0.alloc (.cells #[.slice At tr.length ct] 41) := ⟨_, rfl⟩
    rw [← hV] at hB hO hS ⊢
    have HP1 := Lib.hid hB
    have HO1 := Lib.hid hO
    clear hV hB hO
    refine wpAnyF_ready (rs := [6]) (by kernel_rfl) (by simp) ?_
    refine AllReadyF.cons (o := { dst := some 11, op := Go.Op.call { callee := Go.Callee.builtin Go.Builtin.append, args := #[Go.Operand.tmp 7, Go.Operand.tmp 10], argTypes := #[22, 22] }, type := 22, pos := "law.go:87", after := #[{ on := 2, ground := Go.Ground.data }, { on := 5, ground := Go.Ground.data }], guard := none }) rfl (by rfl) (fun K hK => ?_) ?_
    · refine step_app V1 rfl (.tmp 7) (.tmp 10) et_offs rfl W0.heap.size (.slice (some ⟨V0.heap.size, 0, none⟩) 1 1) 1 [.slice At tr.length ct] rfl HO1.out R (.slice Ab bs.length cb) bs.length vbs rfl (HSB.out.grow (HBW.out.trans (HP1.out.mono HBW.out.size))) HHB.out.one (by omega) (by unfold maxLen; omega) (by have := HP1.out.size; omega) ?_
      intro A2 c2 V2 hown hg hloc
      refine hK.out _ _ ?_ (fun hS => ?_)
      · exact HP1.out.grown hg (by have := HP1.out.size; omega) (fun g e => (HO1.out.lt g e).1)
      clear hK K
      try simp only [Act.put, List.setIfInBounds_toArray, List.set_cons_zero, List.set_cons_succ]
      have HP2 := Lib.hid (HP1.out.grown hg (by have := HP1.out.size; omega) (fun g e => (HO1.out.lt g e).1))
      have HO2 := Lib.hid hown
      clear hown hg hloc
      refine wpAnyF_ready (rs := [9]) (by kernel_rfl) (by simp) ?_
      refine AllReadyF.cons (o := { dst := some 14, op := Go.Op.call { callee := Go.Callee.builtin Go.Builtin.append, args := #[Go.Operand.tmp 11, Go.Operand.tmp 13], argTypes := #[22, 22] }, type := 22, pos := "law.go:87", after := #[{ on := 6, ground := Go.Ground.data }, { on := 8, ground := Go.Ground.data }, { on := 6, ground := Go.Ground.chain }], guard := none }) rfl (by rfl) (fun K hK => ?_) ?_
      · refine step_app V2 rfl (.tmp 11) (.tmp 13) et_offs rfl W0.heap.size (.slice A2 (1 + bs.length) c2) (1 + bs.length) ([.slice At tr.length ct] ++ vbs) rfl HO2.out Rs (.slice As ts.length cs) ts.length vts rfl (HST.out.grow (HBW.out.trans (HP2.out.mono HBW.out.size))) HHT.out.one (by omega) (by unfold maxLen; omega) (by have := HP2.out.size; omega) ?_
        intro A3 c3 V3 hown hg hloc
        refine hK.out _ _ ?_ (fun hS => ?_)
        · exact HP2.out.grown hg (by have := HP2.out.size; omega) (fun g e => (HO2.out.lt g e).1)
        clear hK K
        try simp only [Act.put, List.setIfInBounds_toArray, List.set_cons_zero, List.set_cons_succ]
        have HP3 := Lib.hid (HP2.out.grown hg (by have := HP2.out.size; omega) (fun g e => (HO2.out.lt g e).1))
        have HO3 := Lib.hid hown
        clear hown hg hloc
        refine wpAnyF_take (i := 10) (oi := { dst := some 3, op := Go.Op.assign (Go.Operand.tmp 14), type := 22, pos := "law.go:87", after := #[{ on := 9, ground := Go.Ground.data }, { on := 9, ground := Go.Ground.chain }, { on := 0, ground := Go.Ground.phase }, { on := 1, ground := Go.Ground.phase }, { on := 2, ground := Go.Ground.phase }, { on := 3, ground := Go.Ground.phase }, { on := 4, ground := Go.Ground.phase }, { on := 5, ground := Go.Ground.phase }, { on := 6, ground := Go.Ground.phase }, { on := 7, ground := Go.Ground.phase }, { on := 8, ground := Go.Ground.phase }, { on := 9, ground := Go.Ground.phase }], guard := none }) (v := ?_) rfl (by kernel_rfl) (by kernel_rfl) (by kernel_rfl) (by kernel_rfl) (fun _ _ _ h => h) (Or.inl ⟨by rfl, ?_⟩) hS ?_
        rotate_left
        · intro w' hSw; have q1 := (hSw.cell (p := ⟨w.heap.size, 1, none⟩) (by simp <;> omega)).trans x1; have q2 := (hSw.cell (p := ⟨w.heap.size, 4, none⟩) (by simp <;> omega)).trans x4; have q3 := (hSw.cell (p := ⟨w.heap.size, 5, none⟩) (by simp <;> omega)).trans x5; go_simp; try with_reducible rfl
        try simp only [Act.put, List.setIfInBounds_toArray, List.set_cons_zero, List.set_cons_succ]
        refine wpAnyF_done (by kernel_rfl) ?_ _
        clear hS
        have HSL := Lib.hid (Sl.of_own HO3.out)
        obtain ⟨N, hN⟩ : ∃ N, N = 1 + bs.length + ts.length := ⟨_, rfl⟩
        rw [← hN] at HSL ⊢
        have HL := Lib.hid (show (tr :: (bs ++ ts)).length = N from by rw [hN]; simp; omega)
        have HBZ := Lib.hid (HBW.out.trans (HP3.out.mono HBW.out.size))
        have hx3 := HX.out.grow HP3.out
        have y1 : V3.cell? ⟨w.heap.size, 1, none⟩ = some (.slice Ab bs.length cb) := hx3.cell 1
        have y5 : V3.cell? ⟨w.heap.size, 5, none⟩ = some (.slice As ts.length cs) := hx3.cell 5
        clear hx3 x1 x4 x5 HO1 HO2 HO3 HP1 HP2 HP3 HP0 HSV HSB HST HX HHB HHT HBW
        go_wp2_with fail
        go_loopw [4] (fun i wr => ∃ k : Nat, k ≤ N ∧ i = .int .i64 k ∧ (∀ (j : Nat) (l : List Off), j < k → (tr :: (bs ++ ts))[j]? = some l → ¬ 40 < l.length) ∧ wr = V3) (fun i _ => N - (intOf i).toNat)
        case atStart => exact ⟨0, Nat.zero_le _, rfl, fun j l h => absurd h (by omega), rfl⟩
        case round =>
          obtain ⟨k, hk, rfl, hnone, rfl⟩ := hrel
          have HN := Lib.hid hnone
          clear hnone
          by_cases hlt : k < N
          · obtain ⟨l, hlk⟩ : ∃ l, (tr :: (bs ++ ts))[k]? = some l := ⟨_, List.getElem?_eq_getElem (by rw [HL.out]; exact hlt)⟩
            obtain ⟨A5, c5, hv5⟩ := HALL.out.2 k l hlk
            obtain ⟨_, A6, c6, hv6, _, _, hcs⟩ := HSL.out
            injection hv6 with hA6 _ hc6
            subst hA6 hc6
            obtain ⟨bq, of, rfl, _, hbq, hcell⟩ := hcs (by omega)
            have c0 : wr.cell? ⟨bq, of + k, none⟩ = some (.slice A5 l.length c5) := hcell k _ hv5
            have HLK := Lib.hid hlk
            have e0 : (0 : Int) ≤ (k : Int) := by omega
            have e1 : (k : Int) < (N : Int) := by omega
            clear hlk hv5 hcs hcell
            by_cases h40 : 40 < l.length
            · have h40i : (40 : Int) < (l.length : Int) := by omega
              have HA := Lib.hid (show ans = true from by rw [HAN.out]; exact great29_at HLK.out h40)
              go_wp2_with fail
              go_ret
              exact ⟨by rw [HA.out]; rfl, HBZ.out⟩
            · have h40i : ¬ (40 : Int) < (l.length : Int) := by omega
              go_wp2_with fail
              go_roundw
              case rel =>
                refine ⟨k + 1, by omega, by go_num, fun j x hj hx => ?_, trivial⟩
                rcases Nat.lt_or_ge j k with h | h
                · exact HN.out j x h hx
                · obtain rfl : j = k := by omega
                  rw [HLK.out] at hx
                  injection hx with hx
                  rw [← hx]
                  exact h40
              case measure => simp [intOf]; omega
          · obtain rfl : k = N := by omega
            have HA := Lib.hid (show ans = (decide (40 < bs.length) || decide (40 < ts.length)) from by
              rw [HAN.out]
              exact great29_none fun j l hj => HN.out j l (by rw [← HL.out]; exact (List.getElem?_eq_some_iff.1 hj).1) hj)
            by_cases h1 : 40 < bs.length
            · have h1i : (40 : Int) < (bs.length : Int) := by omega
              go_wp2_with fail
              go_ret
              exact ⟨by rw [HA.out]; simp [h1], HBZ.out⟩
            · have h1i : ¬ (40 : Int) < (bs.length : Int) := by omega
              by_cases h2 : 40 < ts.length
              · have h2i : (40 : Int) < (ts.length : Int) := by omega
                go_wp2_with fail
                go_ret
                exact ⟨by rw [HA.out]; simp [h1, h2], HBZ.out⟩
              · have h2i : ¬ (40 : Int) < (ts.length : Int) := by omega
                go_wp2_with fail
                go_ret
                exact ⟨by rw [HA.out]; simp [h1, h2], HBZ.out⟩
      exact AllReadyF.nil
    exact AllReadyF.nil
  exact AllReadyF.nil
end Go.Proofs.Ytcigobiolbojhaa.Vb

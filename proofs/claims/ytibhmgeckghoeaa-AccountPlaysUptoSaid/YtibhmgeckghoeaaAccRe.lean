/- Account: the document's Same. -/
import Derived.Test.YtibhmgeckghoeaaAccRd
import Derived.Laws.StructEq
namespace Go.Proofs.Ytibhmgeckghoeaa.Ac
open Go.RowKit Go.Shelf Go.Maps
open Go.Proofs.Ytibhmgeckghoeaa.Vb
attribute [local go_sem] Oper.semAt_some

theorem eq_held (a b c d : Int) (w : World) : (Op.equalIn 10000 29 (.agg #[.int .i64 a, .int .i64 b]) (.agg #[.int .i64 c, .int .i64 d])).run Try.prog w = .ok (a == c && b == d) w := by
  have u3 := Try.underlying3
  have u2 := Try.underlying2
  have a3 := Try.isAgg3
  have a2 := Try.isAgg2
  have z3 := Try.sizeOf3
  have z2 := Try.sizeOf2
  have hS : Try.prog.underlying 29 = some (.struct (Try.prog.fieldsOf 29)) := by kernel_rfl
  have hp : Try.prog.stoodInHeld 29 = false := by kernel_rfl
  rw [show (10000 : Nat) = 9999 + 1 from rfl, run_equalIn_agg w 9999 29 _ _ hS hp]
  simp only [Program.fieldsOf, Try.underlying29]
  go_simp
  by_cases h1 : a = c <;> by_cases h2 : b = d <;> simp [h1, h2]
theorem neq_held (a b c d : Int) (w : World) : (binOp .neq 29 (.agg #[.int .i64 a, .int .i64 b]) (.agg #[.int .i64 c, .int .i64 d])).run Try.prog w = .ok (.bool (!(a == c && b == d))) w := by
  rw [run_neq_struct, eq_held]
  rfl

set_option maxRecDepth 100000 in
set_option maxHeartbeats 8000000 in
theorem refSame_live {g1 g2 : Nat} {a c : Acc} {w : World} (h1 : RefAt w g1 a) (h2 : RefAt w g2 c) (o1 : a.Ok) (o2 : c.Ok) :
    Calls Try.prog 18 #[.pointer (some ⟨g1, 0, none⟩), .pointer (some ⟨g2, 0, none⟩)] w fun e w' => e = .returned (.bool (sameB a c)) ∧ Below w.heap.size w w' := by
  obtain ⟨sl1, b1, l1⟩ := h1
  obtain ⟨sl2, b2, l2⟩ := h2
  obtain ⟨A1, c1, rfl⟩ := l1.form
  obtain ⟨A2, c2, rfl⟩ := l2.form
  have n1 := o1.h.len
  have n2 := o2.h.len
  have HS := Lib.hid (show sameB a c = decide (a.bud = c.bud ∧ a.sp = c.sp ∧ a.M = c.M) from rfl)
  have HL1 := Lib.hid l1
  have HL2 := Lib.hid l2
  have lg1 := b1.lt
  have lg2 := b2.lt
  have k0 : w.cell? ⟨g1, 0, none⟩ = some (.int .i64 a.bud) := b1.cell 0
  have k1 : w.cell? ⟨g1, 1, none⟩ = some (.int .i64 a.sp) := b1.cell 1
  have k2 : w.cell? ⟨g1, 2, none⟩ = some (.slice A1 a.M.length c1) := b1.cell 2
  have j0 : w.cell? ⟨g2, 0, none⟩ = some (.int .i64 c.bud) := b2.cell 0
  have j1 : w.cell? ⟨g2, 1, none⟩ = some (.int .i64 c.sp) := b2.cell 1
  have j2 : w.cell? ⟨g2, 2, none⟩ = some (.slice A2 c.M.length c2) := b2.cell 2
  obtain ⟨ans, hans⟩ : ∃ z, z = sameB a c := ⟨_, rfl⟩
  rw [← hans] at HS ⊢
  obtain ⟨x, hx⟩ : ∃ z, z = a.bud := ⟨_, rfl⟩
  obtain ⟨y, hy⟩ : ∃ z, z = c.bud := ⟨_, rfl⟩
  obtain ⟨p, hp⟩ : ∃ z, z = a.sp := ⟨_, rfl⟩
  obtain ⟨q, hq⟩ : ∃ z, z = c.sp := ⟨_, rfl⟩
  obtain ⟨M, hM⟩ : ∃ z, z = a.M := ⟨_, rfl⟩
  obtain ⟨N, hN⟩ : ∃ z, z = c.M := ⟨_, rfl⟩
  rw [← hx] at k0 HS
  rw [← hy] at j0 HS
  rw [← hp] at k1 HS
  rw [← hq] at j1 HS
  rw [← hM] at k2 HS HL1 n1
  rw [← hN] at j2 HS HL2 n2
  clear l1 l2 b1 b2 o1 o2 hans hx hy hp hq hM hN
  by_cases e1 : x = y
  · have t1 : (x != y) = false := by simpa using e1
    by_cases e2 : p = q
    · have t2 : (p != q) = false := by simpa using e2
      by_cases e3 : M.length = N.length
      · have hlen : (M.length : Int) = (N.length : Int) := by omega
        have t3 : ((M.length : Int) != (N.length : Int)) = false := by simpa using hlen
        have hge : N.length ≤ M.length ∧ M.length ≤ N.length := by omega
        have HE := Lib.hid (show ans = decide (M = N) from by rw [HS.out]; simp [e1, e2])
        clear e1 e2 e3 hlen
        go_enter Try.func18, Try.ntmps18
        go_wp2_with fail
        go_quiet (fail)
        go_wp2_with fail
        go_loopw [5] (fun i wr => ∃ k : Nat, k ≤ M.length ∧ i = .int .i64 k ∧ (∀ j, j < k → M[j]? = N[j]?) ∧ Below w.heap.size w wr) (fun i _ => M.length - (intOf i).toNat)
        case atStart => exact ⟨0, Nat.zero_le _, rfl, fun j hj => absurd hj (by omega), below_drewN (Below.refl _ _) _⟩
        case round =>
          obtain ⟨k, hk, rfl, hsame, hb⟩ := hrel
          have HSM := Lib.hid hsame
          have HB := Lib.hid hb
          have k2r : wr.cell? ⟨g1, 2, none⟩ = some (.slice A1 M.length c1) := (hb.cell (p := ⟨g1, 2, none⟩) lg1).trans k2
          have j2r : wr.cell? ⟨g2, 2, none⟩ = some (.slice A2 N.length c2) := (hb.cell (p := ⟨g2, 2, none⟩) lg2).trans j2
          clear hsame hb
          by_cases hlt : k < M.length
          · obtain ⟨o, ho⟩ : ∃ o, M[k]? = some o := ⟨_, List.getElem?_eq_getElem hlt⟩
            obtain ⟨o', ho'⟩ : ∃ o, N[k]? = some o := ⟨_, List.getElem?_eq_getElem (by omega)⟩
            obtain ⟨bq, off, rfl, ht, q0, q1⟩ := HL1.out.at_ ho
            obtain ⟨bp, off', rfl, ht', p0, p1⟩ := HL2.out.at_ ho'
            obtain ⟨ol, oc⟩ := o
            obtain ⟨pl, pc⟩ := o'
            simp only at q0 q1 p0 p1
            have c0 : wr.cell? ⟨bq, off + k * 2, none⟩ = some (.int .i64 ol) := (HB.out.cell (p := ⟨bq, off + k * 2, none⟩) ht.lt).trans q0
            have c1' : wr.cell? ⟨bq, off + k * 2 + 1, none⟩ = some (.int .i64 oc) := (HB.out.cell (p := ⟨bq, off + k * 2 + 1, none⟩) ht.lt).trans q1
            have d0 : wr.cell? ⟨bp, off' + k * 2, none⟩ = some (.int .i64 pl) := (HB.out.cell (p := ⟨bp, off' + k * 2, none⟩) ht'.lt).trans p0
            have d1 : wr.cell? ⟨bp, off' + k * 2 + 1, none⟩ = some (.int .i64 pc) := (HB.out.cell (p := ⟨bp, off' + k * 2 + 1, none⟩) ht'.lt).trans p1
            have e1 : (0 : Int) ≤ (k : Int) := by omega
            have e2 : (k : Int) < (M.length : Int) := by omega
            have e3 : (k : Int) < (N.length : Int) := by omega
            have HOA := Lib.hid ho
            have HOB := Lib.hid ho'
            have hneq := neq_held
            clear ho ho' q0 q1 p0 p1 ht ht'
            by_cases hq : ol = pl ∧ oc = pc
            · obtain ⟨rfl, rfl⟩ := hq
              go_wp2_with fail
              go_quiet (fail)
              go_wp2_with fail
              go_roundw
              case rel =>
                refine ⟨k + 1, by omega, by go_num, fun j hj => ?_, below_drewN HB.out _⟩
                rcases Nat.lt_or_ge j k with h1 | h1
                · exact HSM.out j h1
                · obtain rfl : j = k := by omega
                  rw [HOA.out, HOB.out]
              case measure => simp [intOf]; omega
            · have HEE := Lib.hid (show ans = false from by
                rw [HE.out]
                refine decide_eq_false fun h => hq ?_
                rw [h, HOB.out] at HOA
                have := HOA.out
                injection this with this
                injection this with h1 h2
                exact ⟨h1.symm, h2.symm⟩)
              have hne : (ol == pl && oc == pc) = false := by
                by_cases h1 : ol = pl
                · by_cases h2 : oc = pc
                  · exact absurd ⟨h1, h2⟩ hq
                  · simp [h2]
                · simp [h1]
              clear hq
              go_wp2_with fail
              go_quiet (fail)
              go_wp2_with fail
              go_ret
              exact ⟨by rw [HEE.out]; rfl, below_drewN HB.out _⟩
          · obtain rfl : k = M.length := by omega
            have HEE := Lib.hid (show ans = true from by
              rw [HE.out]
              refine decide_eq_true (List.ext_getElem? fun j => ?_)
              rcases Nat.lt_or_ge j M.length with h1 | h1
              · exact HSM.out j h1
              · rw [List.getElem?_eq_none h1, List.getElem?_eq_none (by omega)])
            go_wp2_with fail
            go_ret
            exact ⟨by rw [HEE.out]; rfl, HB.out⟩
      · have t3 : ((M.length : Int) != (N.length : Int)) = true := by simpa using fun h : (M.length : Int) = (N.length : Int) => e3 (by omega)
        have HE := Lib.hid (show ans = false from by rw [HS.out]; exact decide_eq_false fun h => e3 (by rw [h.2.2]))
        clear e1 e2 e3
        go_enter Try.func18, Try.ntmps18
        go_wp2_with fail
        go_quiet (fail)
        go_wp2_with fail
        go_ret
        exact ⟨by rw [HE.out]; rfl, below_drewN (Below.refl _ _) _⟩
    · have t2 : (p != q) = true := by simpa using e2
      have HE := Lib.hid (show ans = false from by rw [HS.out]; exact decide_eq_false fun h => e2 h.2.1)
      clear e1 e2
      go_enter Try.func18, Try.ntmps18
      go_wp2_with fail
      go_quiet (fail)
      go_wp2_with fail
      go_ret
      exact ⟨by rw [HE.out]; rfl, below_drewN (Below.refl _ _) _⟩
  · have t1 : (x != y) = true := by simpa using e1
    have HE := Lib.hid (show ans = false from by rw [HS.out]; exact decide_eq_false fun h => e1 h.1)
    clear e1
    go_enter Try.func18, Try.ntmps18
    go_wp2_with fail
    go_quiet (fail)
    go_wp2_with fail
    go_ret
    exact ⟨by rw [HE.out]; rfl, below_drewN (Below.refl _ _) _⟩

theorem refSame_none1 (u : Value) (w : World) (hu : ∃ p, u = .pointer p) : Calls Try.prog 18 #[.pointer none, u] w fun e w' => e = .returned (.bool false) ∧ Below w.heap.size w w' := by
  obtain ⟨p, rfl⟩ := hu
  go_enter Try.func18, Try.ntmps18
  go_wp2_with fail
  go_quiet (fail)
  go_wp2_with fail
  go_ret
  exact ⟨rfl, below_drewN (Below.refl _ _) _⟩
theorem refSame_none2 (g : Nat) (w : World) : Calls Try.prog 18 #[.pointer (some ⟨g, 0, none⟩), .pointer none] w fun e w' => e = .returned (.bool false) ∧ Below w.heap.size w w' := by
  go_enter Try.func18, Try.ntmps18
  go_wp2_with fail
  go_quiet (fail)
  go_wp2_with fail
  go_ret
  exact ⟨rfl, below_drewN (Below.refl _ _) _⟩
end Go.Proofs.Ytibhmgeckghoeaa.Ac

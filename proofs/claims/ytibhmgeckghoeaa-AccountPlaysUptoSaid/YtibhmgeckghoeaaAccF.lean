/- Account: Free, set. -/
import Derived.Test.YtibhmgeckghoeaaAccE
namespace Go.Proofs.Ytibhmgeckghoeaa.Ac
open Go.RowKit Go.Shelf Go.Maps
open Go.Proofs.Ytibhmgeckghoeaa.Vb
attribute [local go_sem] Oper.semAt_some

def Fm.free (f : Fm) : Int := f.bud - f.sp - sumM f.M
theorem Fm.Ok.b {f : Fm} (h : f.Ok) : coin f.bud ∧ coin f.sp := by
  cases f with
  | live a => exact ⟨Acc.Ok.bud h, Acc.Ok.sp h⟩
  | nil => exact ⟨by decide, by decide⟩
  | zero => exact ⟨by decide, by decide⟩
theorem HOk.nn {M : HM} (h : HOk M) : 0 ≤ sumM M := (h.pre (List.prefix_refl _)).1

set_option maxHeartbeats 1000000 in
theorem free_any {v : Value} {f : Fm} {w : World} (h : AtP w v f) (ho : f.Ok) : Calls Try.prog 22 #[v] w fun e w' => e = .returned (.int .i64 f.free) ∧ Below w.heap.size w w' := by
  obtain ⟨⟨b1, b2⟩, s1, s2⟩ := ho.b
  have h1 := ho.h.nn
  have h2 := ho.h.sum
  have HV := Lib.hid h
  have HO := Lib.hid ho
  have HF := Lib.hid (show f.free = f.bud - f.sp - sumM f.M from rfl)
  obtain ⟨fr, hfr⟩ : ∃ z, z = f.free := ⟨_, rfl⟩
  rw [← hfr] at HF ⊢
  obtain ⟨x, hx⟩ : ∃ z, z = f.bud := ⟨_, rfl⟩
  obtain ⟨y, hy⟩ : ∃ z, z = f.sp := ⟨_, rfl⟩
  obtain ⟨z, hz⟩ : ∃ z, z = sumM f.M := ⟨_, rfl⟩
  have HX := Lib.hid hx
  have HY := Lib.hid hy
  have HZ := Lib.hid hz
  rw [← hx, ← hy, ← hz] at HF
  rw [← hx] at b1 b2
  rw [← hy] at s1 s2
  rw [← hz] at h1 h2
  have w1 : IntKind.i64.wrap (x - y) = x - y := IntWalk.i64_in _ (by omega)
  have w2 : IntKind.i64.wrap (x - y - z) = x - y - z := IntWalk.i64_in _ (by omega)
  clear h ho hfr hx hy hz
  go_enter Try.func22, Try.ntmps22
  go_wp2_with fail
  refine (budget_any HV.out).mono ?_
  rintro e w3 ⟨rfl, rfl⟩
  rw [← HX.out]
  go_wp2_with fail
  refine (spent_any HV.out).mono ?_
  rintro e w4 ⟨rfl, rfl⟩
  rw [← HY.out]
  go_wp2_with fail
  refine (held_any HV.out HO.out).mono ?_
  rintro e w5 ⟨rfl, hb5⟩
  rw [← HZ.out]
  have HB := Lib.hid hb5
  clear hb5
  go_wp2_with fail
  go_ret
  exact ⟨by rw [HF.out]; rfl, HB.out⟩

theorem setM_zero (M : HM) (x : Int) : setM M x 0 = delM M x := if_pos rfl
theorem setM_put (M : HM) (x : Int) {v : Int} (h : v ≠ 0) : setM M x v = putM M x v := if_neg h
def Acc.set (a : Acc) (x v : Int) : Acc := { a with M := setM a.M x v }

set_option maxHeartbeats 1000000 in
theorem set_any {b m n : Nat} {a : Acc} {w : World} (h : AccAt w b m n a) (hn : n < maxLen) {x v : Int} (hx : -9223372036854775808 ≤ x ∧ x ≤ 9223372036854775807) (hv : -9223372036854775808 ≤ v ∧ v ≤ 9223372036854775807) :
    Calls Try.prog 37 #[.pointer (some ⟨b, 0, none⟩), .int .i64 x, .int .i64 v] w fun e w' => e = .returned (.tuple #[]) ∧ AccAt w' b m (n + 1) (a.set x v) ∧ Chg (· = m) w w' := by
  have c2 : w.cell? ⟨b, 2, none⟩ = some (.map (some m)) := h.blk.cell 2
  have HA := Lib.hid h
  have HX := Lib.hid hx
  have HV := Lib.hid hv
  by_cases h0 : v = 0
  · subst h0
    have HS := Lib.hid (show a.set x 0 = { a with M := delM a.M x } from by unfold Acc.set; rw [setM_zero])
    obtain ⟨W', hrun, h1, h2⟩ := h.del hx 0
    have H1 := Lib.hid h1
    have H2 := Lib.hid h2
    clear h h1 h2
    go_enter Try.func37, Try.ntmps37
    go_wp2_with fail
    refine bodyPost_ret (results_none rfl _ _ _) rfl ?_
    exact ⟨rfl, by rw [HS.out]; exact H1.out.mono (Nat.le_succ _), H2.out⟩
  · have HS := Lib.hid (show a.set x v = { a with M := putM a.M x v } from by unfold Acc.set; rw [setM_put _ _ h0])
    obtain ⟨W', hrun, h1, h2⟩ := h.put hn hx hv
    have H1 := Lib.hid h1
    have H2 := Lib.hid h2
    have hb : (v == 0) = false := by simpa using h0
    clear h h1 h2 h0
    go_enter Try.func37, Try.ntmps37
    go_wp2_with fail
    go_end0
    exact ⟨rfl, by rw [HS.out]; exact H1.out, H2.out⟩
end Go.Proofs.Ytibhmgeckghoeaa.Ac

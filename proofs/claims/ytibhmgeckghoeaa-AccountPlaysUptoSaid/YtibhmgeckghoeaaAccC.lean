/- Account: its small functions. -/
import Derived.Test.YtibhmgeckghoeaaAccB
namespace Go.Proofs.Ytibhmgeckghoeaa.Ac
open Go.RowKit Go.Shelf Go.Maps
open Go.Proofs.Ytibhmgeckghoeaa.Vb
attribute [local go_sem] Oper.semAt_some

theorem quiet_left {P : Program} {f : FuncId} {args : Array Value} {w : World} {n : Nat} {v : Value}
    (h : Calls P f args (w.drewN n) fun e w' => e = .returned v ∧ w' = w.drewN n) : Calls P f args (w.drewN n) fun e w'' => e = .returned v ∧ ∃ m, w'' = w.drewN m :=
  h.mono fun _ _ ⟨he, hm⟩ => ⟨he, n, hm⟩

theorem coins_any (x : Int) (w : World) : Calls Try.prog 40 #[.int .i64 x] w fun e w' => e = .returned (.bool (decide (coin x))) ∧ w' = w := by
  obtain ⟨z, hz⟩ : ∃ z, z = decide (coin x) := ⟨_, rfl⟩
  rw [← hz]
  have HZ := Lib.hid hz
  clear hz
  unfold coin at HZ
  go_enter Try.func40, Try.ntmps40
  by_cases h1 : 0 ≤ x
  · by_cases h2 : x ≤ 1099511627776
    · have HE := Lib.hid (HZ.out.trans (decide_eq_true ⟨h1, h2⟩))
      go_wp2
      go_ret
      exact ⟨by rw [HE.out]; rfl, rfl⟩
    · have HE := Lib.hid (HZ.out.trans (decide_eq_false fun h => h2 h.2))
      go_wp2
      go_ret
      exact ⟨by rw [HE.out]; rfl, rfl⟩
  · have HE := Lib.hid (HZ.out.trans (decide_eq_false fun h => h1 h.1))
    go_wp2
    go_ret
    exact ⟨by rw [HE.out]; rfl, rfl⟩

theorem num_any (x : Int) (w : World) : Calls Try.prog 14 #[.int .i64 x] w fun e w' => e = .returned (.int .i64 x) ∧ w' = w := by
  go_enter Try.func14, Try.ntmps14
  go_wp2
  go_ret
  exact ⟨rfl, rfl⟩

theorem neq_map (W : World) (p : Option Nat) : (binOp .neq 65 (.map p) (.map none)).run Try.prog W = .ok (.bool (!p.isNone)) W := by
  exact run_neq_map_nil W 65 _ _ p Try.underlying65

theorem there_any {v : Value} {f : Fm} {w : World} (h : AtP w v f) : Calls Try.prog 38 #[v] w fun e w' => e = .returned (.bool f.there) ∧ w' = w := by
  have hq := neq_map w
  cases f with
  | nil =>
    subst h
    go_enter Try.func38, Try.ntmps38
    go_wp2
    go_ret
    exact ⟨rfl, rfl⟩
  | zero =>
    obtain ⟨b, rfl, hb⟩ := h
    have c2 : w.cell? ⟨b, 2, none⟩ = some (.map none) := hb.cell 2
    clear hb
    go_enter Try.func38, Try.ntmps38
    go_wp2
    go_ret
    exact ⟨rfl, rfl⟩
  | live a =>
    obtain ⟨b, m, n, rfl, hb⟩ := h
    have c2 : w.cell? ⟨b, 2, none⟩ = some (.map (some m)) := hb.blk.cell 2
    clear hb
    go_enter Try.func38, Try.ntmps38
    go_wp2
    go_ret
    exact ⟨rfl, rfl⟩

theorem budget_any {v : Value} {f : Fm} {w : World} (h : AtP w v f) : Calls Try.prog 25 #[v] w fun e w' => e = .returned (.int .i64 f.bud) ∧ w' = w := by
  cases f with
  | nil =>
    subst h
    go_enter Try.func25, Try.ntmps25
    go_wp2
    go_ret
    exact ⟨rfl, rfl⟩
  | zero =>
    obtain ⟨b, rfl, hb⟩ := h
    have c2 : w.cell? ⟨b, 0, none⟩ = some (.int .i64 0) := hb.cell 0
    clear hb
    go_enter Try.func25, Try.ntmps25
    go_wp2
    go_ret
    exact ⟨rfl, rfl⟩
  | live a =>
    obtain ⟨b, m, n, rfl, hb⟩ := h
    have c2 : w.cell? ⟨b, 0, none⟩ = some (.int .i64 a.bud) := hb.blk.cell 0
    clear hb
    go_enter Try.func25, Try.ntmps25
    go_wp2
    go_ret
    exact ⟨rfl, rfl⟩

theorem spent_any {v : Value} {f : Fm} {w : World} (h : AtP w v f) : Calls Try.prog 24 #[v] w fun e w' => e = .returned (.int .i64 f.sp) ∧ w' = w := by
  cases f with
  | nil =>
    subst h
    go_enter Try.func24, Try.ntmps24
    go_wp2
    go_ret
    exact ⟨rfl, rfl⟩
  | zero =>
    obtain ⟨b, rfl, hb⟩ := h
    have c2 : w.cell? ⟨b, 1, none⟩ = some (.int .i64 0) := hb.cell 1
    clear hb
    go_enter Try.func24, Try.ntmps24
    go_wp2
    go_ret
    exact ⟨rfl, rfl⟩
  | live a =>
    obtain ⟨b, m, n, rfl, hb⟩ := h
    have c2 : w.cell? ⟨b, 1, none⟩ = some (.int .i64 a.sp) := hb.blk.cell 1
    clear hb
    go_enter Try.func24, Try.ntmps24
    go_wp2
    go_ret
    exact ⟨rfl, rfl⟩

theorem at_any {v : Value} {f : Fm} {w : World} (h : AtP w v f) {x : Int} (hx : -9223372036854775808 ≤ x ∧ x ≤ 9223372036854775807) : Calls Try.prog 26 #[v, .int .i64 x] w fun e w' => e = .returned (.int .i64 (atM f.M x)) ∧ w' = w := by
  cases f with
  | nil =>
    subst h
    go_enter Try.func26, Try.ntmps26
    go_wp2
    go_ret
    exact ⟨rfl, rfl⟩
  | zero =>
    obtain ⟨b, rfl, hb⟩ := h
    have c2 : w.cell? ⟨b, 2, none⟩ = some (.map none) := hb.cell 2
    have hl := look_nil (W := w) hx
    clear hb hx
    go_enter Try.func26, Try.ntmps26
    go_wp2
    go_ret
    exact ⟨rfl, rfl⟩
  | live a =>
    obtain ⟨b, m, n, rfl, hb⟩ := h
    have c2 : w.cell? ⟨b, 2, none⟩ = some (.map (some m)) := hb.blk.cell 2
    have hl := hb.look hx
    clear hb hx
    go_enter Try.func26, Try.ntmps26
    go_wp2
    go_ret
    exact ⟨rfl, rfl⟩

def allV (b : Nat) : Value := .func (.func 56) #[] #[.pointer (some ⟨b, 0, none⟩)]
theorem all_any {v : Value} (hv : ∃ p, v = .pointer p) (w : World) : Calls Try.prog 30 #[v] w fun e w' => e = .returned (allV w.heap.size) ∧ w' = w.alloc (.cells #[v] 23) := by
  obtain ⟨p, rfl⟩ := hv
  go_enter Try.func30, Try.ntmps30
  go_wp2
  go_ret
  exact ⟨rfl, rfl⟩
end Go.Proofs.Ytibhmgeckghoeaa.Ac

/- Account: Held, Free. -/
import Derived.Test.YtibhmgeckghoeaaAccD
namespace Go.Proofs.Ytibhmgeckghoeaa.Ac
open Go.RowKit Go.Shelf Go.Maps
open Go.Proofs.Ytibhmgeckghoeaa.Vb
attribute [local go_sem] Oper.semAt_some

theorem len_le_sum : ∀ {M : HM}, (∀ p ∈ M, 1 ≤ p.2) → (M.length : Int) ≤ sumM M
  | [], _ => by simp [sumM]
  | x :: r, h => by
    have := len_le_sum (M := r) fun p hp => h p (by simp [hp])
    have h1 := h x (by simp)
    rw [sumM_cons]
    simp
    omega
/-- what the functions that go over what is held ask -/
structure HOk (M : HM) : Prop where
  rise : Rising M
  each : ∀ p ∈ M, 0 ≤ p.1 ∧ p.1 ≤ 9223372036854775807 ∧ 1 ≤ p.2
  sum : sumM M ≤ 1099511627776
theorem Acc.Ok.h {a : Acc} (h : a.Ok) : HOk a.M := ⟨h.rise, h.each, h.sum⟩
theorem Fm.Ok.h {f : Fm} (h : f.Ok) : HOk f.M := by
  cases f with
  | live a => exact Acc.Ok.h h
  | nil => exact ⟨List.Pairwise.nil, fun p hp => (by cases hp), by decide⟩
  | zero => exact ⟨List.Pairwise.nil, fun p hp => (by cases hp), by decide⟩
theorem HOk.len {M : HM} (h : HOk M) : M.length ≤ 1099511627776 := by
  have := len_le_sum fun p hp => (h.each p hp).2.2
  have := h.sum
  omega
theorem HOk.pre {M pre : HM} (h : HOk M) (hp : pre <+: M) : 0 ≤ sumM pre ∧ sumM pre ≤ 1099511627776 := by
  obtain ⟨t, rfl⟩ := hp
  have h1 : 0 ≤ sumM t := sumM_nonneg fun p hp => by have := h.each p (by simp [hp]); omega
  have h2 : 0 ≤ sumM pre := sumM_nonneg fun p hp => by have := h.each p (by simp [hp]); omega
  have h3 := h.sum
  rw [sumM_append] at h3
  omega
theorem sumM_snoc (pre : HM) (x : Int × Int) : sumM (pre ++ [x]) = sumM pre + x.2 := by
  rw [sumM_append, sumM_cons]
  show _ = _
  simp [sumM]

set_option maxRecDepth 100000 in
set_option maxHeartbeats 4000000 in
theorem held_any {v : Value} {f : Fm} {w : World} (h : AtP w v f) (ho : f.Ok) : Calls Try.prog 23 #[v] w fun e w' => e = .returned (.int .i64 (sumM f.M)) ∧ Below w.heap.size w w' := by
  have HV := Lib.hid h
  have HO := Lib.hid ho.h
  have hp := h.ptr
  clear h ho
  refine (callsIn_wide (n := 3)).1 (callsIn_of_wp_marks Try.func23 rfl trivial ((wpIn_wide (n := 3)).2 ?_))
  simp only [Try.ntmps23, List.size_toArray, List.length_cons, List.length_nil, Nat.reduceAdd, Nat.reduceSub, Array.replicate_succ, Array.replicate_zero, List.push_toArray, List.append_toArray, List.nil_append, List.cons_append]
  go_wp2_with fail
  refine (all_any hp _).mono ?_
  rintro e w1 ⟨rfl, rfl⟩
  unfold allV
  go_wp2_with fail
  obtain ⟨U0, hU0⟩ : ∃ U, U = ((w.alloc (.cells #[.int .i64 0] 2)).alloc (.cells #[v] 23)) := ⟨_, rfl⟩
  have hB : Below w.heap.size w U0 := by rw [hU0]; exact ((Below.refl _ _).alloc (Nat.le_refl _) _).alloc (by simp) _
  have hS : Blk U0 w.heap.size 2 #[.int .i64 0] := by rw [hU0]; exact (Blk.new w _ _).alloc _
  have hA : Blk U0 (w.heap.size + 1) 23 #[v] := by rw [hU0]; exact Blk.new' _ _ (by simp)
  rw [← hU0]
  have HB := Lib.hid hB
  have HS := Lib.hid hS
  have HA := Lib.hid hA
  clear hU0 hB hS hA
  refine (wpIn_wide (n := 3)).1 ?_
  refine' wpIn_rangeFunc_H (F := Fence.wide) (n := 3) rfl (by omega) (gf := 56) (lb := #[.pointer (some ⟨w.heap.size + 1, 0, none⟩)]) rfl trivial (enters_of Try.func56 (by kernel_rfl) rfl)
    (all1_stops 2 (by omega) (w.heap.size + 1) v f HO.out.rise HO.out.len (fun p hp => by have := HO.out.each p hp; omega) U0 (HA.out.cell 0) (HV.out.grow HB.out)) (Below.refl _ _) (fun _ => rfl)
    (fun _ pre W => Blk W w.heap.size 2 #[.int .i64 (sumM pre)] ∧ Below w.heap.size w W)
    (fun _ _ _ _ => False)
    (fun _ => OwnFrom.and (Own.from (fun _ _ _ _ h hg hr => h.cells hg hr) _) (ownFrom_below (Nat.le_refl _) HB.out.size))
    (fun _ _ => fun _ _ _ _ h _ _ => h)
    (fun W0 hW0 => ⟨HS.out.grow hW0, HB.out.trans (hW0.mono HB.out.size)⟩) _ ?assign ?body ?done ?stop
  case assign =>
    intro l x W K hK
    gi_wp2
    exact hK
  case body =>
    rintro hi l pre x W _ ⟨hI, hB⟩ hsp hlt
    obtain ⟨hx0, hx1⟩ := HO.out.pre hsp
    rw [sumM_snoc] at hx0 hx1
    have hsn := sumM_snoc pre x
    obtain ⟨xa, xb⟩ := x
    obtain ⟨z, hz⟩ : ∃ z, z = sumM pre := ⟨_, rfl⟩
    rw [← hz] at hx0 hx1 hI hsn
    simp only at hx0 hx1 hsn
    have p0 : W.cell? ⟨w.heap.size, 0, none⟩ = some (.int .i64 z) := hI.cell 0
    have p1 : W.frozen? ⟨w.heap.size, 0, none⟩ = false := hI.frozen 0
    have hwr : IntKind.i64.wrap (z + xb) = z + xb := IntWalk.i64_in _ (by omega)
    have HI := Lib.hid hI
    have HSN := Lib.hid hsn
    have HBB := Lib.hid hB
    have hs0 := HB.out.size
    clear hI hB hsp hz hsn
    dsimp only
    gi_wp2
    refine ⟨KeepsOthers.setCell _ _ _, KeepR.set W (.inl (by simp; omega)) _, ?_, HBB.out.setCell (p := ⟨w.heap.size, 0, none⟩) (by simp) _⟩
    rw [HSN.out]
    exact HI.out.set_ 0 (.int .i64 (z + xb))
  case done =>
    rintro hi D ys W hD hys ⟨hI, hB⟩ hK
    subst hys
    have p0 : W.cell? ⟨w.heap.size, 0, none⟩ = some (.int .i64 (sumM f.M)) := hI.cell 0
    have HBB := Lib.hid hB
    have HK := Lib.hid hK
    have hD' : w.heap.size ≤ D := by have := HB.out.size; omega
    clear hI hB hK
    go_wp2_with fail
    refine ⟨by simp, .inl ⟨_, _, rfl, run_takeDeferred HK.out, ?_⟩⟩
    exact ⟨.int .i64 (sumM f.M), by simp [results, Try.results23, go_sem], rfl, HBB.out.trans (belowK_b (w := w) (Nat.le_refl _) W D _ _ hD' HK.out rfl rfl)⟩
  case stop =>
    rintro hi D c pre W hD hpre2 hf hK
    exact hf.elim
end Go.Proofs.Ytibhmgeckghoeaa.Ac

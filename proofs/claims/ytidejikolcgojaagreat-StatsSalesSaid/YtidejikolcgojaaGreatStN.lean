/- Stats: a row gone over from its end; the program's worth. -/
import Derived.Test.YtidejikolcgojaaGreatStM
namespace Go.Proofs.YtidejikolcgojaaGreat.St
open Go.RowKit Go.Shelf
open Go.Proofs.YtidejikolcgojaaGreat.Vb Go.Proofs.YtidejikolcgojaaGreat.Ac
attribute [local go_sem] Oper.semAt_some run_fadd run_fsub run_fmul run_fdiv run_store_float

/-- all below n₀ but the block g is as it was -/
structure KeepB (n₀ g : Nat) (W W' : World) : Prop where
  size : W.heap.size ≤ W'.heap.size
  same : ∀ b, b < n₀ → b ≠ g → W'.heap[b]? = W.heap[b]?
theorem KeepB.refl (n₀ g : Nat) (W : World) : KeepB n₀ g W W := ⟨Nat.le_refl _, fun _ _ _ => rfl⟩
theorem KeepB.trans {n₀ g : Nat} {A B C : World} (h : KeepB n₀ g A B) (k : KeepB n₀ g B C) : KeepB n₀ g A C := ⟨Nat.le_trans h.size k.size, fun b h1 h2 => (k.same b h1 h2).trans (h.same b h1 h2)⟩
theorem KeepB.put {n₀ g : Nat} (w : World) (hn : n₀ ≤ w.heap.size) (W : World) (l : Nat) (o o' : Obj) (hl : w.heap.size ≤ l) (_ : W.heap[l]? = some o) (_ : o.isCells = false) (_ : o.isWalk = false) : KeepB n₀ g W (W.putObj l o') :=
  ⟨(grownBy_putObj' W l o').size, fun b h1 _ => World.putObj_heap_other (by omega)⟩
theorem KeepB.below {n₀ g : Nat} {A B : World} (h : Below A.heap.size A B) (hn : n₀ ≤ A.heap.size) : KeepB n₀ g A B := ⟨h.size, fun b hb _ => h.block b (by omega)⟩
/-- a row's numbers with their places, from the end -/
def backs (l : List Nat) : List (Int × Nat) := ((List.range l.length).map fun (i : Nat) => ((i : Int), l.getD i 0)).reverse
theorem backs_length (l : List Nat) : (backs l).length = l.length := by simp [backs]
theorem backs_at {l : List Nat} {k x : Nat} (hk : k < l.length) (hx : l[l.length - 1 - k]? = some x) : (backs l)[k]? = some (((l.length - 1 - k : Nat) : Int), x) := by
  unfold backs
  rw [List.getElem?_reverse (by simpa using hk)]
  simp only [List.length_map, List.length_range]
  rw [List.getElem?_map, List.getElem?_range (by omega)]
  simp [List.getD, hx]
theorem backs_snoc {l : List Nat} {k x : Nat} (hk : k < l.length) (hx : l[l.length - 1 - k]? = some x) : (backs l).take (k + 1) = (backs l).take k ++ [(((l.length - 1 - k : Nat) : Int), x)] := by
  rw [List.take_add_one, backs_at hk hx]; rfl
/-- the row in sight: in blocks below n₀, none of them g -/
def RowIn (W : World) (n₀ g gx : Nat) (l : List Nat) : Prop := gx < n₀ ∧ gx ≠ g ∧ RowAt W gx (fun b => b < n₀ ∧ b ≠ g) l
theorem RowIn.keep {W W' : World} {n₀ g gx : Nat} {l : List Nat} (h : RowIn W n₀ g gx l) (hk : KeepB n₀ g W W') : RowIn W' n₀ g gx l := by
  obtain ⟨h1, h2, v, h3, h4⟩ := h
  exact ⟨h1, h2, v, (hk.same gx h1 h2).trans h3, h4.keep hk.size fun b _ hb => hk.same b hb.1 hb.2⟩

set_option maxRecDepth 100000 in
set_option maxHeartbeats 2000000 in
theorem back1_in (nn : Nat) (hn : 1 ≤ nn) (l n₀ g gx : Nat) (row : List Nat) (hle : row.length ≤ 1000) (J Jx : List (Int × Nat) → World → Prop)
    (hY : ∀ pre x W, J pre W → pre.length < row.length → YieldAt Fence.wide (nn - 1) Tryz.prog l #[.int .i64 x.1, .float .f64 x.2] W fun e W' =>
      (e = .returned (.bool true) ∧ J (pre ++ [x]) W' ∧ KeepB n₀ g W W') ∨ (e = .returned (.bool false) ∧ Jx (pre ++ [x]) W'))
    (W : World) (hr : RowIn W n₀ g gx row) (h0 : J [] W) :
    CallsIn Fence.wide nn Tryz.prog 88 #[.func (.yield l) #[] #[], .pointer (some ⟨gx, 0, none⟩)] W fun e W' => (∃ v, e = .returned v) ∧
      ((∃ ys, ys = backs row ∧ J ys W') ∨ (∃ pre, pre <+: backs row ∧ Jx pre W')) := by
  refine callsIn_of_wp Tryz.func88 rfl trivial ?_ rfl
  have HR := Lib.hid hr
  have HY := Lib.hid hY
  obtain ⟨_, _, v, hv1, hv2⟩ := hr
  obtain ⟨A, cap, rfl, hnc, hcap⟩ := hv2.form
  have k0 : W.cell? ⟨gx, 0, none⟩ = some (.slice A row.length cap) := hv1.cell 0
  have e0 : IntKind.i64.wrap ((row.length : Int) - 1) = (row.length : Int) - 1 := IntWalk.i64_in _ (by omega)
  clear hv1 hv2 hY
  simp only [Tryz.ntmps88, List.size_toArray, List.length_cons, List.length_nil, Nat.reduceAdd, Nat.reduceSub, Array.replicate_succ, Array.replicate_zero, List.push_toArray, List.append_toArray, List.nil_append, List.cons_append]
  gi_wp2
  clear k0
  gi_loopw [3] (fun i wr => ∃ k : Nat, k ≤ row.length ∧ i = .int .i64 ((row.length : Int) - 1 - k) ∧ J ((backs row).take k) wr ∧ KeepB n₀ g W wr) (fun i _ => (intOf i + 1).toNat)
  case atStart => exact ⟨0, Nat.zero_le _, by simp, h0, KeepB.refl _ _ _⟩
  case round =>
    obtain ⟨k, hk, rfl, hJs, hnx⟩ := hrel
    have HJ := Lib.hid hJs
    have HNX := Lib.hid hnx
    obtain ⟨_, _, v, hv1, hv2⟩ := HR.out.keep hnx
    obtain ⟨A, cap, rfl, hnc, hcap⟩ := hv2.form
    have k0 : wr.cell? ⟨gx, 0, none⟩ = some (.slice A row.length cap) := hv1.cell 0
    clear hJs hnx
    by_cases hlt : k < row.length
    · obtain ⟨j, hj⟩ : ∃ j, j = row.length - 1 - k := ⟨_, rfl⟩
      rw [show (row.length : Int) - 1 - (k : Int) = (j : Int) by omega]
      obtain ⟨x, hx⟩ : ∃ x, row[j]? = some x := ⟨_, List.getElem?_eq_getElem (by omega)⟩
      obtain ⟨bq, off, rfl, _, _, q0, q1⟩ := hv2.at_ hx
      have HSU := Lib.hid (backs_snoc hlt (by rw [← hj]; exact hx))
      obtain ⟨fn, tmps, assign, body, hy, hRR⟩ := HY.out _ (((j : Nat) : Int), x) wr HJ.out (by rw [List.length_take, backs_length]; omega)
      dsimp only at hy
      have HRR := Lib.hid hRR
      have HJJ := Lib.hid hj
      have e1 : (0 : Int) ≤ (j : Int) := by omega
      have e2 : (j : Int) < (row.length : Int) := by omega
      have e3 : IntKind.i64.wrap ((j : Int) - 1) = (j : Int) - 1 := IntWalk.i64_in _ (by omega)
      clear hx hj hv1 hv2 hRR q1
      gi_wp2
      refine HRR.out.mono ?_
      rintro e W3 (⟨rfl, hJ3, hk3⟩ | ⟨rfl, hJx3⟩)
      · gi_wp2
        go_roundw
        case rel => exact ⟨k + 1, by omega, by have := HJJ.out; congr 1; omega, by rw [HSU.out, ← HJJ.out]; exact hJ3, HNX.out.trans hk3⟩
        case measure => first | (simp [intOf]; done) | (simp [intOf]; omega)
      · gi_wp2
        refine bodyPost_ret (results_none rfl _ _ _) rfl ?_
        exact ⟨⟨_, rfl⟩, .inr ⟨_, by rw [HJJ.out, ← HSU.out]; exact List.take_prefix _ _, hJx3⟩⟩
    · obtain rfl : k = row.length := by omega
      have d1 : ¬ (0 : Int) ≤ (row.length : Int) - 1 - (row.length : Int) := by omega
      clear hv1 hv2
      gi_wp2
      go_end0
      have := HJ.out
      rw [List.take_of_length_le (by rw [backs_length]; omega)] at this
      first | exact ⟨⟨_, rfl⟩, .inl ⟨_, rfl, this⟩⟩ | exact ⟨⟨_, rfl⟩, .inl this⟩
theorem back1_stops (nn : Nat) (hn : 1 ≤ nn) (n₀ g gx : Nat) (row : List Nat) (hle : row.length ≤ 1000) (w : World) (hr : RowIn w n₀ g gx row) (hn₀ : n₀ ≤ w.heap.size) :
    SeqStopsK Fence.wide nn Tryz.prog 88 #[.pointer (some ⟨gx, 0, none⟩)] (fun x : Int × Nat => #[Value.int .i64 x.1, Value.float .f64 x.2]) (KeepB n₀ g) (fun ys => ys = backs row) (fun pre => pre <+: backs row) row.length w :=
  fun l J Jx W hW _ _ hY h0 => back1_in nn hn l n₀ g gx row hle J Jx hY W (hr.keep (KeepB.below hW hn₀)) h0

/-- what the rounds make of what was handed in -/
def worthP (q : Fl) (pre : List (Int × Nat)) : Fl := pre.foldl (fun a x => fadd (cn x.2) (fmul q a)) (some 0)
theorem worthP_snoc (q : Fl) (pre : List (Int × Nat)) (x : Int × Nat) : worthP q (pre ++ [x]) = fadd (cn x.2) (fmul q (worthP q pre)) := by
  unfold worthP
  rw [List.foldl_append]
  rfl
theorem worthP_all (q : Fl) (l : List Nat) : worthP q (backs l) = worthF q (nums l) := by
  have e : (List.range l.length).map (fun i => cn (l.getD i 0)) = nums l := by
    unfold nums
    refine List.ext_getElem? fun i => ?_
    rw [List.getElem?_map, List.getElem?_map]
    by_cases h : i < l.length
    · rw [List.getElem?_range h, List.getElem?_eq_getElem h]
      simp [List.getD, List.getElem?_eq_getElem h]
    · rw [List.getElem?_eq_none (by simpa using h), List.getElem?_eq_none (by omega)]
      rfl
  unfold worthP backs worthF
  rw [List.foldl_reverse, List.foldr_map, ← e, List.foldr_map]

theorem Backward_any {A : Option Addr} {n c : Nat} (w : World) : Calls Tryz.prog 69 #[.slice A n c] w fun e w' => e = .returned (.func (.func 88) #[] #[.pointer (some ⟨w.heap.size, 0, none⟩)]) ∧ w' = w.alloc (.cells #[.slice A n c] 24) := by
  go_enter Tryz.func69, Tryz.ntmps69
  go_wp2_with fail
  go_ret
  exact ⟨rfl, rfl⟩
set_option maxRecDepth 100000 in
set_option maxHeartbeats 4000000 in
theorem Worth_any {l : List Nat} {v : Value} {R : Nat → Prop} {q : Nat} {fq : Fl} {w : World} (h : Fls w R v l) (hq : IsF q fq) (hle : l.length ≤ 1000) :
    Calls Tryz.prog 31 #[.float .f64 q, v] w fun e w' => ∃ r, e = .returned (.float .f64 r) ∧ IsF r (fzero (worthF fq (nums l))) ∧ Below w.heap.size w w' := by
  obtain ⟨A, cap, rfl, hnc, hcap⟩ := h.form
  have HL := Lib.hid h
  have HQ := Lib.hid hq
  clear h hq
  refine (callsIn_wide (n := 3)).1 (callsIn_of_wp_marks Tryz.func31 rfl trivial ((wpIn_wide (n := 3)).2 ?_))
  simp only [Tryz.ntmps31, List.size_toArray, List.length_cons, List.length_nil, Nat.reduceAdd, Nat.reduceSub, Array.replicate_succ, Array.replicate_zero, List.push_toArray, List.append_toArray, List.nil_append, List.cons_append]
  go_wp2_with fail
  refine (Backward_any _).mono ?_
  rintro e w1 ⟨rfl, rfl⟩
  go_wp2_with fail
  obtain ⟨U, hU⟩ : ∃ U, U = ((w.alloc (.cells #[.float .f64 q] 27)).alloc (.cells #[.float .f64 0] 27)).alloc (.cells #[.slice A l.length cap] 24) := ⟨_, rfl⟩
  have hB : Below w.heap.size w U := by rw [hU]; exact (((Below.refl _ _).alloc (Nat.le_refl _) _).alloc (by simp) _).alloc (by simp; omega) _
  have hQ : Blk U w.heap.size 27 #[.float .f64 q] := by rw [hU]; exact ((Blk.new w _ _).alloc _).alloc _
  have hS : Blk U (w.heap.size + 1) 27 #[.float .f64 0] := by rw [hU]; exact (Blk.new' _ _ (by simp)).alloc _
  have hX : Blk U (w.heap.size + 2) 24 #[.slice A l.length cap] := by rw [hU]; exact Blk.new' _ _ (by simp)
  have hs : U.heap.size = w.heap.size + 3 := by rw [hU]; simp
  have hs0 : w.heap.size + 3 ≤ U.heap.size := by omega
  rw [← hU]
  have HR := Lib.hid (show RowIn U (w.heap.size + 3) (w.heap.size + 1) (w.heap.size + 2) l from ⟨by omega, by omega, _, hX, ⟨(HL.out.1.mono (R' := fun b => b < w.heap.size + 3 ∧ b ≠ w.heap.size + 1) fun b hb _ => ⟨by omega, by omega⟩).grow hB, HL.out.2⟩⟩)
  have HB := Lib.hid hB
  have HQB := Lib.hid hQ
  have HSB := Lib.hid hS
  clear hU hB hQ hS hX hs
  refine (wpIn_wide (n := 3)).1 ?_
  refine' wpIn_rangeFunc_ownF (F := Fence.wide) (n := 3) rfl (by omega) (gf := 88) (lb := #[.pointer (some ⟨w.heap.size + 2, 0, none⟩)]) rfl trivial (enters_of Tryz.func88 (by kernel_rfl) rfl)
    (back1_stops 2 (by omega) (w.heap.size + 3) (w.heap.size + 1) (w.heap.size + 2) l hle U HR.out hs0) (fun h k => h.trans k) (KeepB.put U hs0) (Below.refl _ _) (fun _ => rfl)
    (fun pre W => (∃ a, Blk W (w.heap.size + 1) 27 #[.float .f64 a] ∧ IsF a (worthP fq pre) ∧ Blk W w.heap.size 27 #[.float .f64 q]) ∧ Below w.heap.size w W)
    (fun _ _ _ => False)
    (OwnFrom.and (Own.from (fun _ _ _ _ h hg hr => by obtain ⟨a, h1, h2, h3⟩ := h; exact ⟨a, h1.cells hg hr, h2, h3.cells hg hr⟩) _) (ownFrom_below (Nat.le_refl _) HB.out.size))
    (fun _ => fun _ _ _ _ h _ _ => h)
    ⟨⟨0, HSB.out, zero_isF, HQB.out⟩, HB.out⟩ _ ?assign ?body ?done ?stop
  case assign =>
    intro l' x W K hK
    gi_wp2
    exact hK
  case body =>
    rintro l' pre ⟨xi, x⟩ W ⟨⟨a, h1, h2, h3⟩, hb⟩ hlt
    have p0 : W.cell? ⟨w.heap.size, 0, none⟩ = some (.float .f64 q) := h3.cell 0
    have p1 : W.cell? ⟨w.heap.size + 1, 0, none⟩ = some (.float .f64 a) := h1.cell 0
    have p2 : W.frozen? ⟨w.heap.size + 1, 0, none⟩ = false := h1.frozen 0
    have H1 := Lib.hid h1
    have H2 := Lib.hid h2
    have H3 := Lib.hid h3
    have HBB := Lib.hid hb
    have HSN := Lib.hid (worthP_snoc fq pre (xi, x))
    have hszU := HB.out.size
    clear h1 h2 h3 hb hlt
    dsimp only
    gi_wp2
    generalize hv : aV Ieee.double.mul q a _ = x1
    have Hx1 := Lib.hid (isF_eq hv (isF_mul HQ.out H2.out _))
    clear hv
    generalize hv : aV Ieee.double.add x x1 _ = x2
    have Hx2 := Lib.hid (isF_eq hv (isF_addL Hx1.out _))
    clear hv
    generalize hW : W.drewN _ = W1
    have hh : W1.heap = W.heap := by rw [← hW]; rfl
    have HK1 := Lib.hid (show KeepsOthers W W1 from ⟨by rw [hh]; exact Nat.le_refl _, fun k o h _ => by rw [hh]; exact h⟩)
    have HB1 := Lib.hid (show Below w.heap.size w W1 by rw [← hW]; exact below_drewN HBB.out _)
    have HY1 := Lib.hid (show Blk W1 (w.heap.size + 1) 27 #[.float .f64 a] by rw [← hW]; exact H1.out)
    have HY0 := Lib.hid (show Blk W1 w.heap.size 27 #[.float .f64 q] by rw [← hW]; exact H3.out)
    have HKB := Lib.hid (show KeepB (w.heap.size + 3) (w.heap.size + 1) W W1 from ⟨by rw [hh]; exact Nat.le_refl _, fun b _ _ => by rw [hh]⟩)
    clear hW hh
    exact ⟨HK1.out.trans (KeepsOthers.setCell _ _ _), HKB.out.trans ⟨by simp [World.setCell], fun b h1 h2 => Below.heap_setCell W1 ⟨w.heap.size + 1, 0, none⟩ _ b h2⟩, ⟨x2, HY1.out.set_ 0 _, by rw [HSN.out]; exact Hx2.out, HY0.out.far (p := ⟨w.heap.size + 1, 0, none⟩) (by show w.heap.size ≠ w.heap.size + 1; omega) _⟩, HB1.out.setCell (p := ⟨w.heap.size + 1, 0, none⟩) (by show w.heap.size ≤ w.heap.size + 1; omega) _⟩
  case done =>
    rintro D ys W hD hys ⟨⟨a, h1, h2, h3⟩, hb⟩ hK
    subst hys
    rw [worthP_all] at h2
    have p0 : W.cell? ⟨w.heap.size + 1, 0, none⟩ = some (.float .f64 a) := h1.cell 0
    have HA := Lib.hid h2
    have HBB := Lib.hid hb
    have HK := Lib.hid hK
    have hD' : w.heap.size ≤ D := by have := HB.out.size; omega
    clear h1 h2 h3 hb hK
    go_wp2_with fail
    refine (plain_any HA.out _).mono ?_
    rintro e w9 ⟨r, rfl, hr, hw9⟩
    rw [hw9]
    have HR9 := Lib.hid hr
    clear hr hw9
    go_wp2_with fail
    refine ⟨by simp, .inl ⟨_, _, rfl, run_takeDeferred HK.out, ?_⟩⟩
    exact ⟨.float .f64 r, by simp [results, Tryz.results31, go_sem], r, rfl, HR9.out, HBB.out.trans (belowK_b (w := w) (Nat.le_refl _) W D _ _ hD' HK.out rfl rfl)⟩
  case stop =>
    rintro D c pre W hD hpre2 hf hK
    exact hf.elim
end Go.Proofs.YtidejikolcgojaaGreat.St

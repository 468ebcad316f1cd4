/- Stats: the document's order is the sort. -/
import Derived.Test.YtidejikolcgojaaGreatStW
import Derived.BigQuiet
import Derived.Test.YtidejikolcgojaaGreatStJ
import Derived.Deep.CutRange
import Derived.Deep.CutBlock
namespace Go.Proofs.YtidejikolcgojaaGreat.St
open Go.RowKit Go.Shelf
open Go.Proofs.YtidejikolcgojaaGreat.Vb Go.Proofs.YtidejikolcgojaaGreat.Ac
attribute [local go_sem] run_fadd run_fsub run_fmul run_fdiv run_store_float

theorem quietL {P : Program} {f : FuncId} {args : Array Value} {w : World} {n : Nat} {v : Value}
    (h : Calls P f args (w.drewN n) fun e w' => e = .returned v ∧ w' = w.drewN n) : Calls P f args (w.drewN n) fun e w'' => e = .returned v ∧ ∃ m, w'' = w.drewN m :=
  h.mono fun _ _ ⟨he, hm⟩ => ⟨he, n, hm⟩
/-- the place that is sought -/
def Spot (S : List Nat) (x : Nat) (W : World) (v : Value) (W' : World) : Prop :=
  ∃ q : Nat, q ≤ S.length ∧ v = .int .i64 q ∧ (∀ i y, q ≤ i → S[i]? = some y → keyB x < keyB y) ∧ (∀ y, 0 < q → S[q - 1]? = some y → ¬ keyB x < keyB y) ∧ Below W.heap.size W W'
theorem flts_at {S : List Nat} {j x : Nat} (h : S[j]? = some x) : (flts S)[j]? = some (.float .f64 x) := by
  unfold flts
  rw [List.getElem?_map, h]
  rfl
theorem flts_set (S : List Nat) (j x : Nat) : (flts S).set j (.float .f64 x) = flts (S.set j x) := by
  unfold flts
  rw [List.map_set]
theorem insY_end (S : List Nat) (y : Nat) : insY S S.length y = S ++ [y] := by
  unfold insY
  rw [List.take_length, List.drop_length]
theorem takeSort_length {l : List Nat} {k : Nat} (hk : k ≤ l.length) : (sortB (l.take k)).length = k := by
  rw [sortB_length, List.length_take]
  omega
theorem flts_sort0 (l : List Nat) : flts (sortB (l.take 0)) = [] := by
  rw [List.take_zero, List.eq_nil_of_length_eq_zero (by rw [sortB_length]; rfl : (sortB []).length = 0)]
  rfl
theorem sortB_notN {l : List Nat} {k i y : Nat} (hn : l.any isN = false) (h : (sortB (l.take k))[i]? = some y) : isN y = false := by
  have h1 : y ∈ l := List.mem_of_mem_take ((sortB_perm _).mem_iff.1 (List.mem_of_getElem? h))
  rw [List.any_eq_false] at hn
  simpa using hn y h1
set_option maxRecDepth 100000 in
set_option maxHeartbeats 8000000 in
theorem Sorted_any {l : List Nat} {v : Value} {R : Nat → Prop} {w : World} (h : Fls w R v l) (hn : l.any isN = false) (hle : l.length ≤ 1000) :
    Calls Tryz.prog 56 #[v] w fun e w' => ∃ A c, e = .returned (.slice A l.length c) ∧ w'.ownsRow w.heap.size 27 1 (.slice A l.length c) l.length (flts (sortB l)) ∧ Below w.heap.size w w' := by
  obtain ⟨A, cap, rfl, hnc, hcap⟩ := h.form
  have HL := Lib.hid h
  have HNN := Lib.hid hn
  clear h hn
  go_enter Tryz.func56, Tryz.ntmps56
  go_wp2_with fail
  go_loopw [3, 4] (fun o i wr => ∃ k : Nat, k ≤ l.length ∧ i = .int .i64 k ∧ wr.ownsRow w.heap.size 27 1 o k (flts (sortB (l.take k))) ∧ Below w.heap.size w wr) (fun _ i _ => l.length - (intOf i).toNat)
  case atStart => exact ⟨0, Nat.zero_le _, rfl, by rw [flts_sort0]; exact World.ownsRow_nil _ _ _ _, Below.refl _ _⟩
  case round =>
    obtain ⟨k, hk, rfl, hown, hb⟩ := hrel
    have HB := Lib.hid hb
    have HO := Lib.hid hown
    obtain ⟨B1, d1, rfl⟩ := own_form hown
    by_cases hlt : k < l.length
    · obtain ⟨x, hx⟩ : ∃ x, l[k]? = some x := ⟨_, List.getElem?_eq_getElem hlt⟩
      obtain ⟨bq, off, rfl, _, lq, q0, q1⟩ := (HL.out.grow hb).at_ hx
      have HX := Lib.hid hx
      have HXB := Lib.hid q1
      have HXN := Lib.hid (show isN x = false by
        have hn := HNN.out
        rw [List.any_eq_false] at hn
        simpa using hn x (List.mem_of_getElem? hx))
      have HSL := Lib.hid (takeSort_length (l := l) hk)
      have e1 : (0 : Int) ≤ (k : Int) := by omega
      have e2 : (k : Int) < (l.length : Int) := by omega
      clear hx hb hown q1
      go_upto_block 2 with fail
      go_cut [5] from 7 to 56 (fun p wx => Spot (sortB (l.take k)) x wr p wx)
      case first =>
        go_wp2_with fail
        go_loopw [5] (fun p wx => ∃ q : Nat, q ≤ k ∧ p = .int .i64 q ∧ (∀ i y, q ≤ i → (sortB (l.take k))[i]? = some y → keyB x < keyB y) ∧ Below wr.heap.size wr wx) (fun p _ => (intOf p).toNat)
        case atStart => exact ⟨k, Nat.le_refl _, rfl, fun i y h1 h2 => absurd (List.getElem?_eq_some_iff.1 h2).1 (by rw [HSL.out]; omega), Below.refl _ _⟩
        case round =>
          obtain ⟨q, hq, rfl, hall, hb2⟩ := hrel
          have HAL := Lib.hid hall
          have HB2 := Lib.hid hb2
          clear hall
          by_cases h0 : 0 < q
          · obtain ⟨r, hr⟩ : ∃ r, q = r + 1 := ⟨q - 1, by omega⟩
            obtain ⟨y, hy⟩ : ∃ y, (sortB (l.take k))[r]? = some y := ⟨_, List.getElem?_eq_getElem (by rw [HSL.out]; omega)⟩
            have hyb : y < bits64 := sortB_lt (fun y hy => HL.out.2 y (List.mem_of_mem_take hy)) y (List.mem_of_getElem? hy)
            have hyn : isN y = false := sortB_notN HNN.out hy
            obtain ⟨g, c, hA, hlg, hg2⟩ := World.ownsRow.form HO.out (by omega)
            injection hA with hA _ hc
            subst hA hc
            have hG := (HO.out.cellAt r (by omega)).trans (flts_at hy)
            have hfk := fless_key HXB.out hyb HXN.out hyn
            have HY := Lib.hid hy
            have HYB := Lib.hid hyb
            have hsx := hb2.size
            have p0 := (hb2.cell (p := ⟨bq, off + k, none⟩) (by omega)).trans q0
            have p1 := (hb2.cell (p := ⟨g, r, none⟩) hg2).trans hG
            have d1 : decide ((q : Int) > 0) = true := by simp; omega
            have d2 : IntKind.i64.wrap ((q : Int) - 1) = (r : Int) := by rw [IntWalk.i64_in _ (by omega)]; omega
            have d3 : (0 : Int) ≤ (r : Int) := by omega
            have d4 : (r : Int) < (k : Int) := by omega
            have HR := Lib.hid hr
            clear hy hyb hyn hG hb2 hr
            by_cases hkey : keyB x < keyB y
            · rw [decide_eq_true hkey] at hfk
              have HK := Lib.hid hkey
              have hls : ∀ W, Calls Tryz.prog 80 #[.float .f64 x, .float .f64 y] W fun e w' => e = .returned (.bool true) ∧ w' = W := fun W => by have h := less_any HXB.out HYB.out W; rwa [hfk] at h
              have HLS := Lib.hid hls
              clear hkey hfk hls
              go_upto_region 6 with fail
              go_quiet ((go_at_call 80; exact quietL (HLS.out _)))
              go_wp2_with fail
              go_roundw
              case rel => exact ⟨r, by omega, rfl, fun i z h1 h2 => by
                by_cases hi : i = r
                · subst hi
                  have hyz := HY.out.symm.trans h2
                  injection hyz with hyz
                  subst hyz
                  exact HK.out
                · exact HAL.out i z (by have := HR.out; omega) h2, below_drewN HB2.out _⟩
              case measure => have := HR.out; simp [intOf]; omega
            · rw [decide_eq_false hkey] at hfk
              have HK := Lib.hid hkey
              have hls : ∀ W, Calls Tryz.prog 80 #[.float .f64 x, .float .f64 y] W fun e w' => e = .returned (.bool false) ∧ w' = W := fun W => by have h := less_any HXB.out HYB.out W; rwa [hfk] at h
              have HLS := Lib.hid hls
              clear hkey hfk hls
              go_upto_region 6 with fail
              go_quiet ((go_at_call 80; exact quietL (HLS.out _)))
              go_wp2_with fail
              go_meet
              exact ⟨q, by rw [HSL.out]; exact hq, rfl, HAL.out, fun z _ h2 => by
                rw [show q - 1 = r by have := HR.out; omega] at h2
                have hyz := HY.out.symm.trans h2
                injection hyz with hyz
                subst hyz
                exact Int.not_lt.2 HK.out, below_drewN HB2.out _⟩
          · obtain rfl : q = 0 := by omega
            have d1 : decide (((0 : Nat) : Int) > 0) = false := by decide
            go_upto_region 6 with fail
            go_quiet (fail)
            go_wp2_with fail
            go_meet
            exact ⟨0, Nat.zero_le _, rfl, HAL.out, fun z h1 _ => absurd h1 (by omega), below_drewN HB2.out _⟩
      case rest =>
        obtain ⟨q, hq, rfl, hall, hnx, hb2⟩ := hcut
        rw [HSL.out] at hq
        have HAL := Lib.hid hall
        have HNX := Lib.hid hnx
        have HBC := Lib.hid (HB.out.trans (hb2.mono HB.out.size))
        have HOC := Lib.hid (own_grow HO.out hb2)
        have hsc := hb2.size
        have hsw := HB.out.size
        clear hall hnx hb2 q0
        have HZL := Lib.hid (show Sl (wc.alloc (.cells #[.float .f64 0] 27)) (fun _ => True) (.slice (some ⟨wc.heap.size, 0, none⟩) 1 1) 1 1 [.float .f64 0] from (Sl.new wc #[.float .f64 0] 27 1 1 (by unfold maxLen; omega) rfl).mono fun _ _ _ => trivial)
        go_wp2_with (at_builtin; go_must (refine wpList_app _ rfl (.tmp 31) (.tmp 32) et_f64 rfl w.heap.size (.slice B1 k d1) k (flts (sortB (l.take k))) rfl (own_grow HOC.out ((Below.refl wc.heap.size wc).alloc (Nat.le_refl _) (.cells #[.float .f64 0] 27))) _ _ 1 _ rfl HZL.out (by simp [Value.oneCell']) (by omega) (by unfold maxLen; omega) (by simp; omega) ?_; intro A5 c5 w5 hown5 hg5 _; have HB5 := Lib.hid ((HBC.out.alloc (by omega) (.cells #[.float .f64 0] 27)).grown hg5 (by simp; omega) (fun r e => (HOC.out.lt r e).1)); have HO5 := Lib.hid hown5; clear hown5 hg5))
        obtain ⟨g5, c6, hA5, hl5, hg5⟩ := World.ownsRow.form HO5.out (by omega)
        injection hA5 with hA5 _ hc5
        subst hA5 hc5
        go_loopw [6] (fun p wx => ∃ (m y : Nat), q ≤ m ∧ m ≤ k ∧ p = .int .i64 m ∧ wx.ownsRow w.heap.size 27 1 (.slice (some ⟨g5, 0, none⟩) (k + 1) c5) (k + 1) (flts (insY (sortB (l.take k)) m y)) ∧ Below w.heap.size w wx) (fun p _ => (intOf p).toNat)
        case atStart => exact ⟨k, 0, hq, Nat.le_refl _, by go_num, by
          have h := insY_end (sortB (l.take k)) 0
          rw [HSL.out] at h
          rw [h, flts_append]
          exact HO5.out, HB5.out⟩
        case round =>
          obtain ⟨m, y, hqm, hmk, rfl, hown6, hb6⟩ := hrel
          have HO6 := Lib.hid hown6
          have HB6 := Lib.hid hb6
          have p2 := (HO6.out.cellAt m (by omega)).trans (flts_at (insY_at (y := y) (show m ≤ (sortB (l.take k)).length by rw [HSL.out]; exact hmk)))
          have hgw : w.heap.size ≤ g5 := (hown6.lt g5 rfl).1
          by_cases hgt : q < m
          · obtain ⟨r, hr⟩ : ∃ r, m = r + 1 := ⟨m - 1, by omega⟩
            obtain ⟨z, hz⟩ : ∃ z, (sortB (l.take k))[r]? = some z := ⟨_, List.getElem?_eq_getElem (by rw [HSL.out]; omega)⟩
            have p0 := (HO6.out.cellAt r (by omega)).trans (flts_at ((insY_below (y := y) (show r < m by omega) (by rw [HSL.out]; omega)).trans hz))
            have p1 := HO6.out.frozenAt m
            have d1 : decide ((m : Int) > (q : Int)) = true := by simp; omega
            have d2 : IntKind.i64.wrap ((m : Int) - 1) = (r : Int) := by rw [IntWalk.i64_in _ (by omega)]; omega
            have d3 : (0 : Int) ≤ (r : Int) := by omega
            have d4 : (r : Int) < (k : Int) + 1 := by omega
            have d5 : (0 : Int) ≤ (m : Int) := by omega
            have d6 : (m : Int) < (k : Int) + 1 := by omega
            have HST := Lib.hid (show (wr.setCell ⟨g5, m, none⟩ (.float .f64 z)).ownsRow w.heap.size 27 1 (.slice (some ⟨g5, 0, none⟩) (k + 1) c5) (k + 1) (flts (insY (sortB (l.take k)) r z)) by
              have h := (World.ownsRow.stored HO6.out m (.float .f64 z)).1
              rw [flts_set, hr, insY_down (by rw [HSL.out]; omega) hz] at h
              rw [hr]
              exact h)
            have HBS := Lib.hid (HB6.out.setCell (p := ⟨g5, m, none⟩) hgw (.float .f64 z))
            have HR := Lib.hid hr
            clear hown6 hb6 hz hr
            go_wp2_with fail
            go_roundw
            case rel => exact ⟨r, z, by have := HR.out; omega, by have := HR.out; omega, rfl, HST.out, HBS.out⟩
            case measure => have := HR.out; simp [intOf]; omega
          · obtain rfl : m = q := by omega
            obtain ⟨bq2, off2, hA2, _, lq2, z0, _⟩ := (HL.out.grow hb6).at_ HX.out
            injection hA2 with hA2
            injection hA2 with hA2 hA3 _
            subst hA2 hA3
            have p1 := HO6.out.frozenAt m
            have d1 : decide ((m : Int) > (m : Int)) = false := by simp
            have d5 : (0 : Int) ≤ (m : Int) := by omega
            have d6 : (m : Int) < (k : Int) + 1 := by omega
            have HST := Lib.hid (show (wr.setCell ⟨g5, m, none⟩ (.float .f64 x)).ownsRow w.heap.size 27 1 (.slice (some ⟨g5, 0, none⟩) (k + 1) c5) (k + 1) (flts (sortB (l.take (k + 1)))) by
              have h := (World.ownsRow.stored HO6.out m (.float .f64 x)).1
              rw [flts_set, insY_set _ _ _ _ (by rw [HSL.out]; omega), sort_step HL.out.2 HX.out HAL.out (fun z h1 h2 => Int.not_lt.2 (HNX.out z h1 h2)) hq] at h
              exact h)
            have HBS := Lib.hid (HB6.out.setCell (p := ⟨g5, m, none⟩) hgw (.float .f64 x))
            clear hown6 hb6
            go_wp2_with fail
            go_roundw
            case rel => exact ⟨k + 1, by omega, by go_num, HST.out, HBS.out⟩
            case measure => simp [intOf]; omega
    · obtain rfl : k = l.length := by omega
      have HO2 := Lib.hid (show wr.ownsRow w.heap.size 27 1 (.slice B1 l.length d1) l.length (flts (sortB l)) by have h := HO.out; rwa [List.take_length] at h)
      clear hown hb
      go_wp2_with fail
      go_ret
      exact ⟨B1, d1, rfl, HO2.out, HB.out⟩
end Go.Proofs.YtidejikolcgojaaGreat.St

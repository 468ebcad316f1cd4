/- Stats: the document's ends. -/
import Derived.Test.YtidejikolcgojaaGreatSbJ
import Derived.Test.YtidejikolcgojaaGreatSbC
namespace Go.Proofs.YtidejikolcgojaaGreat.St
open Go.RowKit Go.Shelf
open Go.Proofs.YtidejikolcgojaaGreat.Vb Go.Proofs.YtidejikolcgojaaGreat.Ac
attribute [local go_sem] run_fadd run_fsub run_fmul run_fdiv run_store_float

theorem okL_snoc {l : List Nat} {k x : Nat} (hx : l[k]? = some x) : okL (l.take (k + 1)) = okL (l.take k) ++ (if isN x then [] else [x]) := by
  unfold okL
  rw [List.take_add_one, hx, List.filter_append]
  cases h : isN x <;> simp [h]
theorem okL_any (l : List Nat) : (okL l).any isN = false := by
  rw [List.any_eq_false]
  intro x hx
  have := (List.mem_filter.1 hx).2
  simpa using this
theorem okL_take_le (l : List Nat) (k : Nat) (hk : k ≤ l.length) : (okL (l.take k)).length ≤ k := by
  have h := okL_length (l.take k)
  rw [List.length_take] at h
  omega
set_option maxRecDepth 100000 in
set_option maxHeartbeats 8000000 in
theorem refEnds_any {l : List Nat} {v : Value} {R : Nat → Prop} {w : World} (h : Fls w R v l) (hle : l.length ≤ 1000) :
    Calls Tryz.prog 28 #[v] w fun e w' => e = .returned (.tuple #[.float .f64 (endA l), .float .f64 (endB l), .bool (!(okL l).isEmpty)]) ∧ Below w.heap.size w w' := by
  obtain ⟨A, cap, rfl, hnc, hcap⟩ := h.form
  have HL := Lib.hid h
  have hol := okL_length l
  obtain ⟨za, hza⟩ : ∃ z, z = endA l := ⟨_, rfl⟩
  obtain ⟨zb, hzb⟩ : ∃ z, z = endB l := ⟨_, rfl⟩
  obtain ⟨zo, hzo⟩ : ∃ z, z = !(okL l).isEmpty := ⟨_, rfl⟩
  rw [← hza, ← hzb, ← hzo]
  have HZA := Lib.hid hza
  have HZB := Lib.hid hzb
  have HZO := Lib.hid hzo
  clear h hza hzb hzo
  go_enter Tryz.func28, Tryz.ntmps28
  go_wp2_with fail
  go_loopw [5, 6] (fun o i wr => ∃ k : Nat, k ≤ l.length ∧ i = .int .i64 k ∧ OwnL wr w.heap.size o (okL (l.take k)) ∧ Below w.heap.size w wr) (fun _ i _ => l.length - (intOf i).toNat)
  case atStart => exact ⟨0, Nat.zero_le _, rfl, ownL_nil _ _, Below.refl _ _⟩
  case round =>
    obtain ⟨k, hk, rfl, ho, hbl⟩ := hrel
    have HBL := Lib.hid hbl
    have HO := Lib.hid ho
    obtain ⟨B1, d1, rfl⟩ := ownL_form ho
    by_cases hlt : k < l.length
    · obtain ⟨x, hx⟩ : ∃ x, l[k]? = some x := ⟨_, List.getElem?_eq_getElem hlt⟩
      obtain ⟨bq, off, rfl, _, hbq, q0, q1⟩ := (HL.out.grow hbl).at_ hx
      have HX := Lib.hid q1
      have HSN := Lib.hid (okL_snoc hx)
      have HTL := Lib.hid (okL_take_le l k hk)
      have htl := okL_take_le l k hk
      have hne := neq_self x
      have e1 : (0 : Int) ≤ (k : Int) := by omega
      have e2 : (k : Int) < (l.length : Int) := by omega
      have hsz := hbl.size
      clear hx hbl q1 ho
      cases hn : isN x with
      | true =>
        rw [hn] at hne
        have hnx : (FloatKind.f64.format.order x x == some .eq) = false := by
          have h : (FloatKind.f64.format.order x x != some .eq) = true := hne
          simpa [bne] using h
        have HS := Lib.hid (show okL (l.take (k + 1)) = okL (l.take k) by rw [HSN.out, hn]; simp)
        clear hn hne HSN
        go_wp2_with fail
        go_quiet (fail)
        go_wp2_with fail
        go_roundw
        case rel => exact ⟨k + 1, by omega, by go_num, by rw [HS.out]; exact HO.out.grow (below_drewN (Below.refl _ _) _), below_drewN HBL.out _⟩
        case measure => simp [intOf]; omega
      | false =>
        rw [hn] at hne
        have hnx : (FloatKind.f64.format.order x x == some .eq) = true := by
          have h : (FloatKind.f64.format.order x x != some .eq) = false := hne
          simpa [bne] using h
        have HS := Lib.hid (show okL (l.take (k + 1)) = okL (l.take k) ++ [x] by rw [HSN.out, hn]; simp)
        clear hn hne HSN
        obtain ⟨s, hs⟩ : ∃ s, s = okL (l.take k) := ⟨_, rfl⟩
        rw [← hs] at HO HS HTL htl ⊢
        clear hs
        go_wp2_with fail
        go_quiet (fail)
        go_wp2_with (at_builtin; go_must (generalize hW : wr.drewN _ = w9; have HW1 := Lib.hid (show Below wr.heap.size wr w9 by rw [← hW]; exact below_drewN (Below.refl _ _) _); have hs1 : wr.heap.size ≤ w9.heap.size := HW1.out.size; have HSL := Lib.hid (show Sl (w9.alloc (.cells #[.float .f64 x] 27)) (fun _ => True) (.slice (some ⟨wr.heap.size, 0, none⟩) 1 1) 1 1 [.float .f64 x] from by (rw [show wr.heap.size = w9.heap.size by (rw [← hW]; rfl)]; exact (Sl.new w9 #[.float .f64 x] 27 1 1 (by unfold maxLen; omega) rfl).mono fun _ _ _ => trivial)); clear hW; refine wpList_app _ rfl (.tmp 22) (.tmp 27) et_f64 rfl w.heap.size (.slice B1 s.length d1) s.length (flts s) rfl (own_grow (own_grow HO.out.1 HW1.out) ((Below.refl w9.heap.size w9).alloc (Nat.le_refl _) (.cells #[.float .f64 x] 27))) _ _ 1 _ rfl HSL.out (by simp [Value.oneCell']) (by omega) (by unfold maxLen; omega) (by simp; omega) ?_; intro A5 c5 w5 hown5 hg5 _; have HB5 := Lib.hid (((HBL.out.trans (HW1.out.mono (by omega))).alloc (by omega) (.cells #[.float .f64 x] 27)).grown hg5 (by simp; omega) (fun r e => (HO.out.1.lt r e).1)); have HO5 := Lib.hid hown5; clear hown5 hg5))
        go_wp2_with fail
        go_roundw
        case rel => exact ⟨k + 1, by omega, by go_num, by rw [HS.out]; exact ownL_app HO.out.2 HX.out HO5.out, HB5.out⟩
        case measure => simp [intOf]; omega
    · obtain rfl : k = l.length := by omega
      rw [List.take_length] at HO ⊢
      clear hbl ho
      have hsl := sortB_length (okL l)
      by_cases he : okL l = []
      · have g1 : (((okL l).length : Int) == 0) = true := by rw [he]; rfl
        have HE := Lib.hid (show za = 0 ∧ zb = 0 ∧ zo = false by
          rw [HZA.out, HZB.out, HZO.out]
          unfold endA endB
          rw [he, show sortB [] = [] by simp [sortB]]
          exact ⟨rfl, rfl, rfl⟩)
        clear he hsl
        go_wp2_with fail
        refine bodyPost_ret (v := .tuple #[.float .f64 0, .float .f64 0, .bool false]) (by simp [results, Tryz.results28, go_sem]) rfl ⟨?_, HBL.out⟩
        rw [HE.out.1, HE.out.2.1, HE.out.2.2]
      · have g1 : (((okL l).length : Int) == 0) = false := by
          cases hq : okL l with
          | nil => exact absurd hq he
          | cons x r => simp; omega
        have hpos : 0 < (okL l).length := List.length_pos_iff.2 he
        obtain ⟨x, hx⟩ : ∃ x, (sortB (okL l))[0]? = some x := ⟨_, List.getElem?_eq_getElem (by omega)⟩
        obtain ⟨y, hy⟩ : ∃ y, (sortB (okL l))[(okL l).length - 1]? = some y := ⟨_, List.getElem?_eq_getElem (by omega)⟩
        have HE := Lib.hid (show za = x ∧ zb = y ∧ zo = true by
          rw [HZA.out, HZB.out, HZO.out]
          refine ⟨?_, ?_, ?_⟩
          · unfold endA
            rw [List.headD_eq_head?_getD, List.head?_eq_getElem?, hx]; rfl
          · unfold endB
            rw [List.getLastD_eq_getLast?, List.getLast?_eq_getElem?, hsl, hy]; rfl
          · cases hq : okL l with
            | nil => exact absurd hq he
            | cons x r => rfl)
        have HPX := Lib.hid hx
        have HPY := Lib.hid hy
        clear he hsl hx hy
        go_wp2_with fail
        refine (Sorted_any HO.out.fls (okL_any l) (by omega)).mono ?_
        rintro e w2 ⟨A2, cap2, rfl, ho2, hb2⟩
        have hf2 : Fls w2 (fun _ => True) (.slice A2 (okL l).length cap2) (sortB (okL l)) := ⟨by rw [sortB_length]; exact (Sl.of_own ho2).mono fun _ _ _ => trivial, sortB_lt HO.out.2⟩
        have HB2 := Lib.hid (HBL.out.trans (hb2.mono HBL.out.size))
        obtain ⟨bq, off, rfl, _, lq, c0, c1⟩ := hf2.at_ HPX.out
        obtain ⟨bq2, off2, hA2, _, _, c2, c3⟩ := hf2.at_ HPY.out
        injection hA2 with hA2
        injection hA2 with hA2 hA3 _
        subst hA2 hA3
        obtain ⟨n, hn⟩ : ∃ n, n = (okL l).length := ⟨_, rfl⟩
        rw [← hn] at c2 g1 hpos ⊢
        have i0 : IntKind.i64.wrap ((n : Int) - 1) = (n : Int) - 1 := IntWalk.i64_in _ (by omega)
        have i1 : (0 : Int) ≤ (n : Int) - 1 := by omega
        have i2 : (n : Int) - 1 < (n : Int) := by omega
        have i3 : ((n : Int) - 1).toNat = n - 1 := by omega
        have i4 : (0 : Int) < (n : Int) := by omega
        have i5 : 0 < n := by omega
        have c0' : w2.cell? ⟨bq, off, none⟩ = some (.float .f64 x) := c0
        clear ho2 hb2 hf2 c1 c3 hn hol
        go_wp2_with fail
        go_quiet (fail)
        go_wp2_with fail
        refine bodyPost_ret (v := .tuple #[.float .f64 x, .float .f64 y, .bool true]) (by simp [results, Tryz.results28, go_sem]) rfl ⟨?_, below_drewN HB2.out _⟩
        rw [HE.out.1, HE.out.2.1, HE.out.2.2]
end Go.Proofs.YtidejikolcgojaaGreat.St

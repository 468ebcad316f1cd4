/- Stats: the sums' iterator. -/
import Derived.Test.YtidejikolcgojaaGreatStY
namespace Go.Proofs.YtidejikolcgojaaGreat.St
open Go.RowKit Go.Shelf Go.Maps
open Go.Proofs.YtidejikolcgojaaGreat.Vb Go.Proofs.YtidejikolcgojaaGreat.Ac
attribute [local go_sem] Oper.semAt_some

def ints (l : List Int) : List Value := l.map (Value.int .i64)
theorem sl_int_at {w : World} {R : Nat → Prop} {A : Option Addr} {n c k : Nat} {l : List Int} (h : Sl w R (.slice A n c) n 1 (ints l)) (hk : k < n) :
    ∃ b off x, A = some ⟨b, off, none⟩ ∧ b < w.heap.size ∧ l[k]? = some x ∧ w.cell? ⟨b, off + k, none⟩ = some (.int .i64 x) := by
  obtain ⟨hl, A', c', hv, _, _, hc⟩ := h
  injection hv with hA _ _
  subst hA
  obtain ⟨b, off, hA, _, hlt, hcs⟩ := hc (by omega)
  have hl' : k < l.length := by simp [ints] at hl; omega
  exact ⟨b, off, l[k], hA, hlt, List.getElem?_eq_getElem hl', hcs k _ (by simp [ints, hl'])⟩
theorem at_get {M : HM} (h : Rising M) {j : Nat} {x : Int × Int} (hx : M[j]? = some x) : atM M x.1 = x.2 := atM_mem ((rising_keys h).imp fun h => Int.ne_of_lt h) (List.mem_of_getElem? hx)

set_option maxRecDepth 100000 in
set_option maxHeartbeats 2000000 in
theorem by1_in (nn : Nat) (hn : 1 ≤ nn) (l g m n : Nat) (M : HM) (hr : Rising M) (hl : M.length ≤ 1099511627776) (hkw : ∀ p ∈ M, int64b p.1) (J Jx : Nat → List (Int × Int) → World → Prop) (W : World) (hg : W.cell? ⟨g, 0, none⟩ = some (.map (some m))) (hv : SumAt W m n M)
    (hY : ∀ hi pre x W1, hi ≤ W1.heap.size → J hi pre W1 → pre ++ [x] <+: M → pre.length < M.length → YieldAt Fence.wide (nn - 1) Tryz.prog l #[.int .i64 x.1, .int .i64 x.2] W1 fun e W' =>
      (e = .returned (.bool true) ∧ J hi (pre ++ [x]) W' ∧ KeepX (fun b => b = g ∨ b = m) W.heap.size hi W1 W') ∨ (e = .returned (.bool false) ∧ Jx hi (pre ++ [x]) W'))
    (h0 : ∀ W0, Below W.heap.size W W0 → J W0.heap.size [] W0) :
    CallsIn Fence.wide nn Tryz.prog 89 #[.func (.yield l) #[] #[], .pointer (some ⟨g, 0, none⟩)] W fun e W' => (∃ v, e = .returned v) ∧
      ∃ hi, W.heap.size ≤ hi ∧ ((∃ xs, xs = M ∧ J hi xs W') ∨ (∃ pre, pre <+: M ∧ Jx hi pre W')) := by
  refine callsIn_of_wp Tryz.func89 rfl trivial ?_ rfl
  have HV := Lib.hid hv
  have HR := Lib.hid hr
  have HKW := Lib.hid hkw
  have HY := Lib.hid hY
  have H0 := Lib.hid h0
  have HG := Lib.hid hg
  have hgl := World.block_lt_of_cell? W ⟨g, 0, none⟩ hg
  have hml := hv.lt
  clear hr hkw hY h0 hv
  simp only [Tryz.ntmps89, List.size_toArray, List.length_cons, List.length_nil, Nat.reduceAdd, Nat.reduceSub, Array.replicate_succ, Array.replicate_zero, List.push_toArray, List.append_toArray, List.nil_append, List.cons_append]
  gi_wp2
  refine ⟨trivial, (callsIn_wide.2 (keys_any (some m) W)).mono ?_⟩
  rintro e w3 ⟨rfl, rfl⟩
  gi_wp2
  refine ⟨trivial, (callsIn_wide.2 (sorted_any (g := W.heap.size) (M := M) HR.out hl ((Blk.new W 100 #[.map (some m)]).cell 0) (HV.out.grow ((Below.refl _ _).alloc (Nat.le_refl _) _)))).mono ?_⟩
  rintro e w4 ⟨v4, rfl, hrow, hb4⟩
  obtain ⟨A4, cap4, rfl⟩ := own_form hrow
  have hs4 := hb4.size
  simp at hs4
  have hb14 : Below W.heap.size W w4 := ((Below.refl _ W).alloc (Nat.le_refl _) _).trans (hb4.mono (by simp))
  have hall : Sl w4 (fun b => W.heap.size ≤ b ∧ b < w4.heap.size) (.slice A4 M.length cap4) M.length 1 (ints (M.map (·.1))) := by
    refine (Sl.of_own hrow).mono fun b hb h => ⟨?_, hb⟩
    rcases hrow.2 with ⟨hnil, _⟩ | ⟨g', cp, cur, hv, hgb, _⟩
    · rw [hnil] at h; cases h
    · rw [hv] at h
      injection h with h
      simp at hgb h
      omega
  have HALL := Lib.hid hall
  have HB4 := Lib.hid hb14
  have e4 : (0 : Int) ≤ (M.length : Int) := by omega
  clear hrow hb4 hall hb14 hg
  gi_wp2
  gi_loopw [9] (fun i wr => ∃ j : Nat, j ≤ M.length ∧ i = .int .i64 j ∧ J w4.heap.size (M.take j) wr ∧ KeepX (fun b => b = g ∨ b = m) W.heap.size w4.heap.size w4 wr) (fun i _ => M.length - (intOf i).toNat)
  case atStart => exact ⟨0, Nat.zero_le _, rfl, H0.out w4 HB4.out, KeepX.refl _ _ _ _⟩
  case round =>
    obtain ⟨j, hj, rfl, hJs, hnx⟩ := hrel
    have hA := hnx.r.sl HALL.out
    have HJ := Lib.hid hJs
    have HNX := Lib.hid hnx
    have hsz := hnx.r.size
    have g0 : wr.cell? ⟨g, 0, none⟩ = some (.map (some m)) := (World.cell?_of_block (a := ⟨g, 0, none⟩) ((hnx.old g (.inl rfl)).trans (HB4.out.block g hgl))).trans HG.out
    have hvr : SumAt wr m n M := HV.out.same ((hnx.old m (.inr rfl)).trans (HB4.out.block m hml))
    clear hJs hnx
    by_cases hlt : j < M.length
    · obtain ⟨gb, go, x, rfl, _, hx, hc⟩ := sl_int_at hA hlt
      obtain ⟨p, hp⟩ : ∃ p, M[j]? = some p := ⟨_, List.getElem?_eq_getElem hlt⟩
      have hpx : p.1 = x := by rw [List.getElem?_map, hp] at hx; simpa using hx
      subst hpx
      have hlk := hvr.look (HKW.out p (List.mem_of_getElem? hp))
      rw [at_get (M := M) HR.out hp] at hlk
      have hsu : M.take (j + 1) = M.take j ++ [p] := by rw [List.take_add_one, hp]; rfl
      have hlj : (M.take j).length < M.length := by rw [List.length_take]; omega
      have HSU := Lib.hid hsu
      obtain ⟨fn, tmps, assign, body, hy, hRR⟩ := HY.out w4.heap.size _ p wr hsz HJ.out (by show _ <+: M; rw [← hsu]; exact List.take_prefix _ _) hlj
      obtain ⟨p1, p2⟩ := p
      dsimp only at hy hlk hc
      have HRR := Lib.hid hRR
      have e0 : (0 : Int) ≤ (j : Int) := by omega
      have e1 : (j : Int) < (M.length : Int) := by omega
      clear hx hp hsu hlj hRR hA hvr
      gi_wp2
      refine HRR.out.mono ?_
      rintro e W3 (⟨rfl, hJ3, hk3⟩ | ⟨rfl, hJx3⟩)
      · gi_wp2
        go_roundw
        case rel => exact ⟨j + 1, by omega, by go_num, by rw [HSU.out]; exact hJ3, HNX.out.trans hk3⟩
        case measure => simp [intOf]; omega
      · gi_wp2
        refine bodyPost_ret (results_none rfl _ _ _) rfl ?_
        exact ⟨⟨_, rfl⟩, w4.heap.size, HB4.out.size, .inr ⟨_, by rw [← HSU.out]; exact List.take_prefix _ _, hJx3⟩⟩
    · obtain rfl : j = M.length := by omega
      clear hA hvr
      gi_wp2
      go_end0
      have := HJ.out
      rw [List.take_of_length_le (Nat.le_refl _)] at this
      exact ⟨⟨_, rfl⟩, w4.heap.size, HB4.out.size, .inl ⟨_, rfl, this⟩⟩

theorem by1_stops (nn : Nat) (hn : 1 ≤ nn) (g m n : Nat) (M : HM) (hr : Rising M) (hl : M.length ≤ 1099511627776) (hkw : ∀ p ∈ M, int64b p.1) (w : World) (hg : w.cell? ⟨g, 0, none⟩ = some (.map (some m))) (hv : SumAt w m n M) :
    SeqStopsX Fence.wide nn Tryz.prog 89 #[.pointer (some ⟨g, 0, none⟩)] (fun x : Int × Int => #[Value.int .i64 x.1, Value.int .i64 x.2]) (fun b => b = g ∨ b = m) (fun ys => ys = M) (fun pre => pre <+: M) M.length w := fun l J Jx W hW _ _ hY h0 =>
  by1_in nn hn l g m n M hr hl hkw J Jx W ((hW.cell (p := ⟨g, 0, none⟩) (World.block_lt_of_cell? w ⟨g, 0, none⟩ hg)).trans hg) (hv.grow hW) hY h0
end Go.Proofs.YtidejikolcgojaaGreat.St

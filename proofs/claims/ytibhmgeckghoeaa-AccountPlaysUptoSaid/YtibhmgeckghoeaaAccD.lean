/- Account: All's iterator. -/
import Derived.Test.YtibhmgeckghoeaaAccC
namespace Go.Proofs.Ytibhmgeckghoeaa.Ac
open Go.RowKit Go.Shelf Go.Maps
open Go.Proofs.Ytibhmgeckghoeaa.Vb
attribute [local go_sem] Oper.semAt_some

def ints (l : List Int) : List Value := l.map (Value.int .i64)
theorem sl_int_at {w : World} {R : Nat → Prop} {A : Option Addr} {n c k : Nat} {l : List Int} (h : Sl w R (.slice A n c) n 1 (ints l)) (hk : k < n) :
    ∃ b off x, A = some ⟨b, off, none⟩ ∧ b < w.heap.size ∧ l[k]? = some x ∧ w.cell? ⟨b, off + k, none⟩ = some (.int .i64 x) := by
  obtain ⟨hl, A', c', hv, _, _, hc⟩ := h
  injection hv with hA _ _
  subst hA
  obtain ⟨b, off, hA, _, hlt, hcs⟩ := hc (by omega)
  have hl' : k < l.length := by simp [ints] at hl; omega
  exact ⟨b, off, l[k], hA, hlt, List.getElem?_eq_getElem hl', hcs k _ (by simp [ints, hl'])⟩
theorem at_get {M : HM} (h : Rising M) {j : Nat} {x : Int × Int} (hx : M[j]? = some x) : atM M x.1 = x.2 := atM_mem ((rising_keys h).imp fun h => Int.ne_of_lt h) (List.mem_of_getElem? hx)

/-- what the iterator has laid: the clone, the sorted lots -/
structure AllI (lo hi m A : Nat) (n cap : Nat) (a : Option Addr) (M : HM) (W : World) : Prop where
  row : Sl W (fun b => lo ≤ b ∧ b < hi) (.slice a M.length cap) M.length 1 (ints (M.map (·.1)))
  own : W.ownsMap Try.prog 3 (plainElem (H := Unit) Try.prog 2) m n (dM M)
  lom : lo ≤ m
  him : m < hi
theorem AllI.keep {lo hi m A n cap : Nat} {a : Option Addr} {M : HM} {W W' : World} (h : AllI lo hi m A n cap a M W) (hk : KeepR lo hi W W') : AllI lo hi m A n cap a M W' := by
  refine ⟨hk.sl h.row, ?_, h.lom, h.him⟩
  obtain ⟨es, clock, h1, h2⟩ := h.own
  exact ⟨es, clock, (hk.same _ h.lom h.him).trans h1, h2⟩
theorem map_look {W : World} {m n : Nat} {M : HM} (h : W.ownsMap Try.prog 3 (plainElem (H := Unit) Try.prog 2) m n (dM M)) {x : Int} (hx : -9223372036854775808 ≤ x ∧ x ≤ 9223372036854775807) :
    (Instr.lookup 65 (.map (some m)) (.int .i64 x) false).run Try.prog W = .ok (.int .i64 (atM M x)) W := by
  obtain ⟨c, hrun, hat, _⟩ := h.lookup_int int_keyed' Try.underlying65 Try.underlying2 (Try.zeroValue2 _) (Maps.keyOf_int_mk Try.underlying3 (i64wf hx))
  rw [dM_at] at hat
  exact hrun.trans (by rw [(Lit.int.inj (DataW.lit.inj hat)).2])

set_option maxRecDepth 100000 in
set_option maxHeartbeats 2000000 in
theorem all1_in (nn : Nat) (hn : 1 ≤ nn) (l g : Nat) (v : Value) (f : Fm) (hr : Rising f.M) (hl : f.M.length ≤ 1099511627776) (hkw : ∀ p ∈ f.M, -9223372036854775808 ≤ p.1 ∧ p.1 ≤ 9223372036854775807) (J Jx : Nat → List (Int × Int) → World → Prop) (W : World) (hg : W.cell? ⟨g, 0, none⟩ = some v) (hv : AtP W v f)
    (hY : ∀ hi pre x W1, hi ≤ W1.heap.size → J hi pre W1 → pre ++ [x] <+: f.M → pre.length < f.M.length → YieldAt Fence.wide (nn - 1) Try.prog l #[.int .i64 x.1, .int .i64 x.2] W1 fun e W' =>
      (e = .returned (.bool true) ∧ J hi (pre ++ [x]) W' ∧ KeepR W.heap.size hi W1 W') ∨ (e = .returned (.bool false) ∧ Jx hi (pre ++ [x]) W'))
    (h0 : ∀ W0, Below W.heap.size W W0 → J W0.heap.size [] W0) :
    CallsIn Fence.wide nn Try.prog 56 #[.func (.yield l) #[] #[], .pointer (some ⟨g, 0, none⟩)] W fun e W' => (∃ v, e = .returned v) ∧
      ∃ hi, W.heap.size ≤ hi ∧ ((∃ xs, xs = f.M ∧ J hi xs W') ∨ (∃ pre, pre <+: f.M ∧ Jx hi pre W')) := by
  refine callsIn_of_wp Try.func56 rfl trivial ?_ rfl
  have HV := Lib.hid hv
  have HR := Lib.hid hr
  have HKW := Lib.hid hkw
  have HY := Lib.hid hY
  have H0 := Lib.hid h0
  clear hr hkw hY h0
  simp only [Try.ntmps56, List.size_toArray, List.length_cons, List.length_nil, Nat.reduceAdd, Nat.reduceSub, Array.replicate_succ, Array.replicate_zero, List.push_toArray, List.append_toArray, List.nil_append, List.cons_append]
  have done : ∀ W1, Below W.heap.size W W1 → f.M = [] → (∃ v : Value, (Ending.returned (.tuple #[]) : Ending) = .returned v) ∧ ∃ hi, W.heap.size ≤ hi ∧ ((∃ xs, xs = f.M ∧ J hi xs W1) ∨ (∃ pre, pre <+: f.M ∧ Jx hi pre W1)) :=
    fun W1 hb he => ⟨⟨_, rfl⟩, W1.heap.size, hb.size, .inl ⟨[], he.symm, H0.out W1 hb⟩⟩
  have HD := Lib.hid done
  clear done
  cases f with
  | nil =>
    subst hv
    gi_wp2
    refine ⟨trivial, (callsIn_wide.2 (there_any (f := .nil) HV.out)).mono ?_⟩
    rintro e w1 ⟨rfl, rfl⟩
    unfold Fm.there
    gi_wp2
    refine bodyPost_ret (results_none rfl _ _ _) rfl ?_
    exact HD.out _ (Below.refl _ _) rfl
  | zero =>
    obtain ⟨b, rfl, hb⟩ := hv
    gi_wp2
    refine ⟨trivial, (callsIn_wide.2 (there_any (f := .zero) HV.out)).mono ?_⟩
    rintro e w1 ⟨rfl, rfl⟩
    unfold Fm.there
    gi_wp2
    refine bodyPost_ret (results_none rfl _ _ _) rfl ?_
    exact HD.out _ (Below.refl _ _) rfl
  | live a =>
    obtain ⟨b, m, n, rfl, hb⟩ := hv
    have c2 : W.cell? ⟨b, 2, none⟩ = some (.map (some m)) := hb.blk.cell 2
    have HB := Lib.hid hb
    clear hb
    gi_wp2
    refine ⟨trivial, (callsIn_wide.2 (there_any (f := .live a) HV.out)).mono ?_⟩
    rintro e w1 ⟨rfl, rfl⟩
    obtain ⟨tt, htt⟩ : ∃ z, z = (Fm.live a).there := ⟨_, rfl⟩
    rw [← htt]
    unfold Fm.there at htt
    gi_wp2
    refine ⟨trivial, (callsIn_wide.2 (clone_any HB.out)).mono ?_⟩
    rintro e w2 ⟨rfl, hown, hb2⟩
    have HOW := Lib.hid hown
    have HB2 := Lib.hid hb2
    clear c2 hown hb2
    gi_wp2
    refine ⟨trivial, (callsIn_wide.2 (keys_any (some w1.heap.size) w2)).mono ?_⟩
    rintro e w3 ⟨rfl, rfl⟩
    gi_wp2
    refine ⟨trivial, (callsIn_wide.2 (sorted_any (g := w2.heap.size) (M := a.M) HR.out hl ((Blk.new w2 65 #[.map (some w1.heap.size)]).cell 0) (HOW.out.alloc _))).mono ?_⟩
    rintro e w4 ⟨v4, rfl, hrow, hb4⟩
    obtain ⟨A4, cap4, rfl⟩ := own_form hrow
    have hall : AllI w1.heap.size w4.heap.size w1.heap.size 0 n cap4 A4 a.M w4 := by
      have hs2 := HB2.out.size
      have hs4 := hb4.size
      have hlt := HOW.out.lt
      simp at hs4
      refine ⟨(Sl.of_own hrow).mono fun b hb h => ⟨?_, hb⟩, Chg.ownsMap (HOW.out.alloc _) (Chg.of (fun _ => False) hb4) id, Nat.le_refl _, by omega⟩
      rcases hrow.2 with ⟨hnil, _⟩ | ⟨g', cp, cur, hv, hgb, _⟩
      · rw [hnil] at h; cases h
      · rw [hv] at h
        injection h with h
        simp at hgb h
        omega
    have hb14 : Below w1.heap.size w1 w4 := by
      have hs2 := HB2.out.size
      exact (HB2.out.trans ((Below.refl _ w2).alloc hs2 _)).trans (hb4.mono (by simp; omega))
    have HALL := Lib.hid hall
    have HB4 := Lib.hid hb14
    have e4 : (0 : Int) ≤ (a.M.length : Int) := by omega
    have hl4 : a.M.length ≤ 1099511627776 := hl
    clear hrow hb4 hall hb14
    gi_wp2
    gi_loopw [18] (fun i wr => ∃ j : Nat, j ≤ a.M.length ∧ i = .int .i64 j ∧ J w4.heap.size (a.M.take j) wr ∧ KeepR w1.heap.size w4.heap.size w4 wr) (fun i _ => a.M.length - (intOf i).toNat)
    case atStart => exact ⟨0, Nat.zero_le _, rfl, H0.out w4 HB4.out, KeepR.refl _ _ _⟩
    case round =>
      obtain ⟨j, hj, rfl, hJs, hnx⟩ := hrel
      have hA := HALL.out.keep hnx
      have HJ := Lib.hid hJs
      have HNX := Lib.hid hnx
      have hsz := hnx.size
      clear hJs hnx
      by_cases hlt : j < a.M.length
      · obtain ⟨gb, go, x, rfl, _, hx, hc⟩ := sl_int_at hA.row hlt
        obtain ⟨p, hp⟩ : ∃ p, a.M[j]? = some p := ⟨_, List.getElem?_eq_getElem hlt⟩
        have hpx : p.1 = x := by rw [List.getElem?_map, hp] at hx; simpa using hx
        subst hpx
        have hlk := map_look hA.own (HKW.out p (List.mem_of_getElem? hp))
        rw [at_get (M := a.M) HR.out hp] at hlk
        have hsu : a.M.take (j + 1) = a.M.take j ++ [p] := by rw [List.take_add_one, hp]; rfl
        have hlj : (a.M.take j).length < a.M.length := by rw [List.length_take]; omega
        have HSU := Lib.hid hsu
        obtain ⟨fn, tmps, assign, body, hy, hRR⟩ := HY.out w4.heap.size _ p wr hsz HJ.out (by show _ <+: a.M; rw [← hsu]; exact List.take_prefix _ _) hlj
        obtain ⟨p1, p2⟩ := p
        dsimp only at hy hlk hc
        have HRR := Lib.hid hRR
        have e0 : (0 : Int) ≤ (j : Int) := by omega
        have e1 : (j : Int) < (a.M.length : Int) := by omega
        clear hx hp hsu hlj hRR hA
        gi_wp2
        refine HRR.out.mono ?_
        rintro e W3 (⟨rfl, hJ3, hk3⟩ | ⟨rfl, hJx3⟩)
        · gi_wp2
          go_roundw
          case rel => exact ⟨j + 1, by omega, by go_num, by rw [HSU.out]; exact hJ3, HNX.out.trans hk3⟩
          case measure => simp [intOf]; omega
        · gi_wp2
          refine bodyPost_ret (results_none rfl _ _ _) rfl ?_
          exact ⟨⟨_, rfl⟩, w4.heap.size, HB4.out.size, .inr ⟨_, by rw [← HSU.out]; exact List.take_prefix _ _, hJx3⟩⟩
      · obtain rfl : j = a.M.length := by omega
        clear hA
        gi_wp2
        go_end0
        have := HJ.out
        rw [List.take_of_length_le (Nat.le_refl _)] at this
        exact ⟨⟨_, rfl⟩, w4.heap.size, HB4.out.size, .inl ⟨_, rfl, this⟩⟩

theorem all1_stops (nn : Nat) (hn : 1 ≤ nn) (g : Nat) (v : Value) (f : Fm) (hr : Rising f.M) (hl : f.M.length ≤ 1099511627776) (hkw : ∀ p ∈ f.M, -9223372036854775808 ≤ p.1 ∧ p.1 ≤ 9223372036854775807) (w : World) (hg : w.cell? ⟨g, 0, none⟩ = some v) (hv : AtP w v f) :
    SeqStopsH Fence.wide nn Try.prog 56 #[.pointer (some ⟨g, 0, none⟩)] (fun x : Int × Int => #[Value.int .i64 x.1, Value.int .i64 x.2]) (fun ys => ys = f.M) (fun pre => pre <+: f.M) f.M.length w := fun l J Jx W hW _ _ hY h0 =>
  all1_in nn hn l g v f hr hl hkw J Jx W ((hW.cell (p := ⟨g, 0, none⟩) (World.block_lt_of_cell? w ⟨g, 0, none⟩ hg)).trans hg) (hv.grow hW) hY h0
end Go.Proofs.Ytibhmgeckghoeaa.Ac

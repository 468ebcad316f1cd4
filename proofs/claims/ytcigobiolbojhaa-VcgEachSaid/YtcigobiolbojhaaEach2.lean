/- vcg.Each's iterator: what it hands to yield. -/
import Derived.Test.YtcigobiolbojhaaAsks
import Derived.RangeFuncNested
import Derived.RangeFuncBound
import Derived.RangeFuncCalls
import Derived.RangeFuncLeaves
import Derived.Shelf.Abstract
import Derived.Shelf.RegionOpen
import Derived.OwnWalkIn
import Derived.TacticsInMore
import Derived.LoopNIn
import Derived.LoopIn
namespace Go.Proofs.Ytcigobiolbojhaa.Vb
open Go.RowKit Go.Shelf
attribute [local go_sem] Oper.semAt_some

/-- the winners among the first k, with what they pay -/
def pairsTo (cs ps : List Int) : Nat → List (Int × Int)
  | 0 => []
  | k + 1 => if 0 ≤ (cs[k]?).getD (-1) then pairsTo cs ps k ++ [((k : Int), (ps[k]?).getD 0)] else pairsTo cs ps k
theorem pairsTo_yes {cs ps : List Int} {k : Nat} (h : 0 ≤ (cs[k]?).getD (-1)) : pairsTo cs ps (k + 1) = pairsTo cs ps k ++ [((k : Int), (ps[k]?).getD 0)] := by
  simp only [pairsTo]; rw [if_pos h]
theorem pairsTo_no {cs ps : List Int} {k : Nat} (h : ¬ 0 ≤ (cs[k]?).getD (-1)) : pairsTo cs ps (k + 1) = pairsTo cs ps k := by
  simp only [pairsTo]; rw [if_neg h]
theorem pairsTo_pre (cs ps : List Int) (k : Nat) : ∀ d, pairsTo cs ps k <+: pairsTo cs ps (k + d)
  | 0 => List.prefix_refl _
  | d + 1 => by
    refine (pairsTo_pre cs ps k d).trans ?_
    show pairsTo cs ps (k + d) <+: pairsTo cs ps (k + d + 1)
    simp only [pairsTo]
    split
    · exact List.prefix_append _ _
    · exact List.prefix_refl _
theorem pairsTo_le {cs ps : List Int} {k m : Nat} (h : k ≤ m) : pairsTo cs ps k <+: pairsTo cs ps m := by
  obtain ⟨d, rfl⟩ := Nat.exists_eq_add_of_le h
  exact pairsTo_pre cs ps k d
theorem pairsTo_mem {cs ps : List Int} : ∀ {k : Nat} {x : Int × Int}, x ∈ pairsTo cs ps k → ∃ j : Nat, j < k ∧ x = ((j : Int), (ps[j]?).getD 0)
  | 0, x, h => by simp [pairsTo] at h
  | k + 1, x, h => by
    simp only [pairsTo] at h
    split at h
    · rcases List.mem_append.1 h with h | h
      · obtain ⟨j, hj, e⟩ := pairsTo_mem h
        exact ⟨j, by omega, e⟩
      · exact ⟨k, by omega, by simpa using h⟩
    · obtain ⟨j, hj, e⟩ := pairsTo_mem h
      exact ⟨j, by omega, e⟩
theorem pairsTo_len (cs ps : List Int) : ∀ k, (pairsTo cs ps k).length ≤ k
  | 0 => by simp [pairsTo]
  | k + 1 => by
    have := pairsTo_len cs ps k
    simp only [pairsTo]
    split
    · simp; omega
    · omega

set_option maxRecDepth 100000 in
set_option maxHeartbeats 2000000 in
theorem each1_in (F : Fence) (nn : Nat) (hf : F.fn 79) (hro : F.round = none) (hn : 1 ≤ nn) (l pb pp n₀ m c1 c3 : Nat) (A1 A3 : Option Addr) (cs ps : List Int) (hm : m ≤ 40) (hcl : cs.length = m) (hpl : ps.length = m) (hpb : pb < n₀) (hpp : pp < n₀) (J Jx : List (Int × Int) → World → Prop)
    (hY : ∀ pre x W, J pre W → pre.length < (pairsTo cs ps m).length → YieldAt F (nn - 1) Try.prog l #[.int .i64 x.1, .int .i64 x.2] W fun e W' =>
      (e = .returned (.bool true) ∧ J (pre ++ [x]) W' ∧ Below n₀ W W') ∨ (e = .returned (.bool false) ∧ Jx (pre ++ [x]) W'))
    (W : World) (h1 : W.cell? ⟨pb, 0, none⟩ = some (.slice A1 m c1)) (h3 : W.cell? ⟨pp, 0, none⟩ = some (.slice A3 m c3)) (hs1 : Sl W (· < n₀) (.slice A1 m c1) m 1 (ints cs)) (hs3 : Sl W (· < n₀) (.slice A3 m c3) m 1 (ints ps)) (h0 : J [] W) :
    CallsIn F nn Try.prog 79 #[.func (.yield l) #[] #[], .pointer (some ⟨pb, 0, none⟩), .pointer (some ⟨pp, 0, none⟩)] W fun e W' => (∃ v, e = .returned v) ∧
      ((∃ ys, ys = pairsTo cs ps m ∧ J ys W') ∨ (∃ pre, pre <+: pairsTo cs ps m ∧ Jx pre W')) := by
  refine callsIn_of_wp Try.func79 rfl hf ?_ hro
  have HCL := Lib.hid hcl
  have HPL := Lib.hid hpl
  have HS1 := Lib.hid hs1
  have HS3 := Lib.hid hs3
  have HY := Lib.hid hY
  have H3 := Lib.hid h3
  clear hcl hpl hs1 hs3 hY
  simp only [Try.ntmps79, List.size_toArray, List.length_cons, List.length_nil, Nat.reduceAdd, Nat.reduceSub, Array.replicate_succ, Array.replicate_zero, List.push_toArray, List.append_toArray, List.nil_append, List.cons_append]
  gi_wp2
  clear h1 h3
  gi_loopw [9] (fun i wr => ∃ k : Nat, k ≤ m ∧ i = .int .i64 k ∧ J (pairsTo cs ps k) wr ∧ Below n₀ W wr) (fun i _ => m - (intOf i).toNat)
  case atStart => exact ⟨0, Nat.zero_le _, rfl, h0, Below.refl _ _⟩
  case round =>
    obtain ⟨k, hk, rfl, hJs, hnx⟩ := hrel
    have HJ := Lib.hid hJs
    have HNX := Lib.hid hnx
    clear hJs
    by_cases hlt : k < m
    · obtain ⟨b1, o1, x1, rfl, _, hx1, hc1⟩ := (HS1.out.keep' hnx).int_at hlt
      obtain ⟨b3, o3, x3, rfl, _, hx3, hc3⟩ := (HS3.out.keep' hnx).int_at hlt
      have p3 : wr.cell? ⟨pp, 0, none⟩ = some (.slice (some ⟨b3, o3, none⟩) m c3) := (hnx.cell (p := ⟨pp, 0, none⟩) hpp).trans H3.out
      have e1 : (0 : Int) ≤ (k : Int) := by omega
      have e2 : (k : Int) < (m : Int) := by omega
      by_cases hx : 0 ≤ x1
      · have hsucc := pairsTo_yes (cs := cs) (ps := ps) (k := k) (by rw [hx1]; exact hx)
        rw [hx3, Option.getD_some] at hsucc
        have hlen : (pairsTo cs ps k).length < (pairsTo cs ps m).length := by
          have := (pairsTo_le (cs := cs) (ps := ps) (show k + 1 ≤ m by omega)).length_le
          rw [hsucc] at this
          simp at this
          omega
        have HSU := Lib.hid hsucc
        obtain ⟨fn, tmps, assign, body, hy, hR⟩ := HY.out _ ((k : Int), x3) wr HJ.out hlen
        dsimp only at hy
        have HR := Lib.hid hR
        clear hsucc hx1 hx3 hlen hR hnx
        gi_wp2
        refine HR.out.mono ?_
        rintro e W3 (⟨rfl, hJ3, hk3⟩ | ⟨rfl, hJx3⟩)
        · gi_wp2
          go_roundw
          case rel => exact ⟨k + 1, by omega, by go_num, by rw [HSU.out]; exact hJ3, HNX.out.trans hk3⟩
          case measure => simp [intOf]; omega
        · gi_wp2
          refine bodyPost_ret (results_none rfl _ _ _) rfl ?_
          exact ⟨⟨_, rfl⟩, .inr ⟨_, by rw [← show pairsTo cs ps (k + 1) = _ from HSU.out]; exact pairsTo_le (by omega), hJx3⟩⟩
      · have hsucc := pairsTo_no (cs := cs) (ps := ps) (k := k) (by rw [hx1]; exact hx)
        have HSU := Lib.hid hsucc
        clear hsucc hx1 hx3 hnx
        gi_wp2
        refine ⟨fun _ h => (by cases h), ?_⟩
        gi_wp2
        go_roundw
        case rel => exact ⟨k + 1, by omega, by go_num, by rw [HSU.out]; exact HJ.out, HNX.out⟩
        case measure => simp [intOf]; omega
    · obtain rfl : k = m := by omega
      clear hnx
      gi_wp2
      go_end0
      exact ⟨⟨_, rfl⟩, .inl ⟨_, rfl, HJ.out⟩⟩

theorem each1_stops (F : Fence) (nn : Nat) (hf : F.fn 79) (hro : F.round = none) (hn : 1 ≤ nn) (pb pp n₀ m c1 c3 : Nat) (A1 A3 : Option Addr) (cs ps : List Int) (hm : m ≤ 40) (hcl : cs.length = m) (hpl : ps.length = m) (w : World) (hpb : pb < n₀) (hpp : pp < n₀) (hn₀ : n₀ ≤ w.heap.size)
    (h1 : w.cell? ⟨pb, 0, none⟩ = some (.slice A1 m c1)) (h3 : w.cell? ⟨pp, 0, none⟩ = some (.slice A3 m c3)) (hs1 : Sl w (· < n₀) (.slice A1 m c1) m 1 (ints cs)) (hs3 : Sl w (· < n₀) (.slice A3 m c3) m 1 (ints ps)) :
    SeqStopsK F nn Try.prog 79 #[.pointer (some ⟨pb, 0, none⟩), .pointer (some ⟨pp, 0, none⟩)] (fun x : Int × Int => #[Value.int .i64 x.1, Value.int .i64 x.2]) (Below n₀) (fun ys => ys = pairsTo cs ps m) (fun pre => pre <+: pairsTo cs ps m) (pairsTo cs ps m).length w := fun l J Jx W hW _ _ hY h0 =>
  have hW' := hW.mono hn₀
  each1_in F nn hf hro hn l pb pp n₀ m c1 c3 A1 A3 cs ps hm hcl hpl hpb hpp J Jx hY W ((hW'.cell (p := ⟨pb, 0, none⟩) hpb).trans h1) ((hW'.cell (p := ⟨pp, 0, none⟩) hpp).trans h3) (hs1.keep' hW') (hs3.keep' hW') h0
end Go.Proofs.Ytcigobiolbojhaa.Vb

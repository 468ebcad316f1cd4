/- Joined by program: FdF FdG FdA FdI FdN FdS FdO FdH FdJ FdR FdT FdW FdX. -/
import Derived.Test.YtckdpejdnejhfaaGreatZf
import Derived.Test.YtckdpejdnejhfaaGreatZo
import Derived.Test.YtckdpejdnejhfaaGreatZr
import Derived.Test.YtckdpejdnejhfaaGreatZq
import Derived.Test.YtckdpejdnejhfaaGreatZaf
import Derived.Test.YtckdpejdnejhfaaGreatZb
import Derived.Deep.CutBlock
import Derived.Test.YtckdpejdnejhfaaGreatZv
import Derived.Test.YtckdpejdnejhfaaGreatZag
import Derived.Laws.EntriesVeiled
import Derived.Test.YtckdpejdnejhfaaGreatZm
/- Feed: feeds and watchers that are not there, and zero ones: what each function answers. -/
set_option linter.all false
namespace Go.Proofs.YtckdpejdnejhfaaGreat.Fd
open Go.RowKit
open Go.Proofs.YtckdpejdnejhfaaGreat.Ac Go.Proofs.YtckdpejdnejhfaaGreat.Ho
attribute [local go_sem] Oper.semAt_some

def FNo (W : World) (v : Value) : Prop := v = .pointer none ∨ ∃ b, v = .pointer (some ⟨b, 0, none⟩) ∧ Ac.Blk W b 41 #[.pointer none, .slice none 0 0, .int .i64 0]
def WNo (W : World) (v : Value) : Prop := v = .pointer none ∨ ∃ b, v = .pointer (some ⟨b, 0, none⟩) ∧ Ac.Blk W b 44 #[.pointer none, .chan none, .int .i64 0]
section
variable {W W' : World} {v : Value}
theorem FNo.grow (h : FNo W v) (hb : Below W.heap.size W W') : FNo W' v := h.imp id fun ⟨b, e, h⟩ => ⟨b, e, h.grow hb⟩
theorem WNo.grow (h : WNo W v) (hb : Below W.heap.size W W') : WNo W' v := h.imp id fun ⟨b, e, h⟩ => ⟨b, e, h.grow hb⟩
set_option maxRecDepth 100000
theorem fthere_no (h : FNo W v) : Calls Tryz.prog 22 #[v] W fun e W' => e = .returned (.bool false) ∧ W' = W := by
  rcases h with rfl | ⟨b, rfl, hb⟩
  · go_enter Tryz.func22, Tryz.ntmps22
    go_wp2_with fail
    go_ret
    exact ⟨rfl, rfl⟩
  · have c0 := hb.cell 0
    simp only [List.getElem?_toArray, List.getElem?_cons_zero] at c0
    clear hb
    go_enter Tryz.func22, Tryz.ntmps22
    go_wp2_with fail
    go_ret
    exact ⟨rfl, rfl⟩
theorem wthere_no (h : WNo W v) : Calls Tryz.prog 36 #[v] W fun e W' => e = .returned (.bool false) ∧ W' = W := by
  rcases h with rfl | ⟨b, rfl, hb⟩
  · go_enter Tryz.func36, Tryz.ntmps36
    go_wp2_with fail
    go_ret
    exact ⟨rfl, rfl⟩
  · have c1 := hb.cell 1
    simp only [List.getElem?_toArray, List.getElem?_cons_zero, List.getElem?_cons_succ] at c1
    have hq := run_neq_chan (P := Tryz.prog) W (a := none) (b := none) un_room
    clear hb
    go_enter Tryz.func36, Tryz.ntmps36
    go_wp2_with fail
    go_ret
    exact ⟨rfl, rfl⟩
theorem watch_no (h : FNo W v) (x : Int) : Calls Tryz.prog 7 #[v, .int .i64 x] W fun e W' => e = .returned (.tuple #[.pointer none, .int .i64 1]) ∧ W' = W := by
  have H := Lib.hid h
  clear h
  go_enter Tryz.func7, Tryz.ntmps7
  go_wp2_with fail
  refine (fthere_no H.out).mono ?_
  rintro e w1 ⟨rfl, hw1⟩
  rw [hw1]
  clear hw1
  go_wp2_with fail
  go_ret2
  exact ⟨rfl, rfl⟩
theorem fdo_no (h : FNo W v) (o : OrderR) (vo : Value) : Calls Tryz.prog 15 #[v, o.agg vo] W fun e W' => e = .returned (.agg #[.int .i64 0, .int .i64 1, .int .i64 0]) ∧ Below W.heap.size W W' := by
  obtain ⟨okind, oname, ocoins, obidder, olot, ⟨kind, opens, closes, start, step, extend, last, floor, fall, count, rule⟩, ooff, otick⟩ := o
  simp only [OrderR.agg, OrderR.cells, LotR.cells, List.cons_append, List.nil_append]
  obtain ⟨W1, hW1⟩ : ∃ W1, W1 = (W.alloc (.cells #[.int .i64 okind, .string oname, .int .i64 ocoins, .int .i64 obidder, .int .i64 olot, .int .i64 kind, .int .i64 opens, .int .i64 closes, .int .i64 start, .int .i64 step, .int .i64 extend, .int .i64 last, .int .i64 floor, .int .i64 fall, .int .i64 count, .int .i64 rule, vo, .int .i64 otick] 61)).alloc (.cells #[.int .i64 0, .int .i64 0, .int .i64 0] 52) := ⟨_, rfl⟩
  have hb1 : Below W.heap.size W W1 := by rw [hW1]; exact ((Below.refl _ _).alloc (Nat.le_refl _) _).alloc (by simp) _
  have hY1 : Ac.Blk W1 (W.heap.size + 1) 52 #[.int .i64 0, .int .i64 0, .int .i64 0] := by rw [hW1]; exact Ac.Blk.new' _ _ (by simp)
  have y0 : W1.cell? ⟨W.heap.size + 1, 0, none⟩ = some (.int .i64 0) := hY1.cell 0
  have y1 : W1.cell? ⟨W.heap.size + 1, 1, none⟩ = some (.int .i64 0) := hY1.cell 1
  have y2 : W1.cell? ⟨W.heap.size + 1, 2, none⟩ = some (.int .i64 0) := hY1.cell 2
  have yf := hY1.frozen
  have HY1 := Lib.hid hY1
  have HB1 := Lib.hid hb1
  have H := Lib.hid (h.grow hb1)
  clear h hY1 hb1
  go_enter Tryz.func15, Tryz.ntmps15
  go_wp2_with fail
  rw [← hW1]
  clear hW1
  refine (fthere_no H.out).mono ?_
  rintro e w1 ⟨rfl, hw1⟩
  rw [hw1]
  clear hw1
  go_wp2_with fail
  have hfin : Ac.Blk (((W1.setCell ⟨W.heap.size + 1, 0, none⟩ (.int .i64 0)).setCell ⟨W.heap.size + 1, 1, none⟩ (.int .i64 1)).setCell ⟨W.heap.size + 1, 2, none⟩ (.int .i64 0)) (W.heap.size + 1) 52 #[.int .i64 0, .int .i64 1, .int .i64 0] := ((HY1.out.set_ 0 _).set_ 1 _).set_ 2 _
  refine bodyPost_ret (results_cell_row rfl _ _ (W.heap.size + 1) 52 #[.int .i64 0, .int .i64 1, .int .i64 0] (0, 0) _ rfl hfin Tryz.underlying52 rfl (by kernel_rfl)) rfl ⟨rfl, ?_⟩
  exact ((HB1.out.setCell (p := ⟨W.heap.size + 1, 0, none⟩) (by simp) _).setCell (p := ⟨W.heap.size + 1, 1, none⟩) (by simp) _).setCell (p := ⟨W.heap.size + 1, 2, none⟩) (by simp) _
theorem came_no (h : FNo W v) : Calls Tryz.prog 18 #[v] W fun e W' => e = .returned (.int .i64 0) ∧ W' = W := by
  rcases h with rfl | ⟨b, rfl, hb⟩
  · go_enter Tryz.func18, Tryz.ntmps18
    go_wp2_with fail
    go_ret
    exact ⟨rfl, rfl⟩
  · have c2 := hb.cell 2
    simp only [List.getElem?_toArray, List.getElem?_cons_zero, List.getElem?_cons_succ] at c2
    clear hb
    go_enter Tryz.func18, Tryz.ntmps18
    go_wp2_with fail
    go_ret
    exact ⟨rfl, rfl⟩
theorem watchers_no (h : FNo W v) : Calls Tryz.prog 10 #[v] W fun e W' => e = .returned (.int .i64 0) ∧ W' = W := by
  rcases h with rfl | ⟨b, rfl, hb⟩
  · go_enter Tryz.func10, Tryz.ntmps10
    go_wp2_with fail
    go_ret
    exact ⟨rfl, rfl⟩
  · have c1 := hb.cell 1
    simp only [List.getElem?_toArray, List.getElem?_cons_zero, List.getElem?_cons_succ] at c1
    clear hb
    go_enter Tryz.func10, Tryz.ntmps10
    go_wp2_with fail
    go_ret
    exact ⟨rfl, rfl⟩
theorem missed_no (h : WNo W v) : Calls Tryz.prog 17 #[v] W fun e W' => e = .returned (.int .i64 0) ∧ W' = W := by
  rcases h with rfl | ⟨b, rfl, hb⟩
  · go_enter Tryz.func17, Tryz.ntmps17
    go_wp2_with fail
    go_ret
    exact ⟨rfl, rfl⟩
  · have c2 := hb.cell 2
    simp only [List.getElem?_toArray, List.getElem?_cons_zero, List.getElem?_cons_succ] at c2
    clear hb
    go_enter Tryz.func17, Tryz.ntmps17
    go_wp2_with fail
    go_ret
    exact ⟨rfl, rfl⟩
theorem waiting_no (h : WNo W v) : Calls Tryz.prog 28 #[v] W fun e W' => e = .returned (.int .i64 0) ∧ W' = W := by
  have H := Lib.hid h
  clear h
  go_enter Tryz.func28, Tryz.ntmps28
  go_wp2_with fail
  refine (wthere_no H.out).mono ?_
  rintro e w1 ⟨rfl, hw1⟩
  rw [hw1]
  clear hw1
  go_wp2_with fail
  go_ret
  exact ⟨rfl, rfl⟩
theorem take_no (h : WNo W v) : Calls Tryz.prog 16 #[v] W fun e W' => e = .returned (.tuple #[zTold, .bool false]) ∧ Below W.heap.size W W' := by
  obtain ⟨W1, hW1⟩ : ∃ W1, W1 = W.alloc (.cells #[.int .i64 0, .int .i64 0, .int .i64 0, .int .i64 0, .int .i64 0, .int .i64 0, .int .i64 0] 66) := ⟨_, rfl⟩
  have hb1 : Below W.heap.size W W1 := by rw [hW1]; exact (Below.refl _ _).alloc (Nat.le_refl _) _
  have hY : Ac.Blk W1 W.heap.size 66 #[.int .i64 0, .int .i64 0, .int .i64 0, .int .i64 0, .int .i64 0, .int .i64 0, .int .i64 0] := by rw [hW1]; exact Ac.Blk.new W _ _
  have y0 : W1.cell? ⟨W.heap.size, 0, none⟩ = some (.int .i64 0) := hY.cell 0
  have y1 : W1.cell? ⟨W.heap.size, 1, none⟩ = some (.int .i64 0) := hY.cell 1
  have y2 : W1.cell? ⟨W.heap.size, 2, none⟩ = some (.int .i64 0) := hY.cell 2
  have y3 : W1.cell? ⟨W.heap.size, 3, none⟩ = some (.int .i64 0) := hY.cell 3
  have y4 : W1.cell? ⟨W.heap.size, 4, none⟩ = some (.int .i64 0) := hY.cell 4
  have y5 : W1.cell? ⟨W.heap.size, 5, none⟩ = some (.int .i64 0) := hY.cell 5
  have y6 : W1.cell? ⟨W.heap.size, 6, none⟩ = some (.int .i64 0) := hY.cell 6
  have yf := hY.frozen
  have HY := Lib.hid hY
  have HB1 := Lib.hid hb1
  have H := Lib.hid (h.grow hb1)
  clear h hY hb1
  go_enter Tryz.func16, Tryz.ntmps16
  go_wp2_with fail
  rw [← hW1]
  clear hW1
  refine (wthere_no H.out).mono ?_
  rintro e w1 ⟨rfl, hw1⟩
  rw [hw1]
  clear hw1
  go_wp2_with fail
  have hfin : Ac.Blk (((((((W1.setCell ⟨W.heap.size, 0, none⟩ (.int .i64 0)).setCell ⟨W.heap.size, 1, none⟩ (.int .i64 0)).setCell ⟨W.heap.size, 2, none⟩ (.int .i64 0)).setCell ⟨W.heap.size, 3, none⟩ (.int .i64 0)).setCell ⟨W.heap.size, 4, none⟩ (.int .i64 0)).setCell ⟨W.heap.size, 5, none⟩ (.int .i64 0)).setCell ⟨W.heap.size, 6, none⟩ (.int .i64 0)) W.heap.size 66 #[.int .i64 0, .int .i64 0, .int .i64 0, .int .i64 0, .int .i64 0, .int .i64 0, .int .i64 0] := (((((((HY.out.set_ 0 (.int .i64 0)).set_ 1 (.int .i64 0)).set_ 2 (.int .i64 0)).set_ 3 (.int .i64 0)).set_ 4 (.int .i64 0)).set_ 5 (.int .i64 0)).set_ 6 (.int .i64 0))
  exact bodyPost_ret (results_cell_row2 rfl _ _ W.heap.size 66 #[.int .i64 0, .int .i64 0, .int .i64 0, .int .i64 0, .int .i64 0, .int .i64 0, .int .i64 0] (0, 0) _ rfl hfin Tryz.underlying66 rfl (by kernel_rfl)) rfl ⟨rfl, (((((((HB1.out.setCell (p := ⟨W.heap.size, 0, none⟩) (by simp) _).setCell (p := ⟨W.heap.size, 1, none⟩) (by simp) _).setCell (p := ⟨W.heap.size, 2, none⟩) (by simp) _).setCell (p := ⟨W.heap.size, 3, none⟩) (by simp) _).setCell (p := ⟨W.heap.size, 4, none⟩) (by simp) _).setCell (p := ⟨W.heap.size, 5, none⟩) (by simp) _).setCell (p := ⟨W.heap.size, 6, none⟩) (by simp) _)⟩
theorem WNo.ptr (h : WNo W v) : ∃ p, v = .pointer p := by
  rcases h with rfl | ⟨b, rfl, _⟩
  · exact ⟨_, rfl⟩
  · exact ⟨_, rfl⟩
theorem leave_no (h : WNo W v) : Calls Tryz.prog 29 #[v] W fun e W' => e = .returned (.int .i64 1) ∧ Below W.heap.size W W' := by
  obtain ⟨p, rfl⟩ := h.ptr
  have H := Lib.hid (h.grow ((Below.refl _ W).alloc (Nat.le_refl _) (.cells #[.pointer p] 28)))
  clear h
  go_enter Tryz.func29, Tryz.ntmps29
  go_wp2_with fail
  refine (wthere_no H.out).mono ?_
  rintro e w1 ⟨rfl, hw1⟩
  rw [hw1]
  clear hw1
  go_wp2_with fail
  go_ret
  exact ⟨rfl, (Below.refl _ _).alloc (Nat.le_refl _) _⟩
end
end Go.Proofs.YtckdpejdnejhfaaGreat.Fd

/- Feed: feeds and watchers that are there: what the small functions answer. -/
namespace Go.Proofs.YtckdpejdnejhfaaGreat.Fd
open Go.RowKit
open Go.Proofs.YtckdpejdnejhfaaGreat.Vb Go.Proofs.YtckdpejdnejhfaaGreat.Ac Go.Proofs.YtckdpejdnejhfaaGreat.Ho
attribute [local go_sem] Oper.semAt_some

set_option maxRecDepth 100000
theorem et_watch : ElemT Tryz.prog 39 28 1 8 := elemT_of Tryz.underlying39 (by omega) (z := .pointer none) (by kernel_rfl) rfl
def bptrs (bs : List Nat) : List Value := bs.map fun b => Value.pointer (some ⟨b, 0, none⟩)
section
variable {W : World} {f h b c : Nat}
theorem fthere_ok (h0 : W.cell? ⟨f, 0, none⟩ = some (.pointer (some ⟨h, 0, none⟩))) : Calls Tryz.prog 22 #[.pointer (some ⟨f, 0, none⟩)] W fun e W' => e = .returned (.bool true) ∧ W' = W := by
  go_enter Tryz.func22, Tryz.ntmps22
  go_wp2_with fail
  go_ret
  exact ⟨rfl, rfl⟩
theorem wthere_ok (h1 : W.cell? ⟨b, 1, none⟩ = some (.chan (some c))) : Calls Tryz.prog 36 #[.pointer (some ⟨b, 0, none⟩)] W fun e W' => e = .returned (.bool true) ∧ W' = W := by
  have hq := run_neq_chan (P := Tryz.prog) W (a := some c) (b := none) un_room
  go_enter Tryz.func36, Tryz.ntmps36
  go_wp2_with fail
  go_ret
  exact ⟨rfl, rfl⟩
theorem hnone_nil (W1 : World) : Calls Tryz.prog 61 #[.pointer none] W1 fun e W' => e = .returned (.bool true) ∧ W' = W1 := by
  go_enter Tryz.func61, Tryz.ntmps61
  go_wp2_with fail
  go_ret
  exact ⟨rfl, rfl⟩
theorem hbidder_nil (x : Int) : Calls Tryz.prog 38 #[.pointer none, .int .i64 x] W fun e W' => e = .returned (.tuple #[bidderV { data := #[] } 0 0 0, .int .i64 1]) ∧ Below W.heap.size W W' := by
  obtain ⟨W1, hW1⟩ : ∃ W1, W1 = W.alloc (.cells #[.string { data := #[] }, .int .i64 0, .int .i64 0, .int .i64 0] 112) := ⟨_, rfl⟩
  have hb1 : Below W.heap.size W W1 := by rw [hW1]; exact (Below.refl _ _).alloc (Nat.le_refl _) _
  have hx1 : Ac.Blk W1 W.heap.size 112 #[.string { data := #[] }, .int .i64 0, .int .i64 0, .int .i64 0] := by rw [hW1]; exact Ac.Blk.new _ _ _
  have HX1 := Lib.hid hx1
  have HB1 := Lib.hid hb1
  have y0 := hx1.cell 0
  have y1 := hx1.cell 1
  have y2 := hx1.cell 2
  have y3 := hx1.cell 3
  have yf := hx1.frozen
  simp only [List.getElem?_toArray, List.getElem?_cons_zero, List.getElem?_cons_succ] at y0 y1 y2 y3
  clear hb1 hx1
  have hn := hnone_nil W1
  have HN := Lib.hid hn
  clear hn
  go_enter Tryz.func38, Tryz.ntmps38
  go_wp2_with fail
  rw [← hW1]
  clear hW1
  refine HN.out.mono ?_
  rintro e W2 ⟨rfl, rfl⟩
  go_wp2_with fail
  have hfin := (((HX1.out.set_ 0 (.string { data := #[] })).set_ 1 (.int .i64 0)).set_ 2 (.int .i64 0)).set_ 3 (.int .i64 0)
  have q0 := hfin.cell 0
  have q1 := hfin.cell 1
  have q2 := hfin.cell 2
  have q3 := hfin.cell 3
  simp at q0 q1 q2 q3
  refine bodyPost_ret (v := .tuple #[bidderV { data := #[] } 0 0 0, .int .i64 1]) (by simp [results, Tryz.results38, go_sem, q0, q1, q2, q3]) rfl ⟨rfl, ?_⟩
  exact (((HB1.out.setCell (p := ⟨W.heap.size, 0, none⟩) (Nat.le_refl _) _).setCell (p := ⟨W.heap.size, 1, none⟩) (Nat.le_refl _) _).setCell (p := ⟨W.heap.size, 2, none⟩) (Nat.le_refl _) _).setCell (p := ⟨W.heap.size, 3, none⟩) (Nat.le_refl _) _
theorem none_no : Calls Tryz.prog 21 #[.pointer none] W fun e W' => e = .returned (.bool true) ∧ Below W.heap.size W W' := by
  go_enter Tryz.func21, Tryz.ntmps21
  go_wp2_with fail
  refine (hbidder_nil (-1)).mono ?_
  rintro e W2 ⟨rfl, hb⟩
  have HB := Lib.hid hb
  clear hb
  go_wp2_with fail
  go_ret
  exact ⟨rfl, HB.out.alloc HB.out.size _⟩
theorem none_ok {T : Nat → Part} {K : Nat} {H : House} (hH : HouseIn W T h K H) : Calls Tryz.prog 21 #[.pointer (some ⟨h, 0, none⟩)] W fun e W' => e = .returned (.bool false) ∧ Below W.heap.size W W' := by
  have HE := Lib.hid (hbidder_err hH (x := -1) (.inl (by decide)))
  clear hH
  go_enter Tryz.func21, Tryz.ntmps21
  go_wp2_with fail
  refine HE.out.mono ?_
  rintro e W2 ⟨rfl, hb⟩
  have HB := Lib.hid hb
  clear hb
  go_wp2_with fail
  go_ret
  exact ⟨rfl, HB.out.alloc HB.out.size _⟩
theorem fnew_no : Calls Tryz.prog 6 #[.pointer none] W fun e W' => e = .returned (.tuple #[.pointer none, .int .i64 1]) ∧ Below W.heap.size W W' := by
  go_enter Tryz.func6, Tryz.ntmps6
  go_wp2_with fail
  refine none_no.mono ?_
  rintro e W2 ⟨rfl, hb⟩
  have HB := Lib.hid hb
  clear hb
  go_wp2_with fail
  go_ret2
  exact ⟨rfl, HB.out⟩
theorem fnew_ok {T : Nat → Part} {K : Nat} {H : House} (hH : HouseIn W T h K H) : Calls Tryz.prog 6 #[.pointer (some ⟨h, 0, none⟩)] W fun e W' => ∃ f, e = .returned (.tuple #[.pointer (some ⟨f, 0, none⟩), .int .i64 0]) ∧ FeedAt W' (fun _ => False) f h (.slice none 0 0) [] 0 ∧ Below W.heap.size W W' ∧ W.heap.size ≤ f := by
  have HE := Lib.hid (none_ok hH)
  clear hH
  go_enter Tryz.func6, Tryz.ntmps6
  go_wp2_with fail
  refine HE.out.mono ?_
  rintro e W2 ⟨rfl, hb⟩
  have HB := Lib.hid hb
  clear hb
  go_wp2_with fail
  go_ret2
  exact ⟨_, rfl, ⟨Ac.Blk.new _ _ _, RowAt.nil⟩, HB.out.alloc HB.out.size _, HB.out.size⟩
theorem came_ok {x : Int} (h2 : W.cell? ⟨f, 2, none⟩ = some (.int .i64 x)) : Calls Tryz.prog 18 #[.pointer (some ⟨f, 0, none⟩)] W fun e W' => e = .returned (.int .i64 x) ∧ W' = W := by
  go_enter Tryz.func18, Tryz.ntmps18
  go_wp2_with fail
  go_ret
  exact ⟨rfl, rfl⟩
theorem watchers_ok {A : Option Addr} {n m : Nat} (h1 : W.cell? ⟨f, 1, none⟩ = some (.slice A n m)) : Calls Tryz.prog 10 #[.pointer (some ⟨f, 0, none⟩)] W fun e W' => e = .returned (.int .i64 n) ∧ W' = W := by
  go_enter Tryz.func10, Tryz.ntmps10
  go_wp2_with fail
  go_ret
  exact ⟨rfl, rfl⟩
theorem missed_ok {x : Int} (h2 : W.cell? ⟨b, 2, none⟩ = some (.int .i64 x)) : Calls Tryz.prog 17 #[.pointer (some ⟨b, 0, none⟩)] W fun e W' => e = .returned (.int .i64 x) ∧ W' = W := by
  go_enter Tryz.func17, Tryz.ntmps17
  go_wp2_with fail
  go_ret
  exact ⟨rfl, rfl⟩
theorem waiting_ok {cap : Nat} {q : List ToldR} (h1 : W.cell? ⟨b, 1, none⟩ = some (.chan (some c))) (hc : ChanAt W c cap q) : Calls Tryz.prog 28 #[.pointer (some ⟨b, 0, none⟩)] W fun e W' => e = .returned (.int .i64 q.length) ∧ W' = W := by
  obtain ⟨s, r, hc⟩ := hc
  have HT := Lib.hid (wthere_ok h1)
  have hl := run_len_chan (P := Tryz.prog) W 3 un_room hc
  simp only [List.size_toArray, List.length_map] at hl
  clear hc
  go_enter Tryz.func28, Tryz.ntmps28
  go_wp2_with fail
  refine HT.out.mono ?_
  rintro e W2 ⟨rfl, rfl⟩
  go_wp2_with fail
  go_ret
  exact ⟨rfl, rfl⟩
theorem take_any {cap : Nat} {q : List ToldR} (h1 : W.cell? ⟨b, 1, none⟩ = some (.chan (some c))) (hbl : b < W.heap.size) (hc : ChanAt W c cap q) : Calls Tryz.prog 16 #[.pointer (some ⟨b, 0, none⟩)] W fun e W' =>
    (match q with | [] => e = .returned (.tuple #[zTold, .bool false]) | t :: _ => e = .returned (.tuple #[toldV t, .bool true])) ∧ ChanAt W' c cap q.tail ∧ Chg (· = c) W W' := by
  have hcl := hc.lt
  obtain ⟨s, r, hc⟩ := hc
  match q with
  | [] =>
    refine (take_none h1 hbl hc).mono ?_
    rintro e W' ⟨rfl, hb⟩
    exact ⟨rfl, ⟨s, r, (hb.block c hcl).trans hc⟩, Chg.of _ hb⟩
  | ⟨⟨a, b, d, e0, f, g⟩, m⟩ :: q =>
    refine (take_some a b d e0 f g m rfl (by simp) h1 hbl hc).mono ?_
    rintro e W' ⟨rfl, h2, h3⟩
    refine ⟨rfl, ⟨s, r + 1, h2.trans ?_⟩, h3⟩
    simp
    exact List.take_of_length_le (by simp)
theorem all_ok {p : Option Addr} : Calls Tryz.prog 31 #[.pointer p] W fun e W' => ∃ g, e = .returned (.func (.func 60) #[] #[.pointer (some ⟨g, 0, none⟩)]) ∧ Ac.Blk W' g 28 #[.pointer p] ∧ W.heap.size ≤ g ∧ Below W.heap.size W W' := by
  go_enter Tryz.func31, Tryz.ntmps31
  go_wp2_with fail
  go_ret
  exact ⟨_, rfl, Ac.Blk.new _ _ _, Nat.le_refl _, (Below.refl _ _).alloc (Nat.le_refl _) _⟩
end
end Go.Proofs.YtckdpejdnejhfaaGreat.Fd

/- Feed, plainly: an order's events. -/
namespace Go.Proofs.YtckdpejdnejhfaaGreat.Fd
open Go.RowKit
open Go.Proofs.YtckdpejdnejhfaaGreat.Vb Go.Proofs.YtckdpejdnejhfaaGreat.Ac Go.Proofs.YtckdpejdnejhfaaGreat.Ho

/-- the event of an order's own kind, behind it -/
def firstE (now : Int) (o : OrderR) (a : AnsR) : EvR :=
  if o.kind = 1 then ⟨1, a.number, a.value, o.lot, o.coins, now⟩ else if o.kind = 2 then ⟨2, a.number, o.bidder, o.lot, o.coins, now⟩ else if o.kind = 3 then ⟨3, a.number, o.bidder, a.value, 0, now⟩
  else if o.kind = 4 then ⟨4, a.number, o.bidder, o.lot, a.value, now⟩ else if o.kind = 6 then ⟨6, a.number, o.bidder, o.lot, a.value, now⟩ else ⟨o.kind, a.number, o.bidder, o.lot, 0, now⟩
def saleE (e : EvR) (s : SaleR) : EvR := ⟨7, e.order, s.bidder, s.lot, s.coins, e.tick⟩
end Go.Proofs.YtckdpejdnejhfaaGreat.Fd

/- Feed: first: the event of an order's own kind. -/
namespace Go.Proofs.YtckdpejdnejhfaaGreat.Fd
open Go.RowKit
open Go.Proofs.YtckdpejdnejhfaaGreat.Vb Go.Proofs.YtckdpejdnejhfaaGreat.Ac Go.Proofs.YtckdpejdnejhfaaGreat.Ho
attribute [local go_sem] Oper.semAt_some

abbrev EvR.agg (e : EvR) : Value := .agg #[.int .i64 e.kind, .int .i64 e.order, .int .i64 e.bidder, .int .i64 e.lot, .int .i64 e.coins, .int .i64 e.tick]
set_option maxRecDepth 100000 in
set_option maxHeartbeats 4000000 in
theorem first_any {W : World} {T : Nat → Part} {h K : Nat} {H : House} (hH : HouseIn W T h K H) (o : OrderR) (vo : Value) (a : AnsR) :
    Calls Tryz.prog 70 #[.pointer (some ⟨h, 0, none⟩), o.agg vo, a.agg] W fun e W' => e = .returned (firstE H.now o a).agg ∧ Below W.heap.size W W' := by
  obtain ⟨okind, oname, ocoins, obidder, olot, ⟨kind, opens, closes, start, step, extend, last, floor, fall, count, rule⟩, ooff, otick⟩ := o
  obtain ⟨an, ae, av⟩ := a
  simp only [OrderR.agg, OrderR.cells, LotR.cells, List.cons_append, List.nil_append]
  obtain ⟨W1, hW1⟩ : ∃ W1, W1 = ((W.alloc (.cells #[.int .i64 okind, .string oname, .int .i64 ocoins, .int .i64 obidder, .int .i64 olot, .int .i64 kind, .int .i64 opens, .int .i64 closes, .int .i64 start, .int .i64 step, .int .i64 extend, .int .i64 last, .int .i64 floor, .int .i64 fall, .int .i64 count, .int .i64 rule, vo, .int .i64 otick] 61)).alloc (.cells #[.int .i64 an, .int .i64 ae, .int .i64 av] 52)).alloc (.cells #[.int .i64 0, .int .i64 0, .int .i64 0, .int .i64 0, .int .i64 0, .int .i64 0] 64) := ⟨_, rfl⟩
  have hb1 : Below W.heap.size W W1 := by rw [hW1]; exact (((Below.refl _ _).alloc (Nat.le_refl _) _).alloc (by simp) _).alloc (by simp; omega) _
  have hs1 : W1.heap.size = W.heap.size + 3 := by rw [hW1]; simp
  have hx : Ac.Blk W1 W.heap.size 61 #[.int .i64 okind, .string oname, .int .i64 ocoins, .int .i64 obidder, .int .i64 olot, .int .i64 kind, .int .i64 opens, .int .i64 closes, .int .i64 start, .int .i64 step, .int .i64 extend, .int .i64 last, .int .i64 floor, .int .i64 fall, .int .i64 count, .int .i64 rule, vo, .int .i64 otick] := by rw [hW1]; exact ((Ac.Blk.new W _ _).alloc _).alloc _
  have hy : Ac.Blk W1 (W.heap.size + 1) 52 #[.int .i64 an, .int .i64 ae, .int .i64 av] := by rw [hW1]; exact (Ac.Blk.new' _ _ (by simp)).alloc _
  have hz : Ac.Blk W1 (W.heap.size + 1 + 1) 64 #[.int .i64 0, .int .i64 0, .int .i64 0, .int .i64 0, .int .i64 0, .int .i64 0] := by rw [hW1]; exact Ac.Blk.new' _ _ (by simp)
  have HH := Lib.hid (hH.grow hb1)
  have HX := Lib.hid hx
  have HY := Lib.hid hy
  have HZ := Lib.hid hz
  have HB1 := Lib.hid hb1
  have HS1 := Lib.hid hs1
  have lx := hx.lt
  have ly := hy.lt
  have x0 : W1.cell? ⟨W.heap.size, 0, none⟩ = some (.int .i64 okind) := hx.cell 0
  have x3 : W1.cell? ⟨W.heap.size, 3, none⟩ = some (.int .i64 obidder) := hx.cell 3
  have x4 : W1.cell? ⟨W.heap.size, 4, none⟩ = some (.int .i64 olot) := hx.cell 4
  have y0 : W1.cell? ⟨W.heap.size + 1, 0, none⟩ = some (.int .i64 an) := hy.cell 0
  clear hH hb1 hs1 hx hy hz
  go_enter Tryz.func70, Tryz.ntmps70
  go_wp2_with fail
  rw [← hW1]
  clear hW1
  obtain ⟨m, hm⟩ : ∃ m, m = W1.heap.size := ⟨_, rfl⟩
  have HM := Lib.hid hm
  have HMS := Lib.hid (hm.trans HS1.out)
  clear hm
  go_cut [7] from 8 to 45 (fun s7 wx => s7 = .pointer (some ⟨m, 0, none⟩) ∧ Ac.Blk wx m 64 #[.int .i64 okind, .int .i64 an, .int .i64 obidder, .int .i64 olot, .int .i64 0, .int .i64 H.now] ∧ Below W1.heap.size W1 wx)
  case first =>
    refine wp_region_F (Below W1.heap.size W1) [12] (by kernel_rfl) ((Below.refl _ _).drew) (fun hS => ?_)
    refine tp 0 hS ?_
    have qq := Lib.hid fun (w' : World) (hSw : (Below W1.heap.size W1) w') => And.intro ((hSw.cell (p := ⟨W.heap.size, 0, none⟩) lx).trans x0) <| And.intro ((hSw.cell (p := ⟨W.heap.size, 3, none⟩) lx).trans x3) <| And.intro ((hSw.cell (p := ⟨W.heap.size, 4, none⟩) lx).trans x4) <| (hSw.cell (p := ⟨W.heap.size + 1, 0, none⟩) ly).trans y0
    refine tl 1 hS qq ?_
    refine tp 2 hS ?_
    refine tl 3 hS qq ?_
    refine tp 4 hS ?_
    refine tl 5 hS qq ?_
    refine tp 6 hS ?_
    refine tl 7 hS qq ?_
    refine tp 8 hS ?_
    refine tr [9, 11] ?_
    refine tc (fun K hK => ?_) ?_
    · go_simp
      refine (hnow_any (HH.out.grow hS)).mono ?_
      rintro e w7 ⟨rfl, hw7⟩
      rw [hw7]
      clear hw7
      refine hK.out _ _ ?_ (fun hS => ?_)
      · exact hS
      clear hK K
      try simp only [Act.put, pb, pz, ps]
      refine tp 10 hS ?_
      refine stp 11 fun K hK => ?_
      go_simp
      refine hK.out _ _ ?_ (fun hS => ?_)
      · exact hS.alloc hS.size _
      clear hK K
      try simp only [Act.put, pb, pz, ps]
      refine stf 12 fun K hK => ?_
      go_simp
      refine hK.out _ _ ?_
      clear hK K
      try simp only [Act.put, pb, pz, ps]
      refine wpAnyF_done (by kernel_rfl) ?_ _
      go_wp2_with fail
      go_meet
      case rel => exact ⟨by rw [HM.out], Ac.Blk.drewN (Ac.Blk.new' _ _ HM.out) 1, ((Below.refl _ _).alloc (Nat.le_refl _) _).drew⟩
    refine tc (fun K hK => ?_) ?_
    · go_simp
      refine hK.out _ _ ?_ (fun hS => ?_)
      · exact hS.alloc hS.size _
      clear hK K
      try simp only [Act.put, pb, pz, ps]
      refine stp 9 fun K hK => ?_
      go_simp
      refine (hnow_any (HH.out.grow hS)).mono ?_
      rintro e w7 ⟨rfl, hw7⟩
      rw [hw7]
      clear hw7
      refine hK.out _ _ ?_ (fun hS => ?_)
      · exact hS
      clear hK K
      try simp only [Act.put, pb, pz, ps]
      refine tp 10 hS ?_
      refine stf 12 fun K hK => ?_
      go_simp
      refine hK.out _ _ ?_
      clear hK K
      try simp only [Act.put, pb, pz, ps]
      refine wpAnyF_done (by kernel_rfl) ?_ _
      go_wp2_with fail
      go_meet
      case rel => exact ⟨by rw [HM.out], Ac.Blk.drewN (Ac.Blk.new' _ _ HM.out) 1, ((Below.refl _ _).alloc (Nat.le_refl _) _).drew⟩
    exact AllReadyF.nil
  case rest =>
    obtain ⟨rfl, hE, hbx⟩ := hcut
    rename World => U
    have HZ2 := Lib.hid (HZ.out.grow hbx)
    have HX2 := Lib.hid (HX.out.grow hbx)
    have HY2 := Lib.hid (HY.out.grow hbx)
    have HB2 := Lib.hid (HB1.out.trans (hbx.mono HB1.out.size))
    have HE := Lib.hid hE
    have u0 : U.cell? ⟨W.heap.size, 0, none⟩ = some (.int .i64 okind) := HX2.out.cell 0
    have u2 : U.cell? ⟨W.heap.size, 2, none⟩ = some (.int .i64 ocoins) := HX2.out.cell 2
    have v2 : U.cell? ⟨W.heap.size + 1, 2, none⟩ = some (.int .i64 av) := HY2.out.cell 2
    have ef := hE.frozen
    have e2 : U.cell? ⟨m, 2, none⟩ = some (.int .i64 obidder) := hE.cell 2
    have e3 : U.cell? ⟨m, 3, none⟩ = some (.int .i64 olot) := hE.cell 3
    have e4 : U.cell? ⟨m, 4, none⟩ = some (.int .i64 0) := hE.cell 4
    have lu := HX2.out.lt
    have lv := HY2.out.lt
    have nm1 : ¬ W.heap.size = m := by have := HMS.out; omega
    have nm2 : ¬ W.heap.size + 1 = m := by have := HMS.out; omega
    clear hE hbx x0 x3 x4 y0 lx ly
    go_upto_block 0 with (fail)
    go_cut [] from 21 to 44 (fun wx => Ac.Blk wx m 64 (firstE H.now ⟨okind, oname, ocoins, obidder, olot, ⟨kind, opens, closes, start, step, extend, last, floor, fall, count, rule⟩, ooff, otick⟩ ⟨an, ae, av⟩).cells.toArray ∧ Ac.Blk wx (W.heap.size + 1 + 1) 64 #[.int .i64 0, .int .i64 0, .int .i64 0, .int .i64 0, .int .i64 0, .int .i64 0] ∧ Below W.heap.size W wx)
    case first =>
      have HEND := Lib.hid (show ∀ (V : World) (e : EvR), e = firstE H.now ⟨okind, oname, ocoins, obidder, olot, ⟨kind, opens, closes, start, step, extend, last, floor, fall, count, rule⟩, ooff, otick⟩ ⟨an, ae, av⟩ → Chg (· = m) U V → Ac.Blk V m 64 e.cells.toArray → _ ∧ _ ∧ _ from fun V e he hc hb => ⟨he ▸ hb, HZ2.out.chg hc (by have := HMS.out; omega), HB2.out.trans (hc.below HB2.out.size fun k hk e => by have := HMS.out; omega)⟩)
      have b1 : firstE H.now ⟨okind, oname, ocoins, obidder, olot, ⟨kind, opens, closes, start, step, extend, last, floor, fall, count, rule⟩, ooff, otick⟩ ⟨an, ae, av⟩ = if okind = 1 then ⟨1, an, av, olot, ocoins, H.now⟩ else if okind = 2 then ⟨2, an, obidder, olot, ocoins, H.now⟩ else if okind = 3 then ⟨3, an, obidder, av, 0, H.now⟩ else if okind = 4 then ⟨4, an, obidder, olot, av, H.now⟩ else if okind = 6 then ⟨6, an, obidder, olot, av, H.now⟩ else ⟨okind, an, obidder, olot, 0, H.now⟩ := rfl
      have HF := Lib.hid b1
      clear b1
      by_cases k1 : okind = 1
      · rw [if_pos k1] at HF
        subst k1
        go_wp2_with fail
        refine wp_region_F (Chg (· = m) U) [7] (by kernel_rfl) ((Chg.refl _ U).drewN 1) (fun hS => ?_)
        refine tp 0 hS ?_
        have qq := Lib.hid fun (w' : World) (hSw : (Chg (· = m) U) w') => And.intro ((hSw.cell (p := ⟨W.heap.size, 2, none⟩) lu nm1).trans u2) <| (hSw.cell (p := ⟨W.heap.size + 1, 2, none⟩) lv nm2).trans v2
        refine tl 1 hS qq ?_
        refine tp 2 hS ?_
        refine tl 3 hS qq ?_
        refine tp 4 hS ?_
        refine stp 5 fun K hK => ?_
        go_simp
        refine hK.out _ _ ?_ (fun hS => ?_)
        · exact hS.trans (Chg.set _ ⟨m, 2, none⟩ _)
        clear hK K
        try simp only [Act.put, pb, pz, ps]
        refine tp 6 hS ?_
        refine stf 7 fun K hK => ?_
        go_simp
        refine hK.out _ _ ?_
        clear hK K
        try simp only [Act.put, pb, pz, ps]
        refine wpAnyF_done (by kernel_rfl) ?_ _
        clear hS
        go_wp2_with fail
        go_meet
        case rel =>
          refine HEND.out _ ⟨1, an, av, olot, ocoins, H.now⟩ HF.out.symm (((Chg.set U ⟨m, 2, none⟩ _).trans (Chg.set _ ⟨m, 4, none⟩ _)).drewN 1) ?_
          exact ((HE.out.set_ 2 (.int .i64 av)).set_ 4 (.int .i64 ocoins)).drewN 1
      · rw [if_neg k1] at HF
        have d1 : (okind == 1) = false := by simpa using k1
        clear k1
        by_cases k2 : okind = 2
        · rw [if_pos k2] at HF
          subst k2
          clear d1
          go_wp2_with fail
          go_meet
          case rel => exact HEND.out _ ⟨2, an, obidder, olot, ocoins, H.now⟩ HF.out.symm (Chg.set U ⟨m, 4, none⟩ _) (HE.out.set_ 4 (.int .i64 ocoins))
        · rw [if_neg k2] at HF
          have d2 : (okind == 2) = false := by simpa using k2
          clear k2
          by_cases k3 : okind = 3
          · rw [if_pos k3] at HF
            subst k3
            clear d1 d2
            go_wp2_with fail
            go_meet
            case rel => exact HEND.out _ ⟨3, an, obidder, av, 0, H.now⟩ HF.out.symm (Chg.set U ⟨m, 3, none⟩ _) (HE.out.set_ 3 (.int .i64 av))
          · rw [if_neg k3] at HF
            have d3 : (okind == 3) = false := by simpa using k3
            clear k3
            by_cases k4 : okind = 4
            · rw [if_pos k4] at HF
              subst k4
              clear d1 d2 d3
              go_wp2_with fail
              go_meet
              case rel => exact HEND.out _ ⟨4, an, obidder, olot, av, H.now⟩ HF.out.symm (Chg.set U ⟨m, 4, none⟩ _) (HE.out.set_ 4 (.int .i64 av))
            · rw [if_neg k4] at HF
              have d4 : (okind == 4) = false := by simpa using k4
              clear k4
              by_cases k6 : okind = 6
              · rw [if_pos k6] at HF
                subst k6
                clear d1 d2 d3 d4
                go_wp2_with fail
                go_meet
                case rel => exact HEND.out _ ⟨6, an, obidder, olot, av, H.now⟩ HF.out.symm (Chg.set U ⟨m, 4, none⟩ _) (HE.out.set_ 4 (.int .i64 av))
              · rw [if_neg k6] at HF
                have d6 : (okind == 6) = false := by simpa using k6
                clear k6
                go_wp2_with fail
                go_meet
                case rel => exact HEND.out _ ⟨okind, an, obidder, olot, 0, H.now⟩ HF.out.symm (Chg.refl _ U) HE.out
    case rest =>
      obtain ⟨hE3, hZ3, hb3⟩ := hcut
      rename World => V
      obtain ⟨⟨g0, g1, g2, g3, g4, g5⟩, hev⟩ : ∃ ev, ev = firstE H.now ⟨okind, oname, ocoins, obidder, olot, ⟨kind, opens, closes, start, step, extend, last, floor, fall, count, rule⟩, ooff, otick⟩ ⟨an, ae, av⟩ := ⟨_, rfl⟩
      rw [← hev] at hE3
      have HEV := Lib.hid hev
      clear hev
      have w0 : V.cell? ⟨m, 0, none⟩ = some (.int .i64 g0) := hE3.cell 0
      have w1 : V.cell? ⟨m, 1, none⟩ = some (.int .i64 g1) := hE3.cell 1
      have w2 : V.cell? ⟨m, 2, none⟩ = some (.int .i64 g2) := hE3.cell 2
      have w3 : V.cell? ⟨m, 3, none⟩ = some (.int .i64 g3) := hE3.cell 3
      have w4 : V.cell? ⟨m, 4, none⟩ = some (.int .i64 g4) := hE3.cell 4
      have w5 : V.cell? ⟨m, 5, none⟩ = some (.int .i64 g5) := hE3.cell 5
      have z0 : V.cell? ⟨W.heap.size + 1 + 1, 0, none⟩ = some (.int .i64 0) := hZ3.cell 0
      have z1 : V.cell? ⟨W.heap.size + 1 + 1, 1, none⟩ = some (.int .i64 0) := hZ3.cell 1
      have z2 : V.cell? ⟨W.heap.size + 1 + 1, 2, none⟩ = some (.int .i64 0) := hZ3.cell 2
      have z3 : V.cell? ⟨W.heap.size + 1 + 1, 3, none⟩ = some (.int .i64 0) := hZ3.cell 3
      have z4 : V.cell? ⟨W.heap.size + 1 + 1, 4, none⟩ = some (.int .i64 0) := hZ3.cell 4
      have z5 : V.cell? ⟨W.heap.size + 1 + 1, 5, none⟩ = some (.int .i64 0) := hZ3.cell 5
      have zf := hZ3.frozen
      have HZ3 := Lib.hid hZ3
      have HB3 := Lib.hid hb3
      clear hE3 hZ3 hb3 u0 u2 v2 ef e2 e3 e4 lu lv nm1 nm2
      go_wp2_with fail
      have hfin := (((((HZ3.out.set_ 0 (.int .i64 g0)).set_ 1 (.int .i64 g1)).set_ 2 (.int .i64 g2)).set_ 3 (.int .i64 g3)).set_ 4 (.int .i64 g4)).set_ 5 (.int .i64 g5)
      refine bodyPost_ret (results_cell_row rfl _ _ (W.heap.size + 1 + 1) 64 #[.int .i64 g0, .int .i64 g1, .int .i64 g2, .int .i64 g3, .int .i64 g4, .int .i64 g5] (0, 0) _ rfl hfin Tryz.underlying64 rfl (by kernel_rfl)) rfl ⟨by rw [← HEV.out], ?_⟩
      exact (((((HB3.out.setCell (p := ⟨W.heap.size + 1 + 1, 0, none⟩) (by simp; omega) _).setCell (p := ⟨W.heap.size + 1 + 1, 1, none⟩) (by simp; omega) _).setCell (p := ⟨W.heap.size + 1 + 1, 2, none⟩) (by simp; omega) _).setCell (p := ⟨W.heap.size + 1 + 1, 3, none⟩) (by simp; omega) _).setCell (p := ⟨W.heap.size + 1 + 1, 4, none⟩) (by simp; omega) _).setCell (p := ⟨W.heap.size + 1 + 1, 5, none⟩) (by simp; omega) _
end Go.Proofs.YtckdpejdnejhfaaGreat.Fd

/- Feed: do: an order done at a house, its events told: what teller is wanted; an order that is refused. -/
namespace Go.Proofs.YtckdpejdnejhfaaGreat.Fd
open Go.RowKit
open Go.Proofs.YtckdpejdnejhfaaGreat.Vb Go.Proofs.YtckdpejdnejhfaaGreat.Ac Go.Proofs.YtckdpejdnejhfaaGreat.Ho
attribute [local go_sem] Oper.semAt_some

/-- a function value to which events are told; what is told so far (J Z s: its own blocks within Z) -/
structure Tells (k : Nat) (pre cap : Array Value) (N : Nat) (J : (Nat → Prop) → List EvR → World → Prop) : Prop where
  code : ∀ args w, (callFunc k args).run Tryz.prog w = .ok (.enter k args) w
  mono : ∀ {Z Z' s W}, J Z s W → (∀ b, b < W.heap.size → Z b → Z' b) → J Z' s W
  keep : ∀ {Z s W W' X}, J Z s W → Chg X W W' → (∀ b, b < W.heap.size → Z b → ¬ X b) → J Z s W'
  call : ∀ {Z s W} (e : EvR), J Z s W → s.length < N → Calls Tryz.prog k (pre.push e.agg ++ cap) W fun ex W' => ex = .returned (.tuple #[]) ∧ J (fun b => Z b ∨ W.heap.size ≤ b) (s ++ [e]) W' ∧ Chg Z W W'
/-- what an order does at a house, from whatever world above -/
def DoesAt (W : World) (T : Nat → Part) (h K' : Nat) (H' : House) (o : OrderR) (A : Option Addr) (c : Nat) (a : AnsR) : Prop :=
  ∀ W1, Below W.heap.size W W1 → Calls Tryz.prog 69 #[.pointer (some ⟨h, 0, none⟩), o.agg (.slice A o.offers.length c)] W1 fun e W' => e = .returned a.agg ∧ ∃ T', HouseIn W' T' h K' H' ∧ Moves W1 T W' T'
set_option maxRecDepth 100000 in
set_option maxHeartbeats 4000000 in
theorem do28_err {W : World} {T : Nat → Part} {h K K' : Nat} {H H' : House} (hH : HouseIn W T h K H) (hl : H.sales.length ≤ 1000000) (o : OrderR) {A : Option Addr} {c : Nat} {a : AnsR} (hD : DoesAt W T h K' H' o A c a) (ha : a.err ≠ 0) (k : Nat) (pre cap : Array Value) :
    Calls Tryz.prog 33 #[.pointer (some ⟨h, 0, none⟩), o.agg (.slice A o.offers.length c), .func (.func k) pre cap] W fun e W' => e = .returned a.agg ∧ ∃ T', HouseIn W' T' h K' H' ∧ Moves W T W' T' := by
  obtain ⟨okind, oname, ocoins, obidder, olot, ⟨kind, opens, closes, start, step, extend, last, floor, fall, count, rule⟩, ooff, otick⟩ := o
  obtain ⟨an, ae, av⟩ := a
  unfold DoesAt at hD
  simp only [OrderR.agg, OrderR.cells, LotR.cells, List.cons_append, List.nil_append] at hD ⊢
  obtain ⟨W1, hW1⟩ : ∃ W1, W1 = ((W.alloc (.cells #[.int .i64 okind, .string oname, .int .i64 ocoins, .int .i64 obidder, .int .i64 olot, .int .i64 kind, .int .i64 opens, .int .i64 closes, .int .i64 start, .int .i64 step, .int .i64 extend, .int .i64 last, .int .i64 floor, .int .i64 fall, .int .i64 count, .int .i64 rule, .slice A ooff.length c, .int .i64 otick] 61)).alloc (.cells #[.func (.func k) pre cap] 105)).alloc (.cells #[.int .i64 0, .int .i64 0, .int .i64 0] 52) := ⟨_, rfl⟩
  have hb1 : Below W.heap.size W W1 := by rw [hW1]; exact (((Below.refl _ _).alloc (Nat.le_refl _) _).alloc (by simp) _).alloc (by simp; omega) _
  have HX1 := Lib.hid (show Ac.Blk W1 W.heap.size 61 #[.int .i64 okind, .string oname, .int .i64 ocoins, .int .i64 obidder, .int .i64 olot, .int .i64 kind, .int .i64 opens, .int .i64 closes, .int .i64 start, .int .i64 step, .int .i64 extend, .int .i64 last, .int .i64 floor, .int .i64 fall, .int .i64 count, .int .i64 rule, .slice A ooff.length c, .int .i64 otick] by rw [hW1]; exact ((Ac.Blk.new W _ _).alloc _).alloc _)
  have HZ1 := Lib.hid (show Ac.Blk W1 (W.heap.size + 1 + 1) 52 #[.int .i64 0, .int .i64 0, .int .i64 0] by rw [hW1]; exact Ac.Blk.new' _ _ (by simp))
  have HB1 := Lib.hid hb1
  have HS := Lib.hid (hsales_any (hH.grow hb1) hl)
  have HD := Lib.hid hD
  have HA := Lib.hid ha
  have ht : (ae != 0) = true := by simpa using ha
  have HH := Lib.hid hH
  clear hb1 hl hD ha hH
  go_enter Tryz.func33, Tryz.ntmps33
  go_wp2_with fail
  rw [← hW1]
  clear hW1
  refine HS.out.mono ?_
  rintro e W2 ⟨A2, c2, rfl, _, hb2⟩
  have HX2 := Lib.hid (HX1.out.grow hb2)
  have HZ2 := Lib.hid (HZ1.out.grow hb2)
  have HB2 := Lib.hid (HB1.out.trans (hb2.mono HB1.out.size))
  clear hb2
  go_wp2_with (refine wpList_load_row rfl 61 (.tmp 4) rfl W.heap.size rfl 61 #[.int .i64 okind, .string oname, .int .i64 ocoins, .int .i64 obidder, .int .i64 olot, .int .i64 kind, .int .i64 opens, .int .i64 closes, .int .i64 start, .int .i64 step, .int .i64 extend, .int .i64 last, .int .i64 floor, .int .i64 fall, .int .i64 count, .int .i64 rule, .slice A ooff.length c, .int .i64 otick] (0, 0) _ HX2.out Tryz.underlying61 rfl (by kernel_rfl) ?_)
  refine (HD.out W2 HB2.out).mono ?_
  rintro e W3 ⟨rfl, T3, hH3, hM3⟩
  have hno : ∀ b, W.heap.size ≤ b → T b = .no := by obtain ⟨_, _, _, _, _, _, hA⟩ := HH.out; exact hA.out
  have hmv : Chg (Ho.Own T) W W3 := (Chg.of _ HB2.out).trans hM3.chg
  obtain ⟨W4, hW4⟩ : ∃ W4, W4 = W3.alloc (.cells #[.int .i64 an, .int .i64 ae, .int .i64 av] 52) := ⟨_, rfl⟩
  have hb4 : Below W3.heap.size W3 W4 := by rw [hW4]; exact (Below.refl _ _).alloc (Nat.le_refl _) _
  have hz4 : Ac.Blk W4 (W.heap.size + 1 + 1) 52 #[.int .i64 0, .int .i64 0, .int .i64 0] := (HZ2.out.chg hM3.chg fun e => e.2 (hno _ (by omega))).grow hb4
  have hb2 := HB2.out.size
  have z0 : (W3.alloc (.cells #[.int .i64 an, .int .i64 ae, .int .i64 av] 52)).cell? ⟨W.heap.size + 1 + 1, 0, none⟩ = some (.int .i64 0) := hW4 ▸ hz4.cell 0
  have z1 : (W3.alloc (.cells #[.int .i64 an, .int .i64 ae, .int .i64 av] 52)).cell? ⟨W.heap.size + 1 + 1, 1, none⟩ = some (.int .i64 0) := hW4 ▸ hz4.cell 1
  have z2 : (W3.alloc (.cells #[.int .i64 an, .int .i64 ae, .int .i64 av] 52)).cell? ⟨W.heap.size + 1 + 1, 2, none⟩ = some (.int .i64 0) := hW4 ▸ hz4.cell 2
  have zf : ∀ i, (W3.alloc (.cells #[.int .i64 an, .int .i64 ae, .int .i64 av] 52)).frozen? ⟨W.heap.size + 1 + 1, i, none⟩ = false := hW4 ▸ hz4.frozen
  have HZ4 := Lib.hid (hW4 ▸ hz4)
  have HB4 := Lib.hid (hW4 ▸ hb4)
  have HMV := Lib.hid hmv
  have HM3 := Lib.hid hM3
  have HH3 := Lib.hid hH3
  have HNO := Lib.hid hno
  clear hno hmv hb4 hz4 hM3 hH3 hW4 hb2
  go_wp2_with fail
  have hfin := ((HZ4.out.set_ 0 (.int .i64 an)).set_ 1 (.int .i64 ae)).set_ 2 (.int .i64 av)
  have hst := ((Chg.set (W3.alloc (.cells #[.int .i64 an, .int .i64 ae, .int .i64 av] 52)) ⟨W.heap.size + 1 + 1, 0, none⟩ (.int .i64 an)).trans (Chg.set _ ⟨W.heap.size + 1 + 1, 1, none⟩ (.int .i64 ae))).trans (Chg.set _ ⟨W.heap.size + 1 + 1, 2, none⟩ (.int .i64 av))
  have hsz := HB2.out.size
  have hlt := HZ2.out.lt
  refine bodyPost_ret (results_cell_row rfl _ _ (W.heap.size + 1 + 1) 52 #[.int .i64 an, .int .i64 ae, .int .i64 av] (0, 0) _ rfl hfin Tryz.underlying52 rfl (by kernel_rfl)) rfl ⟨rfl, T3, ?_, ?_, fun b hb => HM3.out.tag b (by omega)⟩
  · exact (HH3.out.grow HB4.out).keep hst fun b hb e => hb (by rw [e]; exact (HM3.out.tag _ hlt).trans (HNO.out _ (show W.heap.size ≤ W.heap.size + 1 + 1 by omega)))
  · exact (HMV.out.grow HB4.out).step hst fun b hb e => by simp at e; omega
end Go.Proofs.YtckdpejdnejhfaaGreat.Fd

/- Feed: SalesFrom's iterator for a body that lays memory and turns what it laid. -/
namespace Go.Proofs.YtckdpejdnejhfaaGreat.Fd
open Go.RowKit
open Go.Proofs.YtckdpejdnejhfaaGreat.Ac Go.Proofs.YtckdpejdnejhfaaGreat.Ho

theorem sf1m_stops (nn : Nat) (hn : 1 ≤ nn) (lo g gl n : Nat) (v : Value) (ss : List SaleR) (hl : ss.length ≤ 1000000) (w : World) (hv : SFAt w lo g gl n v ss) :
    SeqStopsM Fence.wide nn Tryz.prog 102 #[.pointer (some ⟨g, 0, none⟩), .pointer (some ⟨gl, 0, none⟩)] (fun x : Int × SaleR => #[Value.int .i64 x.1, x.2.agg]) (fun _ _ _ => True) (SalesX g gl v) (fun ys => ys = salesL n ss) (fun pre => pre <+: salesL n ss) (salesL n ss).length w := fun l J W hW hJ hY h0 => by
  refine (sf1_in nn hn l lo g gl n v ss hl (fun hi pre V => ∃ m, J hi m pre V) (fun _ _ _ => False) W (hv.grow hW) (fun hi pre x W1 hhi hJ1 hsp hlt => ?_) (fun W0 hW0 => ⟨_, h0 W0 hW0⟩)).mono ?_
  · obtain ⟨m, hJ1⟩ := hJ1
    exact YieldAt.mono (hY hi m pre x W1 hhi hJ1 trivial hsp hlt) fun e W2 h => .inl ⟨h.1, ⟨_, h.2.1⟩, h.2.2⟩
  · rintro e W2 ⟨hv2, hi, hhi, h⟩
    refine ⟨hv2, hi, ?_⟩
    rcases h with ⟨xs, hxs, m, hJ2⟩ | ⟨_, _, h⟩
    · exact ⟨m, hhi, xs, hxs, hJ2⟩
    · exact h.elim
end Go.Proofs.YtckdpejdnejhfaaGreat.Fd

/- Feed: do: an order that is done: its own event told, and one for each sale. -/
namespace Go.Proofs.YtckdpejdnejhfaaGreat.Fd
open Go.RowKit
open Go.Proofs.YtckdpejdnejhfaaGreat.Vb Go.Proofs.YtckdpejdnejhfaaGreat.Ac Go.Proofs.YtckdpejdnejhfaaGreat.Ho
attribute [local go_sem] Oper.semAt_some

/-- the events of an order that is done -/
def evs28 (H H' : House) (o : OrderR) (a : AnsR) : List EvR := firstE H'.now o a :: (H'.sales.drop H.sales.length).map (saleE (firstE H'.now o a))
theorem chg_put (W : World) (l : Nat) (o : Obj) : Chg (· = l) W (W.putObj l o) := ⟨rfl, rfl, rfl, by simp, fun k _ hn => World.putObj_heap_other hn⟩
theorem salesL_snd (n : Nat) (ss : List SaleR) : (salesL n ss).map (·.2) = ss.drop n := by
  unfold salesL
  rw [List.map_drop]
  congr 1
  apply List.ext_getElem?
  intro i
  simp
  cases ss[i]? <;> rfl
set_option maxRecDepth 100000 in
set_option maxHeartbeats 8000000 in
theorem do28_ok {W : World} {T : Nat → Part} {h K K' : Nat} {H H' : House} (hH : HouseIn W T h K H) (hl : H.sales.length ≤ 1000000) (hl' : H'.sales.length ≤ 1000000) (o : OrderR) {A : Option Addr} {c : Nat} {a : AnsR} (hD : DoesAt W T h K' H' o A c a) (ha : a.err = 0)
    {k : Nat} {pre cap : Array Value} {N : Nat} {J : (Nat → Prop) → List EvR → World → Prop} (hT : Tells k pre cap N J) {Z : Nat → Prop} {s : List EvR} (hJ : J Z s W) (hZ : ∀ b, b < W.heap.size → Z b → T b = .no) (hN : s.length + (evs28 H H' o a).length ≤ N) :
    Calls Tryz.prog 33 #[.pointer (some ⟨h, 0, none⟩), o.agg (.slice A o.offers.length c), .func (.func k) pre cap] W fun e W' => e = .returned a.agg ∧ ∃ T', HouseIn W' T' h K' H' ∧ (∀ b, b < W.heap.size → T' b = T b) ∧
      Chg (fun b => Ho.Own T b ∨ Z b) W W' ∧ J (fun b => Z b ∨ (W.heap.size ≤ b ∧ T' b = .no)) (s ++ evs28 H H' o a) W' := by
  obtain ⟨okind, oname, ocoins, obidder, olot, ⟨kind, opens, closes, start, step, extend, last, floor, fall, count, rule⟩, ooff, otick⟩ := o
  obtain ⟨an, ae, av⟩ := a
  have ha : ae = 0 := ha
  subst ha
  unfold DoesAt at hD
  have hE : evs28 H H' ⟨okind, oname, ocoins, obidder, olot, ⟨kind, opens, closes, start, step, extend, last, floor, fall, count, rule⟩, ooff, otick⟩ ⟨an, 0, av⟩ = firstE H'.now ⟨okind, oname, ocoins, obidder, olot, ⟨kind, opens, closes, start, step, extend, last, floor, fall, count, rule⟩, ooff, otick⟩ ⟨an, 0, av⟩ :: (H'.sales.drop H.sales.length).map (saleE (firstE H'.now ⟨okind, oname, ocoins, obidder, olot, ⟨kind, opens, closes, start, step, extend, last, floor, fall, count, rule⟩, ooff, otick⟩ ⟨an, 0, av⟩)) := rfl
  rw [hE] at hN ⊢
  clear hE
  simp only [OrderR.agg, OrderR.cells, LotR.cells, List.cons_append, List.nil_append] at hD ⊢
  obtain ⟨W1, hW1⟩ : ∃ W1, W1 = ((W.alloc (.cells #[.int .i64 okind, .string oname, .int .i64 ocoins, .int .i64 obidder, .int .i64 olot, .int .i64 kind, .int .i64 opens, .int .i64 closes, .int .i64 start, .int .i64 step, .int .i64 extend, .int .i64 last, .int .i64 floor, .int .i64 fall, .int .i64 count, .int .i64 rule, .slice A ooff.length c, .int .i64 otick] 61)).alloc (.cells #[.func (.func k) pre cap] 105)).alloc (.cells #[.int .i64 0, .int .i64 0, .int .i64 0] 52) := ⟨_, rfl⟩
  have hb1 : Below W.heap.size W W1 := by rw [hW1]; exact (((Below.refl _ _).alloc (Nat.le_refl _) _).alloc (by simp) _).alloc (by simp; omega) _
  have HX1 := Lib.hid (show Ac.Blk W1 W.heap.size 61 #[.int .i64 okind, .string oname, .int .i64 ocoins, .int .i64 obidder, .int .i64 olot, .int .i64 kind, .int .i64 opens, .int .i64 closes, .int .i64 start, .int .i64 step, .int .i64 extend, .int .i64 last, .int .i64 floor, .int .i64 fall, .int .i64 count, .int .i64 rule, .slice A ooff.length c, .int .i64 otick] by rw [hW1]; exact ((Ac.Blk.new W _ _).alloc _).alloc _)
  have HF1 := Lib.hid (show Ac.Blk W1 (W.heap.size + 1) 105 #[.func (.func k) pre cap] by rw [hW1]; exact (Ac.Blk.new' _ _ (by simp)).alloc _)
  have HZ1 := Lib.hid (show Ac.Blk W1 (W.heap.size + 1 + 1) 52 #[.int .i64 0, .int .i64 0, .int .i64 0] by rw [hW1]; exact Ac.Blk.new' _ _ (by simp))
  have HB1 := Lib.hid hb1
  have HS := Lib.hid (hsales_any (hH.grow hb1) hl)
  have HD := Lib.hid hD
  have HNO := Lib.hid (show ∀ b, W.heap.size ≤ b → T b = .no from fun b hb => (by obtain ⟨_, _, _, _, _, _, hA⟩ := hH; exact hA.out b hb))
  have HL' := Lib.hid hl'
  have HL := Lib.hid hl
  have HT := Lib.hid hT
  have HJ := Lib.hid (hT.mono (Z' := fun b => Z b ∧ b < W.heap.size) hJ fun b hb hz => ⟨hz, hb⟩)
  have HZZ := Lib.hid (show ∀ b, (Z b ∧ b < W.heap.size) → T b = .no from fun b hb => hZ b hb.2 hb.1)
  have HN := Lib.hid hN
  have hcf := hT.code
  clear hb1 hl hl' hD hH hT hJ hZ hN
  refine (callsIn_wide (n := 3)).1 (callsIn_of_wp_marks Tryz.func33 rfl trivial ((wpIn_wide (n := 3)).2 ?_))
  simp only [Tryz.ntmps33, List.size_toArray, List.length_cons, List.length_nil, Nat.reduceAdd, Nat.reduceSub, Array.replicate_succ, Array.replicate_zero, List.push_toArray, List.append_toArray, List.nil_append, List.cons_append]
  go_wp2_with fail
  rw [← hW1]
  clear hW1
  refine HS.out.mono ?_
  rintro e W2 ⟨A2, c2, rfl, _, hb2⟩
  have HX2 := Lib.hid (HX1.out.grow hb2)
  have HF2 := Lib.hid (HF1.out.grow hb2)
  have HZ2 := Lib.hid (HZ1.out.grow hb2)
  have HB2 := Lib.hid (HB1.out.trans (hb2.mono HB1.out.size))
  clear hb2
  go_wp2_with (refine wpList_load_row rfl 61 (.tmp 4) rfl W.heap.size rfl 61 #[.int .i64 okind, .string oname, .int .i64 ocoins, .int .i64 obidder, .int .i64 olot, .int .i64 kind, .int .i64 opens, .int .i64 closes, .int .i64 start, .int .i64 step, .int .i64 extend, .int .i64 last, .int .i64 floor, .int .i64 fall, .int .i64 count, .int .i64 rule, .slice A ooff.length c, .int .i64 otick] (0, 0) _ HX2.out Tryz.underlying61 rfl (by kernel_rfl) ?_)
  refine (HD.out W2 HB2.out).mono ?_
  rintro e W3 ⟨rfl, T3, hH3, hM3⟩
  have hno := HNO.out
  have hmv : Chg (Ho.Own T) W W3 := (Chg.of _ HB2.out).trans hM3.chg
  have hb2 := HB2.out.size
  obtain ⟨W4, hW4⟩ : ∃ W4, W4 = W3.alloc (.cells #[.int .i64 an, .int .i64 0, .int .i64 av] 52) := ⟨_, rfl⟩
  have hb4 : Below W3.heap.size W3 W4 := by rw [hW4]; exact (Below.refl _ _).alloc (Nat.le_refl _) _
  have HX4 := Lib.hid ((HX2.out.chg hM3.chg fun e => e.2 (hno _ (by omega))).grow hb4)
  have HF4 := Lib.hid ((HF2.out.chg hM3.chg fun e => e.2 (hno _ (by omega))).grow hb4)
  have HZ4 := Lib.hid ((HZ2.out.chg hM3.chg fun e => e.2 (hno _ (by omega))).grow hb4)
  have HA4 := Lib.hid (show Ac.Blk W4 W3.heap.size 52 #[.int .i64 an, .int .i64 0, .int .i64 av] by rw [hW4]; exact Ac.Blk.new _ _ _)
  have HH4 := Lib.hid (hH3.grow hb4)
  have HC4 := Lib.hid (hmv.grow hb4)
  have HW3 := Lib.hid hmv.size
  have HTG := Lib.hid (show ∀ b, b < W.heap.size → T3 b = T b from fun b hb => hM3.tag b (by omega))
  have HTN := Lib.hid (show ∀ b, W.heap.size ≤ b → b < W2.heap.size → T3 b = .no from fun b hb hb2 => (hM3.tag b hb2).trans (hno b hb))
  have HJ4 := Lib.hid (HT.out.keep (HT.out.keep HJ.out hmv fun b _ hz e => e.2 (HZZ.out b hz)) (Chg.of (fun _ => False) hb4) fun _ _ _ => id)
  clear hno hmv hb2 hb4 hH3 hM3
  go_wp2_with (refine wpList_load_row rfl 61 (.tmp 4) rfl W.heap.size rfl 61 #[.int .i64 okind, .string oname, .int .i64 ocoins, .int .i64 obidder, .int .i64 olot, .int .i64 kind, .int .i64 opens, .int .i64 closes, .int .i64 start, .int .i64 step, .int .i64 extend, .int .i64 last, .int .i64 floor, .int .i64 fall, .int .i64 count, .int .i64 rule, .slice A ooff.length c, .int .i64 otick] (0, 0) _ (by rw [← hW4]; exact HX4.out) Tryz.underlying61 rfl (by kernel_rfl) ?_)
  rw [← hW4]
  clear hW4
  obtain ⟨⟨e0, e1, e2, e3, e4, e5⟩, hev⟩ : ∃ ev, ev = firstE H'.now ⟨okind, oname, ocoins, obidder, olot, ⟨kind, opens, closes, start, step, extend, last, floor, fall, count, rule⟩, ooff, otick⟩ ⟨an, 0, av⟩ := ⟨_, rfl⟩
  have hfi := first_any HH4.out ⟨okind, oname, ocoins, obidder, olot, ⟨kind, opens, closes, start, step, extend, last, floor, fall, count, rule⟩, ooff, otick⟩ (.slice A ooff.length c) ⟨an, 0, av⟩
  rw [← hev] at hfi
  simp only [OrderR.agg, OrderR.cells, LotR.cells, List.cons_append, List.nil_append] at hfi
  have HEV := Lib.hid hev
  clear hev
  refine hfi.mono ?_
  rintro e W5 ⟨rfl, hb5⟩
  clear hfi
  obtain ⟨W6, hW6⟩ : ∃ W6, W6 = W5.alloc (.cells #[.int .i64 e0, .int .i64 e1, .int .i64 e2, .int .i64 e3, .int .i64 e4, .int .i64 e5] 64) := ⟨_, rfl⟩
  have hb6 : Below W5.heap.size W5 W6 := by rw [hW6]; exact (Below.refl _ _).alloc (Nat.le_refl _) _
  have hb56 : Below W4.heap.size W4 W6 := hb5.trans (hb6.mono hb5.size)
  have hf6 := HF4.out.grow hb56
  have f0 : (W5.alloc (.cells #[.int .i64 e0, .int .i64 e1, .int .i64 e2, .int .i64 e3, .int .i64 e4, .int .i64 e5] 64)).cell? ⟨W.heap.size + 1, 0, none⟩ = some (.func (.func k) pre cap) := hW6 ▸ hf6.cell 0
  have HF6 := Lib.hid hf6
  have HZ6 := Lib.hid (HZ4.out.grow hb56)
  have HA6 := Lib.hid (HA4.out.grow hb56)
  have HE6 := Lib.hid (show Ac.Blk W6 W5.heap.size 64 #[.int .i64 e0, .int .i64 e1, .int .i64 e2, .int .i64 e3, .int .i64 e4, .int .i64 e5] by rw [hW6]; exact Ac.Blk.new _ _ _)
  have HH6 := Lib.hid (HH4.out.grow hb56)
  have HC6 := Lib.hid (HC4.out.grow hb56)
  have HW5 := Lib.hid hb5.size
  have HJ6 := Lib.hid (HT.out.keep HJ4.out (Chg.of (fun _ => False) hb56) fun _ _ _ => id)
  clear hb5 hb6 hf6 hb56
  go_wp2_with fail
  rw [← hW6]
  clear hW6
  refine (HT.out.call ⟨e0, e1, e2, e3, e4, e5⟩ HJ6.out (by have := HN.out; simp at this; omega)).mono ?_
  rintro e W7 ⟨rfl, hj7, hc7⟩
  have hw3 := HW3.out
  have hs3 := HA4.out.lt
  have hs6 := HE6.out.lt
  have hn2 := HZ6.out.lt
  have hs4 := HC4.out.size
  have hs5 : W.heap.size ≤ W5.heap.size := Nat.le_trans hs4 HW5.out
  have hnz : ∀ b, W.heap.size ≤ b → ¬ (Z b ∧ b < W.heap.size) := fun b hb hz => by have := hz.2; omega
  have HF7 := Lib.hid (HF6.out.chg hc7 (hnz _ (by omega)))
  have HZ7 := Lib.hid (HZ6.out.chg hc7 (hnz _ (by omega)))
  have HA7 := Lib.hid (HA6.out.chg hc7 (hnz _ hw3))
  have HE7 := Lib.hid (HE6.out.chg hc7 (hnz _ hs5))
  have hH7 := HH6.out.keep hc7 fun b hb hz => hb ((HTG.out b hz.2).trans (HZZ.out b hz))
  have HSF := Lib.hid (salesFrom_any hH7 HL'.out (x := (H.sales.length : Int)) (by have := HL.out; omega))
  have HH7 := Lib.hid hH7
  have HC7 := Lib.hid ((HC6.out.mono (Y := fun b => Ho.Own T b ∨ Z b) fun b _ e => .inl e).step hc7 fun b _ e => .inr e.1)
  have HJ7 := Lib.hid (HT.out.mono (Z' := fun b => (Z b ∧ b < W.heap.size ∨ W6.heap.size ≤ b) ∧ b < W7.heap.size) hj7 fun b hb hz => ⟨hz, hb⟩)
  have HS67 := Lib.hid hc7.size
  have HS5 := Lib.hid hs5
  have HNZ := Lib.hid hnz
  clear hw3 hs3 hs6 hn2 hs4 hs5 hnz hH7 hc7 hj7 f0
  go_wp2_with fail
  refine HSF.out.mono ?_
  rintro e W8 ⟨g, gl, v, rfl, hsf, hg, hgl, hb8⟩
  rw [show (max (H.sales.length : Int) 0).toNat = H.sales.length by omega] at hsf
  have HSA := Lib.hid hsf
  have HB8 := Lib.hid hb8
  have HNX := Lib.hid (show ∀ b, SalesX g gl v b → W7.heap.size ≤ b by
    rintro b (e | e | e)
    · omega
    · omega
    · exact hsf.row.blk _ e)
  have HJ8 := Lib.hid (HT.out.keep HJ7.out (Chg.of (fun _ => False) hb8) fun _ _ _ => id)
  have heq : ∀ w, (binOp .eql 155 (salesV g gl) .nilFunc).run Tryz.prog w = .ok (.bool false) w := fun w => by unfold salesV; kernel_rfl
  unfold salesV at heq ⊢
  clear hsf hb8 hg hgl
  go_wp2_with fail
  refine (wpIn_wide (n := 3)).1 ?_
  refine' wpIn_rangeFunc_M (F := Fence.wide) (n := 3) rfl (by omega) (gf := 102) (lb := #[.pointer (some ⟨g, 0, none⟩), .pointer (some ⟨gl, 0, none⟩)]) rfl trivial (enters_of Tryz.func102 (by kernel_rfl) rfl)
    (sf1m_stops 2 (by omega) _ g gl H.sales.length v H'.sales HL'.out W8 HSA.out) (fun _ _ _ _ _ _ _ => trivial) (fun b hb => HSA.out.x_lt hb) (Below.refl _ _) (fun _ => rfl)
    (fun hi m pr V => J (fun b => ((Z b ∧ b < W.heap.size ∨ W6.heap.size ≤ b) ∧ b < W7.heap.size) ∨ (hi ≤ b ∧ W8.heap.size + 2 ≤ b)) ((s ++ [⟨e0, e1, e2, e3, e4, e5⟩]) ++ pr.map fun x => saleE ⟨e0, e1, e2, e3, e4, e5⟩ x.2) V ∧ Chg (fun b => (Z b ∧ b < W.heap.size ∨ W6.heap.size ≤ b) ∧ b < W7.heap.size) W8 V)
    (fun hi m s' A B h0 hb => ⟨HT.out.keep h0.1 (Chg.of (fun _ => False) hb) fun _ _ _ => id, h0.2.grow hb⟩) ?hput ?h0 (fun x => .cells #[.int .i64 x.2.number, .int .i64 x.2.lot, .int .i64 x.2.bidder, .int .i64 x.2.coins, .int .u32 x.2.goods, .int .i64 x.2.count, .int .i64 x.2.tick] 151 (0, 0)) _ ?assign ?body ?done
  case hput =>
    intro hi m s' A' l o h0 hl
    have h8 := HB8.out.size
    refine ⟨HT.out.keep h0.1 (chg_put A' l o) fun b _ hz e => ?_, h0.2.step (chg_put A' l o) fun b hb e => ?_⟩
    · rcases hz with hz | hz
      · have := hz.2; omega
      · have := hz.2; omega
    · omega
  case h0 =>
    intro W0 hW0
    refine ⟨?_, Chg.of _ hW0⟩
    rw [List.map_nil, List.append_nil]
    exact HT.out.mono (HT.out.keep HJ8.out (Chg.of (fun _ => False) hW0) fun _ _ _ => id) fun b _ hz => .inl hz
  case assign =>
    rintro l x W' g' K' m _ hg' hK'
    gi_wp2
    rw [← hg']
    exact hK'
  case body =>
    rintro hi m l gs pr x W' hhi hwg hm2 hgs ⟨hI, hIc⟩ _ hsp hlt
    obtain ⟨xn, ⟨sn, sl, sb, sc, sg, sct, st⟩⟩ := x
    simp only at hgs
    have hgl := (Array.getElem?_eq_some_iff.1 hgs).1
    have s1 : W'.cell? ⟨gs, 1, none⟩ = some (.int .i64 sl) := (show Ac.Blk W' gs _ _ from hgs).cell 1
    have s2 : W'.cell? ⟨gs, 2, none⟩ = some (.int .i64 sb) := (show Ac.Blk W' gs _ _ from hgs).cell 2
    have s3 : W'.cell? ⟨gs, 3, none⟩ = some (.int .i64 sc) := (show Ac.Blk W' gs _ _ from hgs).cell 3
    have h8 := HB8.out.size
    have h67 := HS67.out
    have lf := HF6.out.lt
    have le := HE6.out.lt
    have hs5 := HS5.out
    have hZ2 : ∀ b, W.heap.size ≤ b → b < W6.heap.size → ¬ ((Z b ∧ b < W.heap.size ∨ W6.heap.size ≤ b) ∧ b < W7.heap.size) := fun b h1 h2 h => by
      rcases h.1 with h3 | h3
      · have := h3.2; omega
      · omega
    have hf := (HF7.out.grow HB8.out).chg hIc (hZ2 _ (by omega) lf)
    have he := (HE7.out.grow HB8.out).chg hIc (hZ2 _ hs5 le)
    have p0 : W'.cell? ⟨W.heap.size + 1, 0, none⟩ = some (.func (.func k) pre cap) := hf.cell 0
    have q1 : W'.cell? ⟨W5.heap.size, 1, none⟩ = some (.int .i64 e1) := he.cell 1
    have q5 : W'.cell? ⟨W5.heap.size, 5, none⟩ = some (.int .i64 e5) := he.cell 5
    have hlen : ((s ++ [(⟨e0, e1, e2, e3, e4, e5⟩ : EvR)]) ++ pr.map fun (x : Int × SaleR) => saleE ⟨e0, e1, e2, e3, e4, e5⟩ x.2).length < N := by
      have h1 := HN.out
      rw [salesL_len] at hlt
      simp only [List.length_cons, List.length_map, List.length_drop] at h1
      simp only [List.length_append, List.length_map, List.length_cons, List.length_nil]
      omega
    have HCL := Lib.hid (HT.out.call (saleE ⟨e0, e1, e2, e3, e4, e5⟩ ⟨sn, sl, sb, sc, sg, sct, st⟩) hI hlen)
    have HIC := Lib.hid hIc
    have HSZ := Lib.hid (And.intro hgl (And.intro hwg hhi))
    clear hI hIc hsp hlt hgs hgl hf he hlen hZ2 h8 h67 lf le hs5 hwg hhi hm2
    gi_wp2
    refine ⟨trivial, (callsIn_wide.2 HCL.out).mono ?_⟩
    rintro e W9 ⟨rfl, hj9, hc9⟩
    have HJ9 := Lib.hid hj9
    have HC9 := Lib.hid hc9
    clear hj9 hc9
    gi_wp2
    have hc9 := HC9.out
    have h8 := HB8.out.size
    obtain ⟨hgl, hwg, hhi⟩ := HSZ.out
    have far : ∀ b, W7.heap.size ≤ b → b < hi ∨ b < W8.heap.size + 2 → ¬ (((Z b ∧ b < W.heap.size ∨ W6.heap.size ≤ b) ∧ b < W7.heap.size) ∨ (hi ≤ b ∧ W8.heap.size + 2 ≤ b)) := fun b h1 h2 h => by
      rcases h with h | h
      · have := h.2; omega
      · omega
    refine ⟨⟨hc9.block _ (by omega) (far _ h8 (.inr (by omega))), hc9.block _ (by omega) (far _ (by omega) (.inr (by omega)))⟩, ⟨⟨hc9.size, fun i h1 h2 => hc9.block i (by omega) (far _ (by omega) (.inl h2))⟩, fun b hb => ?_⟩, ?_, HIC.out.step hc9 fun b hb e => e.elim id fun e => by omega⟩
    · have h1 := HNX.out b hb
      have h2 := HSA.out.x_lt hb
      exact hc9.block b (by omega) (far _ h1 (.inr (by omega)))
    · rw [List.map_append, ← List.append_assoc]
      exact HT.out.mono HJ9.out fun b _ hz => hz.elim id fun hz => .inr (by omega)
  case done =>
    rintro hi m Dd ys W' hD hys ⟨hI, hIc⟩ hKd
    subst hD hys
    have hmm : (salesL H.sales.length H'.sales).map (fun x => saleE ⟨e0, e1, e2, e3, e4, e5⟩ x.2) = (H'.sales.drop H.sales.length).map (saleE ⟨e0, e1, e2, e3, e4, e5⟩) := by rw [← salesL_snd, List.map_map]; rfl
    rw [hmm] at hI
    clear hmm
    have h8 := HB8.out.size
    have h67 := HS67.out
    have hs5 := HS5.out
    have le := HE6.out.lt
    have la := HA6.out.lt
    have lz := HZ6.out.lt
    have hZ2 : ∀ b, W.heap.size ≤ b → b < W6.heap.size → ¬ ((Z b ∧ b < W.heap.size ∨ W6.heap.size ≤ b) ∧ b < W7.heap.size) := fun b h1 h2 h => by
      rcases h.1 with h3 | h3
      · have := h3.2; omega
      · omega
    have ha := (HA7.out.grow HB8.out).chg hIc (hZ2 _ HW3.out la)
    have hz := (HZ7.out.grow HB8.out).chg hIc (hZ2 _ (by omega) lz)
    have a0 : W'.cell? ⟨W3.heap.size, 0, none⟩ = some (.int .i64 an) := ha.cell 0
    have a1 : W'.cell? ⟨W3.heap.size, 1, none⟩ = some (.int .i64 0) := ha.cell 1
    have a2 : W'.cell? ⟨W3.heap.size, 2, none⟩ = some (.int .i64 av) := ha.cell 2
    have z0 : W'.cell? ⟨W.heap.size + 1 + 1, 0, none⟩ = some (.int .i64 0) := hz.cell 0
    have z1 : W'.cell? ⟨W.heap.size + 1 + 1, 1, none⟩ = some (.int .i64 0) := hz.cell 1
    have z2 : W'.cell? ⟨W.heap.size + 1 + 1, 2, none⟩ = some (.int .i64 0) := hz.cell 2
    have zf := hz.frozen
    have HI := Lib.hid hI
    have HIC := Lib.hid hIc
    have HZF := Lib.hid hz
    have HQ0 := Lib.hid hKd
    clear hI hIc hKd ha hz hZ2 h8 h67 hs5 le la lz
    dsimp only
    go_wp2_with fail
    have hst := ((Chg.set W' ⟨W.heap.size + 1 + 1, 0, none⟩ (.int .i64 an)).trans (Chg.set _ ⟨W.heap.size + 1 + 1, 1, none⟩ (.int .i64 0))).trans (Chg.set _ ⟨W.heap.size + 1 + 1, 2, none⟩ (.int .i64 av))
    have hfin := ((HZF.out.set_ 0 (.int .i64 an)).set_ 1 (.int .i64 0)).set_ 2 (.int .i64 av)
    have hw8 := HIC.out.size
    have h8 := HB8.out.size
    have h67 := HS67.out
    have lz := HZ6.out.lt
    have lz2 := HZ2.out.lt
    have lq : W8.heap.size < W'.heap.size := (Array.getElem?_eq_some_iff.1 HQ0.out).1
    have h46 := HW5.out
    have h56 := HE6.out.lt
    have hz4 := HC4.out.size
    have htn := HTN.out _ (show W.heap.size ≤ W.heap.size + 1 + 1 by omega) lz2
    have TO : ∀ b, W4.heap.size ≤ b → T3 b = .no := by obtain ⟨_, _, _, _, _, _, hA⟩ := HH4.out; exact hA.out
    have hq := (hst.block W8.heap.size lq (by simp; omega)).trans HQ0.out
    refine ⟨by simp, .inl ⟨_, _, rfl, run_takeDeferred hq, ?_⟩⟩
    have hpt := chg_put (((W'.setCell ⟨W.heap.size + 1 + 1, 0, none⟩ (.int .i64 an)).setCell ⟨W.heap.size + 1 + 1, 1, none⟩ (.int .i64 0)).setCell ⟨W.heap.size + 1 + 1, 2, none⟩ (.int .i64 av)) W8.heap.size (.deferred none)
    refine ⟨.agg #[.int .i64 an, .int .i64 0, .int .i64 av], results_cell_row rfl _ _ (W.heap.size + 1 + 1) 52 #[.int .i64 an, .int .i64 0, .int .i64 av] (0, 0) _ rfl (hfin.chg hpt (by omega)) Tryz.underlying52 rfl (by kernel_rfl), rfl, T3, ?_, HTG.out, ?_, ?_⟩
    · refine (((HH7.out.grow HB8.out).keep HIC.out fun b hb hz => hb ?_).keep hst fun b hb hz => hb (hz ▸ htn)).keep hpt fun b hb hz => hb (TO b (by omega))
      rcases hz.1 with h1 | h1
      · exact (HTG.out b h1.2).trans (HZZ.out b h1)
      · exact TO b (by omega)
    · refine (((HC7.out.grow HB8.out).step HIC.out fun b hb hz => ?_).step hst fun b hb hz => ?_).step hpt fun b hb hz => ?_
      · rcases hz.1 with h1 | h1
        · exact .inr h1.1
        · omega
      · simp at hz; omega
      · omega
    · have h1 := HT.out.keep (HT.out.keep HI.out hst fun b hb hz e => ?_) hpt fun b hb hz e => ?_
      · rw [List.append_assoc] at h1
        rw [← HEV.out]
        refine HT.out.mono h1 fun b hb hz => ?_
        rcases hz with hz | hz
        · rcases hz.1 with h2 | h2
          · exact .inl h2.1
          · exact .inr ⟨by omega, TO b (by omega)⟩
        · exact .inr ⟨by omega, TO b (by omega)⟩
      · simp at e
        rcases hz with hz | hz
        · rcases hz.1 with h2 | h2
          · have := h2.2; omega
          · omega
        · omega
      · rcases hz with hz | hz
        · have := hz.2; omega
        · omega
end Go.Proofs.YtckdpejdnejhfaaGreat.Fd

/- Feed: Watch: a watcher more, or none. -/
namespace Go.Proofs.YtckdpejdnejhfaaGreat.Fd
open Go.RowKit
open Go.Proofs.YtckdpejdnejhfaaGreat.Vb Go.Proofs.YtckdpejdnejhfaaGreat.Ac Go.Proofs.YtckdpejdnejhfaaGreat.Ho
attribute [local go_sem] Oper.semAt_some

set_option maxRecDepth 100000
theorem inf_room : ((Tryz.prog).info? 66).map (·.bytes) = some 56 := by kernel_rfl
theorem mk_room (W : World) {m : Nat} (hm : m ≤ 1024) : (Instr.makeChan 42 (.int .i64 m)).run Tryz.prog W = .ok (.chan (some W.heap.size)) (W.alloc (.chan m #[] false 0 0 false)) := by
  have h := inf_room
  cases hi : (Tryz.prog).info? 66 with
  | none => rw [hi] at h; cases h
  | some i =>
    rw [hi] at h
    injection h with h
    have h : i.bytes = 56 := h
    exact Go.Conc.run_makeChan un_room hi .i64 m (by omega) (by rw [h]; omega)
section
variable {W : World} {f h : Nat} {R : Nat → Prop} {v : Value} {bs : List Nat} {came : Int}
theorem watch_err (hF : FeedAt W R f h v bs came) {x : Int} (hx : x < 1 ∨ 1024 < x ∨ 64 ≤ bs.length) : Calls Tryz.prog 7 #[.pointer (some ⟨f, 0, none⟩), .int .i64 x] W fun e W' => e = .returned (.tuple #[.pointer none, .int .i64 2]) ∧ W' = W := by
  obtain ⟨A, c, hv⟩ := hF.row.form
  subst hv
  have c0 := hF.blk.cell 0
  have c1 := hF.blk.cell 1
  simp only [List.getElem?_toArray, List.getElem?_cons_zero, List.getElem?_cons_succ] at c0 c1
  have HT := Lib.hid (fthere_ok c0)
  clear hF
  generalize bs.length = n at c1 hx
  by_cases h1 : x < 1
  · clear hx
    go_enter Tryz.func7, Tryz.ntmps7
    go_wp2_with fail
    refine HT.out.mono ?_
    rintro e W2 ⟨rfl, rfl⟩
    go_wp2_with fail
    go_ret2
    exact ⟨rfl, rfl⟩
  · have hx2 := hx.resolve_left h1
    by_cases h2 : 1024 < x
    · clear hx hx2
      have d2 : decide (x > 1024) = true := decide_eq_true h2
      go_enter Tryz.func7, Tryz.ntmps7
      go_wp2_with fail
      refine HT.out.mono ?_
      rintro e W2 ⟨rfl, rfl⟩
      go_wp2_with fail
      go_ret2
      exact ⟨rfl, rfl⟩
    · have hn := hx2.resolve_left h2
      have e1 : (64 : Int) ≤ (n : Int) := by omega
      clear hx hx2 hn
      go_enter Tryz.func7, Tryz.ntmps7
      go_wp2_with fail
      refine HT.out.mono ?_
      rintro e W2 ⟨rfl, rfl⟩
      go_wp2_with fail
      go_ret2
      exact ⟨rfl, rfl⟩
theorem watch_ok (hF : FeedAt W R f h v bs came) {m : Nat} (hm : 1 ≤ m ∧ m ≤ 1024) (hn : bs.length < 64) (hR : ∀ b, b < W.heap.size → R b → b ≠ f) : Calls Tryz.prog 7 #[.pointer (some ⟨f, 0, none⟩), .int .i64 m] W fun e W' => ∃ b c v', e = .returned (.tuple #[.pointer (some ⟨b, 0, none⟩), .int .i64 0]) ∧
    FeedAt W' (fun x => (R x ∧ x < W.heap.size) ∨ (W.heap.size ≤ x ∧ x ≠ b ∧ x ≠ c)) f h v' (bs ++ [b]) came ∧ WatAt W' f b c ⟨m, [], 0⟩ ∧ W.heap.size ≤ b ∧ W.heap.size ≤ c ∧ b ≠ c ∧ Chg (fun x => x = f ∨ v.ownBlock = some x) W W' := by
  obtain ⟨A, c, hv⟩ := hF.row.form
  subst hv
  have c0 := hF.blk.cell 0
  have c1 := hF.blk.cell 1
  have cf := hF.blk.frozen
  simp only [List.getElem?_toArray, List.getElem?_cons_zero, List.getElem?_cons_succ] at c0 c1
  have HT := Lib.hid (fthere_ok c0)
  have HF := Lib.hid hF
  have HFL := Lib.hid hF.blk.lt
  have HR := Lib.hid hR
  clear hF hR
  obtain ⟨n, hnn⟩ : ∃ n, n = bs.length := ⟨_, rfl⟩
  rw [← hnn] at c1 hn
  have HNN := Lib.hid hnn
  clear hnn
  have d1 : decide ((m : Int) < 1) = false := decide_eq_false (by omega)
  have d2 : decide ((m : Int) > 1024) = false := decide_eq_false (by omega)
  have d3 : decide ((n : Int) ≥ 64) = false := decide_eq_false (by omega)
  have hmk := mk_room W hm.2
  obtain ⟨s0, hs0⟩ : ∃ s0, s0 = W.heap.size := ⟨_, rfl⟩
  have HS0 := Lib.hid hs0
  have HM := Lib.hid hm
  have HN := Lib.hid hn
  clear hm hn
  clear hs0
  have hb1 : Below W.heap.size W (W.alloc (.chan m #[] false 0 0 false)) := (Below.refl _ _).alloc (Nat.le_refl _) _
  have hb2 : Below W.heap.size W ((W.alloc (.chan m #[] false 0 0 false)).alloc (.cells #[.pointer (some ⟨f, 0, none⟩), .chan (some W.heap.size), .int .i64 0] 44)) := hb1.alloc hb1.size _
  have hb3 : Below W.heap.size W (((W.alloc (.chan m #[] false 0 0 false)).alloc (.cells #[.pointer (some ⟨f, 0, none⟩), .chan (some W.heap.size), .int .i64 0] 44)).alloc (.cells #[.pointer (some ⟨W.heap.size + 1, 0, none⟩)] 28)) := hb2.alloc hb2.size _
  have u1 : (((W.alloc (.chan m #[] false 0 0 false)).alloc (.cells #[.pointer (some ⟨f, 0, none⟩), .chan (some W.heap.size), .int .i64 0] 44))).cell? ⟨f, 1, none⟩ = some (.slice A n c) := (hb2.cell (p := ⟨f, 1, none⟩) HFL.out).trans c1
  have HB3 := Lib.hid hb3
  have HB2 := Lib.hid hb2
  have HBF := Lib.hid (HF.out.blk.grow hb3)
  have HW := Lib.hid (show Ac.Blk (((W.alloc (.chan m #[] false 0 0 false)).alloc (.cells #[.pointer (some ⟨f, 0, none⟩), .chan (some W.heap.size), .int .i64 0] 44)).alloc (.cells #[.pointer (some ⟨W.heap.size + 1, 0, none⟩)] 28)) (W.heap.size + 1) 44 #[.pointer (some ⟨f, 0, none⟩), .chan (some W.heap.size), .int .i64 0] from (Ac.Blk.new' _ _ (by simp)).alloc _)
  have HC := Lib.hid (show ((((W.alloc (.chan m #[] false 0 0 false)).alloc (.cells #[.pointer (some ⟨f, 0, none⟩), .chan (some W.heap.size), .int .i64 0] 44)).alloc (.cells #[.pointer (some ⟨W.heap.size + 1, 0, none⟩)] 28))).heap[W.heap.size]? = some (.chan m #[] false 0 0 false) from (Below.heap_alloc _ _ _ (by simp; omega)).trans ((Below.heap_alloc _ _ _ (by simp)).trans (World.alloc_heap_new W _)))
  have HRU := Lib.hid ((HF.out.row.mono (R' := fun b => R b ∧ b < W.heap.size) fun b hb hr => ⟨hr, hb⟩).grow hb3)
  clear hb1 hb2 hb3
  go_enter Tryz.func7, Tryz.ntmps7
  go_wp2_with fail
  refine HT.out.mono ?_
  rintro e W2 ⟨rfl, hw⟩
  rw [hw]
  clear hw
  go_wp2_with (at_builtin; go_must (refine wpList_row _ (.tmp 35) (.tmp 37) rfl et_watch rfl (.slice A n c) n (bptrs bs) rfl (R := fun b => R b ∧ b < W.heap.size) (by rw [HNN.out]; exact HRU.out) (.slice (some ⟨W.heap.size + 1 + 1, 0, none⟩) 1 1) 1 [.pointer (some ⟨W.heap.size + 1, 0, none⟩)] rfl (Sl.lit1 (t := 28) (Ac.Blk.new' _ _ (by simp)) rfl) (by simp [Value.oneCell']) (by have := HN.out; omega) (by have := HN.out; unfold maxLen; omega) ?_); intro A3 c3 Z hrZ hcZ; have hfz := HBF.out.chg hcZ (fun e => HR.out f HFL.out (HF.out.row.blk f (by rw [← HNN.out]; exact e)) rfl); have z1 := hfz.cell 1; have zf := hfz.frozen; have HFZ := Lib.hid hfz; have HRZ := Lib.hid hrZ; have HCZ := Lib.hid hcZ; simp only [List.getElem?_toArray, List.getElem?_cons_zero, List.getElem?_cons_succ] at z1; clear hrZ hcZ hfz)
  go_ret2
  have hsz : W.heap.size + 1 + 1 + 1 ≤ Z.heap.size := Nat.le_trans (by simp) HCZ.out.size
  have hown : ∀ b, (Value.slice A n c).ownBlock = some b → b < W.heap.size := fun b e => HF.out.row.lt (by rw [← HNN.out]; exact e)
  have hst := Chg.set Z ⟨f, 1, none⟩ (.slice A3 (n + 1) c3)
  have hfl := HFL.out
  refine ⟨W.heap.size + 1, W.heap.size, .slice A3 (n + 1) c3, rfl, ⟨HFZ.out.set_ 1 _, ?_⟩, ⟨?_, ⟨0, 0, ?_⟩⟩, by omega, Nat.le_refl _, by omega, ?_⟩
  · rw [List.length_append, ← HNN.out]
    have h1 := (HRZ.out.mono (R' := fun x => (R x ∧ x < W.heap.size) ∨ (W.heap.size ≤ x ∧ x ≠ W.heap.size + 1 ∧ x ≠ W.heap.size)) fun b hb hr => ?_)
    · have h2 := h1.chg hst fun b hb hr e => ?_
      · simpa [bptrs] using h2
      · rcases hr with hr | hr
        · exact HR.out b hr.2 hr.1 e
        · simp at e; omega
    · rcases hr with hr | hr
      · exact .inl hr
      · simp at hr; omega
  · exact ((HW.out.chg HCZ.out fun e => by have := hown _ e; omega).chg hst fun e => by simp at e; omega)
  · exact (hst.block _ (by omega) (fun e => by simp at e; omega)).trans ((HCZ.out.block _ (by simp; omega) (fun e => by have := hown _ e; omega)).trans HC.out)
  · refine (Chg.of _ HB3.out).step ((HCZ.out.mono (Y := fun x => x = f ∨ (Value.slice A n c).ownBlock = some x) fun b _ e => Or.inr e).step (Y := fun x => x = f ∨ (Value.slice A n c).ownBlock = some x) (hst.mono fun b _ e => Or.inl e) fun b _ e => e) fun b _ e => ?_
    rw [← HNN.out]
    exact e
end
end Go.Proofs.YtckdpejdnejhfaaGreat.Fd

/- Feed: tell: an event told to a feed's one watcher. -/
namespace Go.Proofs.YtckdpejdnejhfaaGreat.Fd
open Go.RowKit
open Go.Proofs.YtckdpejdnejhfaaGreat.Vb Go.Proofs.YtckdpejdnejhfaaGreat.Ac Go.Proofs.YtckdpejdnejhfaaGreat.Ho
attribute [local go_sem] Oper.semAt_some

/-- a feed of a house with one watcher -/
structure OneAt (W : World) (f h b c : Nat) (v : Value) (came : Int) (w : WatR) : Prop where
  feed : FeedAt W (fun x => x ≠ f ∧ x ≠ b ∧ x ≠ c) f h v [b] came
  wat : WatAt W f b c w
  ne : f ≠ b ∧ f ≠ c ∧ b ≠ c
theorem tell_end {W W5 V2 : World} {f h b c : Nat} {v : Value} {came : Int} {w w' : WatR} (hO : OneAt W f h b c v came w) (hF5 : Ac.Blk W5 f 41 #[.pointer (some ⟨h, 0, none⟩), v, .int .i64 (came + 1)])
    (hC5 : Chg (fun x => x = f ∨ x = b ∨ x = c) W W5) (hst : Chg (· = b) W5 V2) (hb2 : Ac.Blk V2 b 44 #[.pointer (some ⟨f, 0, none⟩), .chan (some c), .int .i64 w'.missed]) (hch : ChanAt W5 c w'.room w'.queue) :
    OneAt V2 f h b c v (came + 1) w' ∧ Chg (fun x => x = f ∨ x = b ∨ x = c) W V2 := by
  have hC := hC5.step (Y := (· = b)) hst fun b _ e => .inr (.inl e)
  exact ⟨⟨⟨hF5.chg hst hO.ne.1, hO.feed.row.chg hC fun x _ hr e => e.elim hr.1 fun e => e.elim hr.2.1 hr.2.2⟩, ⟨hb2, hch.chg hst fun e => hO.ne.2.2 e.symm⟩, hO.ne⟩, hC⟩
set_option maxRecDepth 100000 in
set_option maxHeartbeats 4000000 in
theorem tell_one {W : World} {f h b c : Nat} {v : Value} {came : Int} {w : WatR} (hO : OneAt W f h b c v came w) (e : EvR) (hc : 0 ≤ came ∧ came ≤ 1000000000) (hm : 0 ≤ w.missed ∧ w.missed ≤ 1000000000) :
    Calls Tryz.prog 35 #[.pointer (some ⟨f, 0, none⟩), e.agg] W fun ex W' => ex = .returned (.tuple #[]) ∧ OneAt W' f h b c v (came + 1) (w.tell e) ∧ Chg (fun x => x = f ∨ x = b ∨ x = c) W W' := by
  obtain ⟨e0, e1, e2, e3, e4, e5⟩ := e
  have hF := hO.feed
  have hWt := hO.wat
  obtain ⟨q, cap, rfl, hRq, hql, hcap⟩ := hF.row.ex (by simp)
  obtain ⟨W1, hW1⟩ : ∃ W1, W1 = W.alloc (.cells #[.int .i64 e0, .int .i64 e1, .int .i64 e2, .int .i64 e3, .int .i64 e4, .int .i64 e5] 64) := ⟨_, rfl⟩
  have hb1 : Below W.heap.size W W1 := by rw [hW1]; exact (Below.refl _ _).alloc (Nat.le_refl _) _
  have hx1 : Ac.Blk W1 W.heap.size 64 #[.int .i64 e0, .int .i64 e1, .int .i64 e2, .int .i64 e3, .int .i64 e4, .int .i64 e5] := by rw [hW1]; exact Ac.Blk.new W _ _
  have hfl := hF.blk.lt
  have hbl := hWt.blk.lt
  have hcl := hWt.room.lt
  have hne := hO.ne
  have hb0 : W.cell? ⟨q, 0, none⟩ = some (.pointer (some ⟨b, 0, none⟩)) := hF.row.own.cellAt 0 (by simp)
  have hF1 := hF.blk.grow hb1
  obtain ⟨V, hV⟩ : ∃ V, V = W1.setCell ⟨f, 2, none⟩ (.int .i64 (came + 1)) := ⟨_, rfl⟩
  have hcV : Chg (fun x => x = f ∨ x = b ∨ x = c) W V := by rw [hV]; exact (Chg.of _ hb1).step (Chg.set W1 ⟨f, 2, none⟩ _) fun b _ e => .inl e
  have hFV : Ac.Blk V f 41 #[.pointer (some ⟨h, 0, none⟩), .slice (some ⟨q, 0, none⟩) 1 cap, .int .i64 (came + 1)] := by rw [hV]; exact hF1.set_ 2 _
  have hWV : Ac.Blk V b 44 #[.pointer (some ⟨f, 0, none⟩), .chan (some c), .int .i64 w.missed] := by rw [hV]; exact ((hWt.blk.grow hb1).chg (Chg.set W1 ⟨f, 2, none⟩ _) fun e => hne.1 e.symm)
  have hCV : ChanAt V c w.room w.queue := by rw [hV]; exact ((hWt.room.grow hb1).chg (Chg.set W1 ⟨f, 2, none⟩ _) fun e => hne.2.1 e.symm)
  have hqV : V.cell? ⟨q, 0, none⟩ = some (.pointer (some ⟨b, 0, none⟩)) := by rw [hV]; exact ((Chg.set W1 ⟨f, 2, none⟩ _).cell (p := ⟨q, 0, none⟩) (Nat.lt_of_lt_of_le hql hb1.size) hRq.1).trans ((hb1.cell (p := ⟨q, 0, none⟩) hql).trans hb0)
  have hxV : Ac.Blk V W.heap.size 64 #[.int .i64 e0, .int .i64 e1, .int .i64 e2, .int .i64 e3, .int .i64 e4, .int .i64 e5] := by rw [hV]; exact hx1.chg (Chg.set W1 ⟨f, 2, none⟩ _) (by simp; omega)
  have HO := Lib.hid hO
  have HF := Lib.hid hF
  have HW := Lib.hid hWt
  have HCV := Lib.hid hcV
  have HFV := Lib.hid hFV
  have HWV := Lib.hid hWV
  have HRV := Lib.hid hCV
  have HNE := Lib.hid hne
  have HRQ := Lib.hid hRq
  have HM := Lib.hid hm
  have s1 : W1.cell? ⟨f, 1, none⟩ = some (.slice (some ⟨q, 0, none⟩) 1 cap) := hF1.cell 1
  have s2 : W1.cell? ⟨f, 2, none⟩ = some (.int .i64 came) := hF1.cell 2
  have sf := hF1.frozen
  have ww : IntKind.i64.wrap (came + 1) = came + 1 := IntWalk.i64_in _ (by omega)
  have r1 : V.cell? ⟨b, 1, none⟩ = some (.chan (some c)) := hWV.cell 1
  have r2 : V.cell? ⟨b, 2, none⟩ = some (.int .i64 w.missed) := hWV.cell 2
  have x0 : V.cell? ⟨W.heap.size, 0, none⟩ = some (.int .i64 e0) := hxV.cell 0
  have x1 : V.cell? ⟨W.heap.size, 1, none⟩ = some (.int .i64 e1) := hxV.cell 1
  have x2 : V.cell? ⟨W.heap.size, 2, none⟩ = some (.int .i64 e2) := hxV.cell 2
  have x3 : V.cell? ⟨W.heap.size, 3, none⟩ = some (.int .i64 e3) := hxV.cell 3
  have x4 : V.cell? ⟨W.heap.size, 4, none⟩ = some (.int .i64 e4) := hxV.cell 4
  have x5 : V.cell? ⟨W.heap.size, 5, none⟩ = some (.int .i64 e5) := hxV.cell 5
  have lb : b < V.heap.size := hWV.lt
  have lx : W.heap.size < V.heap.size := hxV.lt
  rw [hW1] at hV s1 s2 sf hb1
  have HV := Lib.hid hV
  clear hO hF hWt hcV hFV hWV hCV hne hRq hxV hV hF1 hx1 hb0 hcap hm hfl hbl hcl hql
  clear hW1 W1
  go_enter Tryz.func35, Tryz.ntmps35
  go_wp2_with fail
  rw [← HV.out]
  clear s1 s2 sf ww hb1 HV
  go_loopw [18] (fun i wr => (i = .int .i64 0 ∧ wr = V) ∨ (i = .int .i64 1 ∧ OneAt wr f h b c (.slice (some ⟨q, 0, none⟩) 1 cap) (came + 1) (w.tell ⟨e0, e1, e2, e3, e4, e5⟩) ∧ Chg (fun x => x = f ∨ x = b ∨ x = c) W wr)) (fun i _ => 1 - (intOf i).toNat)
  case atStart => exact .inl ⟨rfl, rfl⟩
  case round =>
    rcases hrel with ⟨rfl, rfl⟩ | ⟨rfl, hP⟩
    · have htold := fun W' (hcW : ChanAt W' c w.room w.queue) => lay_any ⟨⟨e0, e1, e2, e3, e4, e5⟩, w.missed⟩ hcW
      simp only [toldV, ToldR.cells, EvR.cells, List.cons_append, List.nil_append] at htold
      have HT := Lib.hid htold
      clear htold
      go_wp2_with fail
      by_cases hr : w.queue.length < w.room
      · have HR := Lib.hid hr
        clear hr
        refine wp_region_F (Below wr.heap.size wr) [10] (by kernel_rfl) ((Below.refl _ _).drew) (fun hS => ?_)
        refine tpD [1, 2, 3, 10] 0 hS ?_
        refine tpD [2, 3, 10] 1 hS ?_
        refine tpD [3, 10] 2 hS ?_
        have qq := Lib.hid fun (w' : World) (hSw : (Below wr.heap.size wr) w') => And.intro ((hSw.cell (p := ⟨b, 1, none⟩) lb).trans r1) <| And.intro ((hSw.cell (p := ⟨b, 2, none⟩) lb).trans r2) <| And.intro ((hSw.cell (p := ⟨W.heap.size, 0, none⟩) lx).trans x0) <| And.intro ((hSw.cell (p := ⟨W.heap.size, 1, none⟩) lx).trans x1) <| And.intro ((hSw.cell (p := ⟨W.heap.size, 2, none⟩) lx).trans x2) <| And.intro ((hSw.cell (p := ⟨W.heap.size, 3, none⟩) lx).trans x3) <| And.intro ((hSw.cell (p := ⟨W.heap.size, 4, none⟩) lx).trans x4) <| (hSw.cell (p := ⟨W.heap.size, 5, none⟩) lx).trans x5
        refine tl 3 hS qq ?_
        refine tlD [9, 10] 4 hS qq ?_
        refine tpD [6, 7, 8, 9, 10] 5 hS ?_
        refine tpD [7, 8, 9, 10] 6 hS ?_
        refine tpD [8, 9, 10] 7 hS ?_
        refine tlD [9, 10] 8 hS qq ?_
        refine tp 9 hS ?_
        refine stf 10 fun K hK => ?_
        go_simp
        refine (HT.out _ (HRV.out.grow hS)).mono ?_
        rintro e W5 ⟨rfl, hch, hcg⟩
        have HC5 := Lib.hid ((HCV.out.grow hS).step (Y := (· = c)) hcg fun b _ e => .inr (.inr e))
        have HF5 := Lib.hid ((HFV.out.grow hS).chg hcg HNE.out.2.1)
        have HW5 := Lib.hid ((HWV.out.grow hS).chg hcg HNE.out.2.2)
        have HCH := Lib.hid hch
        clear hch hcg
        rw [decide_eq_true HR.out]
        refine hK.out _ _ ?_
        clear hK K
        try simp only [Act.put, pb, pz, ps]
        refine wpAnyF_done (by kernel_rfl) ?_ _
        clear r1 r2 x0 x1 x2 x3 x4 x5 lb lx
        have b2 : W5.cell? ⟨b, 2, none⟩ = some (.int .i64 w.missed) := HW5.out.cell 2
        have bf := HW5.out.frozen
        go_wp2_with fail
        go_roundw
        case rel =>
          refine .inr ⟨rfl, tell_end HO.out HF5.out HC5.out (Chg.set W5 ⟨b, 2, none⟩ (.int .i64 0)) ?_ ?_⟩
          · have h1 := HW5.out.set_ 2 (.int .i64 0)
            unfold WatR.tell
            rw [if_pos HR.out]
            exact h1
          · have h1 := HCH.out
            rw [if_pos HR.out] at h1
            unfold WatR.tell
            rw [if_pos HR.out]
            exact h1
        case measure => simp [intOf]
      · have HR := Lib.hid hr
        clear hr
        refine wp_region_F (Below wr.heap.size wr) [10] (by kernel_rfl) ((Below.refl _ _).drew) (fun hS => ?_)
        refine tpD [1, 2, 3, 10] 0 hS ?_
        refine tpD [2, 3, 10] 1 hS ?_
        refine tpD [3, 10] 2 hS ?_
        have qq := Lib.hid fun (w' : World) (hSw : (Below wr.heap.size wr) w') => And.intro ((hSw.cell (p := ⟨b, 1, none⟩) lb).trans r1) <| And.intro ((hSw.cell (p := ⟨b, 2, none⟩) lb).trans r2) <| And.intro ((hSw.cell (p := ⟨W.heap.size, 0, none⟩) lx).trans x0) <| And.intro ((hSw.cell (p := ⟨W.heap.size, 1, none⟩) lx).trans x1) <| And.intro ((hSw.cell (p := ⟨W.heap.size, 2, none⟩) lx).trans x2) <| And.intro ((hSw.cell (p := ⟨W.heap.size, 3, none⟩) lx).trans x3) <| And.intro ((hSw.cell (p := ⟨W.heap.size, 4, none⟩) lx).trans x4) <| (hSw.cell (p := ⟨W.heap.size, 5, none⟩) lx).trans x5
        refine tl 3 hS qq ?_
        refine tlD [9, 10] 4 hS qq ?_
        refine tpD [6, 7, 8, 9, 10] 5 hS ?_
        refine tpD [7, 8, 9, 10] 6 hS ?_
        refine tpD [8, 9, 10] 7 hS ?_
        refine tlD [9, 10] 8 hS qq ?_
        refine tp 9 hS ?_
        refine stf 10 fun K hK => ?_
        go_simp
        refine (HT.out _ (HRV.out.grow hS)).mono ?_
        rintro e W5 ⟨rfl, hch, hcg⟩
        have HC5 := Lib.hid ((HCV.out.grow hS).step (Y := (· = c)) hcg fun b _ e => .inr (.inr e))
        have HF5 := Lib.hid ((HFV.out.grow hS).chg hcg HNE.out.2.1)
        have HW5 := Lib.hid ((HWV.out.grow hS).chg hcg HNE.out.2.2)
        have HCH := Lib.hid hch
        clear hch hcg
        rw [decide_eq_false HR.out]
        refine hK.out _ _ ?_
        clear hK K
        try simp only [Act.put, pb, pz, ps]
        refine wpAnyF_done (by kernel_rfl) ?_ _
        clear r1 r2 x0 x1 x2 x3 x4 x5 lb lx
        have b2 : W5.cell? ⟨b, 2, none⟩ = some (.int .i64 w.missed) := HW5.out.cell 2
        have bf := HW5.out.frozen
        have wm : IntKind.i64.wrap (w.missed + 1) = w.missed + 1 := IntWalk.i64_in _ (by have := HM.out; omega)
        go_wp2_with fail
        go_roundw
        case rel =>
          refine .inr ⟨rfl, tell_end HO.out HF5.out HC5.out (Chg.set W5 ⟨b, 2, none⟩ (.int .i64 (w.missed + 1))) ?_ ?_⟩
          · have h1 := HW5.out.set_ 2 (.int .i64 (w.missed + 1))
            unfold WatR.tell
            rw [if_neg HR.out]
            exact h1
          · have h1 := HCH.out
            rw [if_neg HR.out] at h1
            unfold WatR.tell
            rw [if_neg HR.out]
            exact h1
        case measure => simp [intOf]
    · have HP := Lib.hid hP
      clear hP
      go_wp2_with fail
      refine bodyPost_end (results_none rfl _ _ _) rfl ?_
      exact ⟨rfl, HP.out⟩
end Go.Proofs.YtckdpejdnejhfaaGreat.Fd

/- Feed: (*Feed).Do: an order done at the feed's house, told to its one watcher. -/
namespace Go.Proofs.YtckdpejdnejhfaaGreat.Fd
open Go.RowKit
open Go.Proofs.YtckdpejdnejhfaaGreat.Vb Go.Proofs.YtckdpejdnejhfaaGreat.Ac Go.Proofs.YtckdpejdnejhfaaGreat.Ho
attribute [local go_sem] Oper.semAt_some

/-- the feed's Do by what do does -/
theorem fdo_any {W : World} {f h : Nat} (h0 : W.cell? ⟨f, 0, none⟩ = some (.pointer (some ⟨h, 0, none⟩))) (hfl : f < W.heap.size) (o : OrderR) (vo : Value) (a : AnsR) {Q : World → Prop}
    (hD : ∀ U, Below W.heap.size W U → W.heap.size + 1 < U.heap.size → Calls Tryz.prog 33 #[.pointer (some ⟨h, 0, none⟩), o.agg vo, .func (.func 35) #[.pointer (some ⟨f, 0, none⟩)] #[]] U fun e W' => e = .returned a.agg ∧ U.heap.size ≤ W'.heap.size ∧ W'.heap[W.heap.size + 1]? = U.heap[W.heap.size + 1]? ∧ Q W')
    (hQ : ∀ V V', Q V → Chg (· = W.heap.size + 1) V V' → Q V') :
    Calls Tryz.prog 15 #[.pointer (some ⟨f, 0, none⟩), o.agg vo] W fun e W' => e = .returned a.agg ∧ Q W' := by
  obtain ⟨okind, oname, ocoins, obidder, olot, ⟨kind, opens, closes, start, step, extend, last, floor, fall, count, rule⟩, ooff, otick⟩ := o
  obtain ⟨an, ae, av⟩ := a
  simp only [OrderR.agg, OrderR.cells, LotR.cells, List.cons_append, List.nil_append] at hD ⊢
  obtain ⟨W1, hW1⟩ : ∃ W1, W1 = (W.alloc (.cells #[.int .i64 okind, .string oname, .int .i64 ocoins, .int .i64 obidder, .int .i64 olot, .int .i64 kind, .int .i64 opens, .int .i64 closes, .int .i64 start, .int .i64 step, .int .i64 extend, .int .i64 last, .int .i64 floor, .int .i64 fall, .int .i64 count, .int .i64 rule, vo, .int .i64 otick] 61)).alloc (.cells #[.int .i64 0, .int .i64 0, .int .i64 0] 52) := ⟨_, rfl⟩
  have hb1 : Below W.heap.size W W1 := by rw [hW1]; exact ((Below.refl _ _).alloc (Nat.le_refl _) _).alloc (by simp) _
  have HX1 := Lib.hid (show Ac.Blk W1 W.heap.size 61 #[.int .i64 okind, .string oname, .int .i64 ocoins, .int .i64 obidder, .int .i64 olot, .int .i64 kind, .int .i64 opens, .int .i64 closes, .int .i64 start, .int .i64 step, .int .i64 extend, .int .i64 last, .int .i64 floor, .int .i64 fall, .int .i64 count, .int .i64 rule, vo, .int .i64 otick] by rw [hW1]; exact (Ac.Blk.new W _ _).alloc _)
  have HZ1 := Lib.hid (show Ac.Blk W1 (W.heap.size + 1) 52 #[.int .i64 0, .int .i64 0, .int .i64 0] by rw [hW1]; exact Ac.Blk.new' _ _ (by simp))
  have u0 := (hb1.cell (p := ⟨f, 0, none⟩) hfl).trans h0
  have HT := Lib.hid (fthere_ok u0)
  have lf := Nat.lt_of_lt_of_le hfl hb1.size
  have HB1 := Lib.hid hb1
  have HD := Lib.hid hD
  have HQ := Lib.hid hQ
  clear hb1 h0 hfl hD hQ
  go_enter Tryz.func15, Tryz.ntmps15
  go_wp2_with fail
  rw [← hW1]
  clear hW1
  refine HT.out.mono ?_
  rintro e W2 ⟨rfl, hw2⟩
  rw [hw2]
  clear hw2
  go_wp2_with fail
  refine wp_region_F (Below W1.heap.size W1) [7, 8] (by kernel_rfl) ((Below.refl _ _).drew) (fun hS => ?_)
  refine tpD [1, 2, 3, 7, 8] 0 hS ?_
  refine tpD [2, 3, 7, 8] 1 hS ?_
  refine tpD [3, 7, 8] 2 hS ?_
  have qq := Lib.hid fun (w' : World) (hSw : (Below W1.heap.size W1) w') => (hSw.cell (p := ⟨f, 0, none⟩) lf).trans u0
  refine tl 3 hS qq ?_
  refine tx 4 (v := ?_) hS ?_ ?_
  rotate_left
  · intro w' hSw; refine Eq.trans (exec_load_row 61 (.tmp 3) (by rfl) W.heap.size (by rfl) 61 #[.int .i64 okind, .string oname, .int .i64 ocoins, .int .i64 obidder, .int .i64 olot, .int .i64 kind, .int .i64 opens, .int .i64 closes, .int .i64 start, .int .i64 step, .int .i64 extend, .int .i64 last, .int .i64 floor, .int .i64 fall, .int .i64 count, .int .i64 rule, vo, .int .i64 otick] (0, 0) _ (HX1.out.grow hSw) Tryz.underlying61 rfl (by kernel_rfl)) ?_; with_reducible rfl
  refine tpD [6, 7, 8] 5 hS ?_
  refine tl 6 hS qq ?_
  refine stf 7 fun K hK => ?_
  go_simp
  refine (HD.out W1.drew (HB1.out.trans (hS.mono HB1.out.size)) HZ1.out.lt).mono ?_
  rintro e W3 ⟨rfl, hsz, hblk, hq⟩
  have hz3 : Ac.Blk W3 (W.heap.size + 1) 52 #[.int .i64 0, .int .i64 0, .int .i64 0] := hblk.trans (HZ1.out.grow hS)
  have z0 : W3.cell? ⟨W.heap.size + 1, 0, none⟩ = some (.int .i64 0) := hz3.cell 0
  have z1 : W3.cell? ⟨W.heap.size + 1, 1, none⟩ = some (.int .i64 0) := hz3.cell 1
  have z2 : W3.cell? ⟨W.heap.size + 1, 2, none⟩ = some (.int .i64 0) := hz3.cell 2
  have zf := hz3.frozen
  have HZ3 := Lib.hid hz3
  have HQ3 := Lib.hid hq
  clear hz3 hblk hq hsz
  refine hK.out _ _ ?_
  clear hK K
  try simp only [Act.put, pb, pz, ps]
  refine stf 8 fun K hK => ?_
  go_simp
  refine hK.out _ _ ?_
  clear hK K
  try simp only [Act.put, pb, pz, ps]
  refine wpAnyF_done (by kernel_rfl) ?_ _
  go_wp2_with fail
  have hst := ((Chg.set W3 ⟨W.heap.size + 1, 0, none⟩ (.int .i64 an)).trans (Chg.set _ ⟨W.heap.size + 1, 1, none⟩ (.int .i64 ae))).trans (Chg.set _ ⟨W.heap.size + 1, 2, none⟩ (.int .i64 av))
  have hfin := ((HZ3.out.set_ 0 (.int .i64 an)).set_ 1 (.int .i64 ae)).set_ 2 (.int .i64 av)
  refine bodyPost_ret (results_cell_row rfl _ _ (W.heap.size + 1) 52 #[.int .i64 an, .int .i64 ae, .int .i64 av] (0, 0) _ rfl hfin Tryz.underlying52 rfl (by kernel_rfl)) rfl ⟨rfl, HQ.out _ _ HQ3.out hst⟩
end Go.Proofs.YtckdpejdnejhfaaGreat.Fd

/- Feed: (*Feed).Do with one watcher. -/
namespace Go.Proofs.YtckdpejdnejhfaaGreat.Fd
open Go.RowKit
open Go.Proofs.YtckdpejdnejhfaaGreat.Vb Go.Proofs.YtckdpejdnejhfaaGreat.Ac Go.Proofs.YtckdpejdnejhfaaGreat.Ho

theorem tell_missed (w : WatR) (h : 0 ≤ w.missed) (e : EvR) : 0 ≤ (w.tell e).missed ∧ (w.tell e).missed ≤ w.missed + 1 := by
  unfold WatR.tell
  split
  · exact ⟨Int.le_refl _, by show (0 : Int) ≤ _; omega⟩
  · exact ⟨by show (0 : Int) ≤ w.missed + 1; omega, by show w.missed + 1 ≤ _; omega⟩
theorem tells_missed : ∀ (s : List EvR) (w : WatR), 0 ≤ w.missed → 0 ≤ (s.foldl WatR.tell w).missed ∧ (s.foldl WatR.tell w).missed ≤ w.missed + s.length
  | [], w, h => ⟨h, by simp⟩
  | e :: s, w, h => by
    have h1 := tell_missed w h e
    have h2 := tells_missed s (w.tell e) h1.1
    simp only [List.foldl_cons, List.length_cons]
    omega
def OneJ (f h b c : Nat) (v : Value) (came : Int) (w : WatR) (Z : Nat → Prop) (s : List EvR) (W : World) : Prop :=
  OneAt W f h b c v (came + s.length) (s.foldl WatR.tell w) ∧ Z f ∧ Z b ∧ Z c ∧ ∀ x, v.ownBlock = some x → Z x
theorem OneAt.chg {W W' : World} {f h b c : Nat} {v : Value} {came : Int} {w : WatR} {X : Nat → Prop} (hO : OneAt W f h b c v came w) (hc : Chg X W W') (hf : ¬ X f) (hb : ¬ X b) (hr : ¬ X c) (hv : ∀ x, v.ownBlock = some x → ¬ X x) : OneAt W' f h b c v came w :=
  ⟨⟨hO.feed.blk.chg hc hf, hO.feed.row.chgB hc hv⟩, hO.wat.chg hc hb hr, hO.ne⟩
theorem OneAt.grow {W W' : World} {f h b c : Nat} {v : Value} {came : Int} {w : WatR} (hO : OneAt W f h b c v came w) (hb : Below W.heap.size W W') : OneAt W' f h b c v came w :=
  hO.chg (Chg.of (fun _ => False) hb) id id id fun _ _ => id
theorem tells_one {f h b c : Nat} {v : Value} {came : Int} {w : WatR} {N : Nat} (hc : 0 ≤ came ∧ came + N ≤ 1000000000) (hm : 0 ≤ w.missed ∧ w.missed + N ≤ 1000000000) :
    Tells 35 #[.pointer (some ⟨f, 0, none⟩)] #[] N (OneJ f h b c v came w) where
  code := enters_of Tryz.func35 (by kernel_rfl) rfl
  mono := fun {Z Z' s W} hJ hZ => ⟨hJ.1, hZ _ hJ.1.feed.blk.lt hJ.2.1, hZ _ hJ.1.wat.blk.lt hJ.2.2.1, hZ _ hJ.1.wat.room.lt hJ.2.2.2.1, fun x hx => hZ x (hJ.1.feed.row.lt hx) (hJ.2.2.2.2 x hx)⟩
  keep := fun {Z s W W' X} hJ hX hn => ⟨hJ.1.chg hX (hn _ hJ.1.feed.blk.lt hJ.2.1) (hn _ hJ.1.wat.blk.lt hJ.2.2.1) (hn _ hJ.1.wat.room.lt hJ.2.2.2.1) fun x hx => hn x (hJ.1.feed.row.lt hx) (hJ.2.2.2.2 x hx), hJ.2⟩
  call := fun {Z s W} e hJ hs => by
    have h1 := tells_missed s w hm.1
    rw [show (#[Value.pointer (some ⟨f, 0, none⟩)].push e.agg ++ #[]) = #[.pointer (some ⟨f, 0, none⟩), e.agg] by simp]
    refine (tell_one hJ.1 e (by omega) (by omega)).mono ?_
    rintro ex W' ⟨rfl, hO, hC⟩
    refine ⟨rfl, ⟨?_, .inl hJ.2.1, .inl hJ.2.2.1, .inl hJ.2.2.2.1, fun x hx => .inl (hJ.2.2.2.2 x hx)⟩, hC.mono fun x _ hx => ?_⟩
    · rw [List.foldl_append, List.length_append]
      have h2 : came + s.length + 1 = came + ((s.length + [e].length : Nat) : Int) := by simp; omega
      rw [← h2]
      exact hO
    · rcases hx with rfl | rfl | rfl
      · exact hJ.2.1
      · exact hJ.2.2.1
      · exact hJ.2.2.2.1
/-- the events of an order, whatever was answered -/
def evsA (H H' : House) (o : OrderR) (a : AnsR) : List EvR := if a.err = 0 then evs28 H H' o a else []
/-- none of a feed's blocks is the house's -/
structure OneNo (T : Nat → Part) (f b c : Nat) (v : Value) : Prop where
  f : T f = .no
  b : T b = .no
  c : T c = .no
  v : ∀ x, v.ownBlock = some x → T x = .no
def OneX (T : Nat → Part) (f b c : Nat) (v : Value) : Nat → Prop := fun x => Ho.Own T x ∨ (x = f ∨ x = b ∨ x = c ∨ v.ownBlock = some x)
theorem fdo_one {W : World} {T : Nat → Part} {f h b c K K' : Nat} {H H' : House} {v : Value} {came : Int} {w : WatR} (hH : HouseIn W T h K H) (hl : H.sales.length ≤ 1000000) (hl' : H'.sales.length ≤ 1000000) (hO : OneAt W f h b c v came w) (hT : OneNo T f b c v)
    (o : OrderR) {A : Option Addr} {cp : Nat} {a : AnsR} (hD : DoesAt W T h K' H' o A cp a) (hc : 0 ≤ came ∧ came + (evsA H H' o a).length ≤ 1000000000) (hm : 0 ≤ w.missed ∧ w.missed + (evsA H H' o a).length ≤ 1000000000) :
    Calls Tryz.prog 15 #[.pointer (some ⟨f, 0, none⟩), o.agg (.slice A o.offers.length cp)] W fun e W' => e = .returned a.agg ∧ ∃ T', HouseIn W' T' h K' H' ∧ (∀ x, x < W.heap.size → T' x = T x) ∧ T' (W.heap.size + 1) = .no ∧
      Chg (OneX T f b c v) W W' ∧ OneAt W' f h b c v (came + (evsA H H' o a).length) ((evsA H H' o a).foldl WatR.tell w) := by
  have hno : ∀ b, W.heap.size ≤ b → T b = .no := by obtain ⟨_, _, _, _, _, _, hA⟩ := id hH; exact hA.out
  have hfl := hO.feed.blk.lt
  have hbl := hO.wat.blk.lt
  have hcl := hO.wat.room.lt
  refine fdo_any (h := h) (hO.feed.blk.cell 0) hfl o _ a (Q := fun W' => ∃ T', HouseIn W' T' h K' H' ∧ (∀ x, x < W.heap.size → T' x = T x) ∧ T' (W.heap.size + 1) = .no ∧
      Chg (OneX T f b c v) W W' ∧ OneAt W' f h b c v (came + (evsA H H' o a).length) ((evsA H H' o a).foldl WatR.tell w)) (fun U hU hUs => ?_) fun V V' hq hV => ?_
  · by_cases ha : a.err = 0
    · have he : evsA H H' o a = evs28 H H' o a := if_pos ha
      rw [he] at hc hm ⊢
      refine (do28_ok (Z := fun x => x = f ∨ x = b ∨ x = c ∨ v.ownBlock = some x) (s := []) (hH.grow hU) hl hl' o (a := a) (fun W1 h1 => hD W1 (hU.trans (h1.mono hU.size))) ha (tells_one hc hm) ⟨by simpa using hO.grow hU, .inl rfl, .inr (.inl rfl), .inr (.inr (.inl rfl)), fun x hx => .inr (.inr (.inr hx))⟩ (fun x _ hx => ?_) (by simp)).mono ?_
      · rcases hx with rfl | rfl | rfl | hx
        · exact hT.f
        · exact hT.b
        · exact hT.c
        · exact hT.v x hx
      · rintro e W' ⟨rfl, T', h1, h2, h3, h4⟩
        have h5 := h4.1
        rw [List.nil_append] at h5
        have hn1 := hno (W.heap.size + 1) (by omega)
        refine ⟨rfl, h3.size, h3.block _ hUs fun hx => ?_, T', h1, fun x hx => h2 x (Nat.lt_of_lt_of_le hx hU.size), (h2 _ hUs).trans hn1, (Chg.of _ hU).step h3 fun x hx he => he, h5⟩
        rcases hx with hx | hx | hx | hx | hx
        · exact hx.2 hn1
        · omega
        · omega
        · omega
        · have := hO.feed.row.lt hx; omega
    · have he : evsA H H' o a = [] := if_neg ha
      rw [he]
      refine (do28_err (hH.grow hU) hl o (a := a) (fun W1 h1 => hD W1 (hU.trans (h1.mono hU.size))) ha _ _ _).mono ?_
      rintro e W' ⟨rfl, T', h1, h2⟩
      have hn1 := hno (W.heap.size + 1) (by omega)
      refine ⟨rfl, h2.chg.size, h2.chg.block _ hUs fun hx => hx.2 hn1, T', h1, fun x hx => h2.tag x (Nat.lt_of_lt_of_le hx hU.size), (h2.tag _ hUs).trans hn1, (Chg.of _ hU).step h2.chg fun x hx he => .inl he, ?_⟩
      have h5 := (hO.grow hU).chg h2.chg (fun e => e.2 hT.f) (fun e => e.2 hT.b) (fun e => e.2 hT.c) fun x hx e => e.2 (hT.v x hx)
      simpa using h5
  · obtain ⟨T', h1, h2, h3, h4, h5⟩ := hq
    refine ⟨T', h1.keep hV fun x hx e => hx (e ▸ h3), h2, h3, h4.step hV fun x hx e => by omega, h5.chg hV (by omega) (by omega) (by omega) fun x hx e => ?_⟩
    have := hO.feed.row.lt hx
    omega
end Go.Proofs.YtckdpejdnejhfaaGreat.Fd

/- Feed: the known run's orders: plainly, and what each does. -/
namespace Go.Proofs.YtckdpejdnejhfaaGreat.Fd
open Go.RowKit
open Go.Proofs.YtckdpejdnejhfaaGreat.Vb Go.Proofs.YtckdpejdnejhfaaGreat.Ac Go.Proofs.YtckdpejdnejhfaaGreat.Ho

def sA : ByteArray := { data := #[97] }
def s0 : ByteArray := { data := #[] }
def zLot : LotR := ⟨0, 0, 0, 0, 0, 0, 0, 0, 0, 0, 0⟩
def gO0 : OrderR := ⟨1, sA, 5, 0, 0, zLot, [], 0⟩
def gO1 : OrderR := ⟨2, s0, 2, 0, 0, zLot, [], 0⟩
def gO2 : OrderR := ⟨6, s0, 0, 0, 0, zLot, [], 3⟩
def gS1 : House := ⟨[sA], [⟨5, 0, []⟩], [], 0, [gO0], [], fun _ => none⟩
def gS2 : House := ⟨[sA], [⟨7, 0, []⟩], [], 0, [gO0, gO1], [], fun _ => none⟩
def gS3 : House := ⟨[sA], [⟨7, 0, []⟩], [], 3, [gO0, gO1, gO2], [], laterD (fun _ => none) 3⟩
theorem gAcc (v : Int) (h : 0 ≤ v ∧ v ≤ 100) : Acc.Ok ⟨v, 0, []⟩ := ⟨by unfold coin; simp only; omega, by unfold coin; simp only; omega, List.Pairwise.nil, fun p hp => by simp at hp, by simp [sumM]⟩
section
variable {W : World} {T : Nat → Part} {h : Nat}
theorem o_nil (W : World) (R : Nat → Prop) : Offs W R (.slice none 0 0) [] := ⟨Sl.none0 _ _ _, fun o h => by cases h⟩
theorem gDo0 (hH : HouseIn W T h 0 emptyH) : DoesAt W T h 0 gS1 gO0 none 0 ⟨0, 0, 0⟩ := fun W1 hb => by
  refine (do_ok 1 (by decide) (by decide) (hH.grow hb) gO0 (A := none) (c := 0) rfl rfl (R := fun _ => False) (o_nil _ _) (fun b _ hr => hr.elim) (Nat.zero_le _) (K' := 0) (H1 := enterH emptyH 5 sA) (v := 0) (Nat.zero_le _) fun W2 h1 _ => ?_).mono ?_
  · obtain ⟨pn, pc, va, vl, vb, vs, h1⟩ := h1
    exact henter_ok h1 rfl gO0 _ (by decide) (by decide)
  · rintro e W' ⟨rfl, T', h2, h3⟩
    exact ⟨rfl, T', h2, h3⟩
theorem gDo1 (hH : HouseIn W T h 0 gS1) : DoesAt W T h 0 gS2 gO1 none 0 ⟨1, 0, 7⟩ := fun W1 hb => by
  refine (do_ok 2 (by decide) (by decide) (hH.grow hb) gO1 (A := none) (c := 0) rfl rfl (R := fun _ => False) (o_nil _ _) (fun b _ hr => hr.elim) (Nat.zero_le _) (K' := 0) (H1 := broughtH gS1 0 2) (v := 7) (by decide) fun W2 h1 _ => ?_).mono ?_
  · obtain ⟨pn, pc, va, vl, vb, vs, h1⟩ := h1
    exact hbring_ok h1 (fun a ha => by
      simp only [gS1, List.mem_cons, List.not_mem_nil, or_false] at ha
      subst ha
      exact gAcc 5 (by omega)) gO1 _ (by decide)
  · rintro e W' ⟨rfl, T', h2, h3⟩
    exact ⟨rfl, T', h2, h3⟩
theorem gDo2 (hH : HouseIn W T h 0 gS2) : DoesAt W T h 0 gS3 gO2 none 0 ⟨2, 0, 0⟩ := fun W1 hb => by
  refine (do_ok 6 (by decide) (by decide) (hH.grow hb) gO2 (A := none) (c := 0) rfl rfl (R := fun _ => False) (o_nil _ _) (fun b _ hr => hr.elim) (Nat.zero_le _) (K' := 0) (H1 := { gS2 with now := 3, due := laterD (fun _ => none) 3 }) (v := 0) (by decide) fun W2 h1 _ => ?_).mono ?_
  · obtain ⟨pn, pc, va, vl, vb, vs, h1⟩ := h1
    refine (htime_ok (f := fun l => (l, [])) h1 gO2 _ (by decide) (by decide) ?_ (fun a ha => ?_) (by decide) (by decide) (by decide) fun l hl _ _ => by cases hl).mono ?_
    · funext n
      unfold dueOf
      simp [gS2]
    · simp only [gS2, List.mem_cons, List.not_mem_nil, or_false] at ha
      subst ha
      exact ⟨gAcc 7 (by omega), by simp [Acc.Fine, sumM]⟩
    · rintro e W' ⟨ds, T', rfl, hd, h2, h3⟩
      have hds : ds = [] := List.eq_nil_iff_forall_not_mem.2 fun d hd2 => by
        have := (hd.mem d).1 hd2
        simp [gS2] at this
      subst hds
      exact ⟨rfl, T', h2, h3⟩
  · rintro e W' ⟨rfl, T', h2, h3⟩
    exact ⟨rfl, T', h2, h3⟩
end
end Go.Proofs.YtckdpejdnejhfaaGreat.Fd

/- Feed: a house, its feed, one watcher: what each call leaves. -/
namespace Go.Proofs.YtckdpejdnejhfaaGreat.Fd
open Go.RowKit
open Go.Proofs.YtckdpejdnejhfaaGreat.Vb Go.Proofs.YtckdpejdnejhfaaGreat.Ac Go.Proofs.YtckdpejdnejhfaaGreat.Ho

structure St (W : World) (T : Nat → Part) (lo h f b c : Nat) (v : Value) (K : Nat) (H : House) (came : Int) (w : WatR) : Prop where
  house : HouseIn W T h K H
  one : OneAt W f h b c v came w
  no : OneNo T f b c v
  lo : (f < lo ∧ b < lo ∧ c < lo ∧ ∀ x, v.ownBlock = some x → x < lo) ∧ lo ≤ W.heap.size
section
variable {W W' : World} {T : Nat → Part} {lo h f b c K K' : Nat} {v : Value} {H H' : House} {came : Int} {w : WatR}
theorem St.grow (h0 : St W T lo h f b c v K H came w) (hb : Below W.heap.size W W') : St W' T lo h f b c v K H came w :=
  ⟨h0.house.grow hb, h0.one.grow hb, h0.no, h0.lo.1, Nat.le_trans h0.lo.2 hb.size⟩
theorem St.out (h0 : St W T lo h f b c v K H came w) {x : Nat} (hx : W.heap.size ≤ x) : T x = .no := by
  obtain ⟨_, _, _, _, _, _, hA⟩ := h0.house
  exact hA.out x hx
/-- a block of the caller's own, laid behind the watcher -/
theorem St.far (h0 : St W T lo h f b c v K H came w) {x : Nat} (hx : lo ≤ x) (ht : T x = .no) : ¬ OneX T f b c v x := by
  obtain ⟨⟨h1, h2, h3, h4⟩, _⟩ := h0.lo
  rintro (e | e | e | e | e)
  · exact e.2 ht
  · omega
  · omega
  · omega
  · have := h4 x e; omega
theorem St.take (h0 : St W T lo h f b c v K H came w) (hq : ChanAt W' c w.room w.queue.tail) (hc : Chg (· = c) W W') : St W' T lo h f b c v K H came { w with queue := w.queue.tail } :=
  ⟨h0.house.keep hc fun x hx e => hx (e ▸ h0.no.c), ⟨⟨h0.one.feed.blk.chg hc h0.one.ne.2.1, h0.one.feed.row.chg hc fun x _ hr => hr.2.2⟩, ⟨h0.one.wat.blk.chg hc h0.one.ne.2.2, hq⟩, h0.one.ne⟩, h0.no, h0.lo.1, Nat.le_trans h0.lo.2 hc.size⟩
theorem St.do (h0 : St W T lo h f b c v K H came w) (hl : H.sales.length ≤ 1000000) (hl' : H'.sales.length ≤ 1000000) (o : OrderR) {A : Option Addr} {cp : Nat} {a : AnsR} (hD : DoesAt W T h K' H' o A cp a)
    (hc : 0 ≤ came ∧ came + (evsA H H' o a).length ≤ 1000000000) (hm : 0 ≤ w.missed ∧ w.missed + (evsA H H' o a).length ≤ 1000000000) :
    Calls Tryz.prog 15 #[.pointer (some ⟨f, 0, none⟩), o.agg (.slice A o.offers.length cp)] W fun e W' => e = .returned a.agg ∧ ∃ T', St W' T' lo h f b c v K' H' (came + (evsA H H' o a).length) ((evsA H H' o a).foldl WatR.tell w) ∧
      (∀ x, x < W.heap.size → T' x = T x) ∧ Chg (OneX T f b c v) W W' := by
  refine (fdo_one h0.house hl hl' h0.one h0.no o hD hc hm).mono ?_
  rintro e W' ⟨rfl, T', h1, h2, _, h4, h5⟩
  obtain ⟨⟨l1, l2, l3, l4⟩, l5⟩ := h0.lo
  refine ⟨rfl, T', ⟨h1, h5, ⟨(h2 f (by omega)).trans h0.no.f, (h2 b (by omega)).trans h0.no.b, (h2 c (by omega)).trans h0.no.c, fun x hx => (h2 x ?_).trans (h0.no.v x hx)⟩, ⟨l1, l2, l3, l4⟩, Nat.le_trans l5 h4.size⟩, h2, h4⟩
  have := l4 x hx
  omega
/-- behind the first Watch -/
theorem St.new {W1 W2 W3 : World} {m : Nat} {v' : Value} (hH : HouseIn W1 T h K H) (h12 : Below W1.heap.size W1 W2) (hfs : W1.heap.size ≤ f) (hF : FeedAt W2 (fun _ => False) f h (.slice none 0 0) [] 0)
    (hF3 : FeedAt W3 (fun x => (False ∧ x < W2.heap.size) ∨ (W2.heap.size ≤ x ∧ x ≠ b ∧ x ≠ c)) f h v' ([] ++ [b]) 0) (hW3 : WatAt W3 f b c ⟨m, [], 0⟩) (hb : W2.heap.size ≤ b) (hc : W2.heap.size ≤ c) (hbc : b ≠ c)
    (h23 : Chg (fun x => x = f ∨ (Value.slice none 0 0).ownBlock = some x) W2 W3) : St W3 T W3.heap.size h f b c v' K H 0 ⟨m, [], 0⟩ := by
  have hno : ∀ b, W1.heap.size ≤ b → T b = .no := by obtain ⟨_, _, _, _, _, _, hA⟩ := id hH; exact hA.out
  have hs := h12.size
  have hfl := hF.blk.lt
  refine ⟨(hH.grow h12).keep h23 fun x hx e => ?_, ⟨⟨hF3.blk, hF3.row.mono fun x _ hr => ?_⟩, hW3, by omega, by omega, hbc⟩, ⟨hno f hfs, hno b (by omega), hno c (by omega), fun x hx => ?_⟩, ⟨hF3.blk.lt, hW3.blk.lt, hW3.room.lt, fun x hx => hF3.row.lt hx⟩, Nat.le_refl _⟩
  · rcases e with rfl | e
    · exact hx (hno x hfs)
    · cases e
  · rcases hr with hr | hr
    · exact hr.1.elim
    · exact ⟨by omega, hr.2.1, hr.2.2⟩
  · rcases hF3.row.blk x hx with hr | hr
    · exact hr.1.elim
    · exact hno x (by omega)
/-- nothing below B is the house's or the feed's -/
structure Base (B : Nat) (T : Nat → Part) (f b c : Nat) (v : Value) : Prop where
  no : ∀ x, x < B → T x = .no
  f : B ≤ f
  b : B ≤ b
  c : B ≤ c
  v : ∀ x, v.ownBlock = some x → B ≤ x
theorem Base.tags {B : Nat} {T' : Nat → Part} (h0 : Base B T f b c v) (hB : B ≤ W.heap.size) (ht : ∀ x, x < W.heap.size → T' x = T x) : Base B T' f b c v :=
  ⟨fun x hx => (ht x (by omega)).trans (h0.no x hx), h0.f, h0.b, h0.c, h0.v⟩
theorem Base.below {B : Nat} (h0 : Base B T f b c v) (hB : B ≤ W.heap.size) (hc : Chg (OneX T f b c v) W W') : Below B W W' := hc.below hB fun k hk e => by
  have h1 := h0.f
  have h2 := h0.b
  have h3 := h0.c
  rcases e with e | e | e | e | e
  · exact e.2 (h0.no k hk)
  · omega
  · omega
  · omega
  · have := h0.v k e; omega
theorem Base.belowC {B : Nat} (h0 : Base B T f b c v) (hB : B ≤ W.heap.size) (hc : Chg (· = c) W W') : Below B W W' := h0.below hB (hc.mono fun _ _ e => .inr (.inr (.inr (.inl e))))
theorem Base.new {B : Nat} {W2 W3 : World} (hno : ∀ x, x < B → T x = .no) (hB : B ≤ W2.heap.size) (hf : B ≤ f) (hb : W2.heap.size ≤ b) (hc : W2.heap.size ≤ c) (hF3 : FeedAt W3 (fun x => (False ∧ x < W2.heap.size) ∨ (W2.heap.size ≤ x ∧ x ≠ b ∧ x ≠ c)) f h v ([] ++ [b]) 0) : Base B T f b c v :=
  ⟨hno, hf, by omega, by omega, fun x hx => by
    rcases hF3.row.blk x hx with hr | hr
    · exact hr.1.elim
    · omega⟩
end
def gE0 : EvR := ⟨1, 0, 0, 0, 5, 0⟩
def gE2 : EvR := ⟨6, 2, 0, 0, 0, 3⟩
theorem gEv0 : evsA emptyH gS1 gO0 ⟨0, 0, 0⟩ = [gE0] := rfl
theorem gEv1 : evsA gS1 gS2 gO1 ⟨1, 0, 7⟩ = [⟨2, 1, 0, 0, 2, 0⟩] := rfl
theorem gEv2 : evsA gS2 gS3 gO2 ⟨2, 0, 0⟩ = [gE2] := rfl
section
variable {W : World} {T : Nat → Part} {lo h f b c : Nat} {v : Value}
theorem gStep0 (h0 : St W T lo h f b c v 0 emptyH 0 ⟨1, [], 0⟩) : Calls Tryz.prog 15 #[.pointer (some ⟨f, 0, none⟩), .agg #[.int .i64 1, .string { data := #[97] }, .int .i64 5, .int .i64 0, .int .i64 0, .int .i64 0, .int .i64 0, .int .i64 0, .int .i64 0, .int .i64 0, .int .i64 0, .int .i64 0, .int .i64 0, .int .i64 0, .int .i64 0, .int .i64 0, .slice none 0 0, .int .i64 0]] W fun e W' =>
    e = .returned (ansV 0 0 0) ∧ ∃ T', St W' T' lo h f b c v 0 gS1 1 ⟨1, [⟨gE0, 0⟩], 0⟩ ∧ (∀ x, x < W.heap.size → T' x = T x) ∧ Chg (OneX T f b c v) W W' := by
  have h1 := h0.do (by decide) (by decide) gO0 (gDo0 h0.house) (by rw [gEv0]; decide) (by rw [gEv0]; decide)
  rw [gEv0] at h1
  exact h1
theorem gStep1 (h0 : St W T lo h f b c v 0 gS1 1 ⟨1, [⟨gE0, 0⟩], 0⟩) : Calls Tryz.prog 15 #[.pointer (some ⟨f, 0, none⟩), .agg #[.int .i64 2, .string { data := #[] }, .int .i64 2, .int .i64 0, .int .i64 0, .int .i64 0, .int .i64 0, .int .i64 0, .int .i64 0, .int .i64 0, .int .i64 0, .int .i64 0, .int .i64 0, .int .i64 0, .int .i64 0, .int .i64 0, .slice none 0 0, .int .i64 0]] W fun e W' =>
    e = .returned (ansV 1 0 7) ∧ ∃ T', St W' T' lo h f b c v 0 gS2 2 ⟨1, [⟨gE0, 0⟩], 1⟩ ∧ (∀ x, x < W.heap.size → T' x = T x) ∧ Chg (OneX T f b c v) W W' := by
  have h1 := h0.do (by decide) (by decide) gO1 (gDo1 h0.house) (by rw [gEv1]; decide) (by rw [gEv1]; decide)
  rw [gEv1] at h1
  exact h1
theorem gStep2 (h0 : St W T lo h f b c v 0 gS2 2 ⟨1, [], 1⟩) : Calls Tryz.prog 15 #[.pointer (some ⟨f, 0, none⟩), .agg #[.int .i64 6, .string { data := #[] }, .int .i64 0, .int .i64 0, .int .i64 0, .int .i64 0, .int .i64 0, .int .i64 0, .int .i64 0, .int .i64 0, .int .i64 0, .int .i64 0, .int .i64 0, .int .i64 0, .int .i64 0, .int .i64 0, .slice none 0 0, .int .i64 3]] W fun e W' =>
    e = .returned (ansV 2 0 0) ∧ ∃ T', St W' T' lo h f b c v 0 gS3 3 ⟨1, [⟨gE2, 1⟩], 0⟩ ∧ (∀ x, x < W.heap.size → T' x = T x) ∧ Chg (OneX T f b c v) W W' := by
  have h1 := h0.do (by decide) (by decide) gO2 (gDo2 h0.house) (by rw [gEv2]; decide) (by rw [gEv2]; decide)
  rw [gEv2] at h1
  exact h1
end
end Go.Proofs.YtckdpejdnejhfaaGreat.Fd

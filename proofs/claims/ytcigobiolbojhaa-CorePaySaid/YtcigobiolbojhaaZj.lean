/- Joined by program: Goes RangeV Iter18 Pay18 PlainG RefSteps RefPay Lent. -/
import Derived.Test.YtcigobiolbojhaaZi
import Derived.Test.YtcigobiolbojhaaZh
import Derived.Test.YtcigobiolbojhaaZd
/- Law 17's own: goes. -/
namespace Go.Proofs.Ytcigobiolbojhaa.Vb
open Go.RowKit Go.Shelf
attribute [local go_sem] Oper.semAt_some

theorem sl_kept {W W' : World} {row : Option Nat} {R : Nat → Prop} {v : Value} {n sz : Nat} {xs : List Value} (h : Sl W R v n sz xs) (hg : W.grownBy W' row) (hr : ∀ r, row = some r → ∃ o : Obj, W.heap[r]? = some o ∧ o.isCells = false) : Sl W' R v n sz xs := by
  obtain ⟨hl, A, cap, rfl, h1, h2, h3⟩ := h
  refine ⟨hl, A, cap, rfl, h1, h2, fun hn => ?_⟩
  obtain ⟨b, off, rfl, hb, hlt, hc⟩ := h3 hn
  exact ⟨b, off, rfl, hb, Nat.lt_of_lt_of_le hlt hg.size, fun j u hu => cell_kept (hc j u hu) hg hr⟩
theorem Sl.ltB {w : World} {R : Nat → Prop} {v : Value} {n sz : Nat} {xs : List Value} (h : Sl w R v n sz xs) : Sl w (· < w.heap.size) v n sz xs := h.mono fun _ hlt _ => hlt
theorem Sl.set {W : World} {R : Nat → Prop} {v : Value} {n sz : Nat} {xs : List Value} (h : Sl W R v n sz xs) {p : Addr} (hp : ¬ R p.block) (u : Value) : Sl (W.setCell p u) R v n sz xs :=
  h.keep (by simp [World.setCell]) fun b _ hr => Below.heap_setCell W p u b (fun e => hp (by rw [← e]; exact hr))

/-- between two rounds -/
structure GoesI (B bn m c' : Nat) (A' : Option Addr) (pv : Value) (L : List (Int × Int)) (ps : List Int) (leave : Int) (pre : List (Int × Int)) (W : World) : Prop where
  pre_ : pre <+: L
  p2 : W.cell? ⟨B, 2, none⟩ = some pv
  lv : W.cell? ⟨B + 1, 0, none⟩ = some (.int .i64 leave)
  rs : W.cell? ⟨B + 2, 0, none⟩ = some (.bool false)
  rf : W.frozen? ⟨B + 2, 0, none⟩ = false
  wh : W.cell? ⟨B + 3, 0, none⟩ = some (.slice A' L.length c')
  nn : W.cell? ⟨bn, 0, none⟩ = some (.int .i64 pre.length)
  nf : W.frozen? ⟨bn, 0, none⟩ = false
  row : Sl W (fun b => b ≠ bn ∧ b ≠ B + 2) (.slice A' L.length c') L.length 1 (ints (L.map (·.1)))
  pay : Sl W (fun b => b ≠ bn ∧ b ≠ B + 2) pv m 1 (ints ps)
theorem GoesI.own (B bn m c' : Nat) (A' : Option Addr) (pv : Value) (L : List (Int × Int)) (ps : List Int) (leave : Int) : Own (GoesI B bn m c' A' pv L ps leave) :=
  fun _ _ _ _ h hg hr => ⟨h.pre_, cell_kept h.p2 hg hr, cell_kept h.lv hg hr, cell_kept h.rs hg hr, (frozen_kept h.rs hg hr).trans h.rf, cell_kept h.wh hg hr, cell_kept h.nn hg hr, (frozen_kept h.nn hg hr).trans h.nf, sl_kept h.row hg hr, sl_kept h.pay hg hr⟩

theorem prefix_snoc {α : Type} {pre L : List α} {y : α} (h : pre <+: L) (hy : L[pre.length]? = some y) : pre ++ [y] <+: L := by
  obtain ⟨r, rfl⟩ := h
  cases r with
  | nil => simp at hy
  | cons z r =>
    simp at hy
    subst hy
    exact ⟨r, by simp⟩

theorem eql_func_nil (fn : Fn) (fi ca : Array Value) (W : World) : (binOp .eql 29 (.func fn fi ca) .nilFunc).run Try.prog W = .ok (.bool false) W := by kernel_rfl

set_option maxRecDepth 100000 in
set_option maxHeartbeats 4000000 in
theorem goes_any (pb pp m c1 c3 cc cp : Nat) (A1 A3 AC AP : Option Addr) (W0 leave : Int) (cs ps : List Int) (hm : m ≤ 40) (hcl : cs.length = m) (hpl : ps.length = m) (w : World) (hpb : pb < w.heap.size) (hpp : pp < w.heap.size)
    (h1 : w.cell? ⟨pb, 0, none⟩ = some (.slice A1 m c1)) (h3 : w.cell? ⟨pp, 0, none⟩ = some (.slice A3 m c3)) (hs1 : Sl w (fun _ => True) (.slice A1 m c1) m 1 (ints cs)) (hs3 : Sl w (fun _ => True) (.slice A3 m c3) m 1 (ints ps))
    (hc : Sl w (fun _ => True) (.slice AC m cc) m 1 (ints cs)) (hp : Sl w (fun _ => True) (.slice AP m cp) m 1 (ints ps)) :
    Calls Try.prog 20 #[.func (.func 79) #[] #[.pointer (some ⟨pb, 0, none⟩), .pointer (some ⟨pp, 0, none⟩)], .agg #[.slice AC m cc, .int .i64 W0, .slice AP m cp], .int .i64 leave] w fun e w' => e = .returned (.bool true) ∧ Below w.heap.size w w' := by
  have HCL := Lib.hid hcl
  have HPL := Lib.hid hpl
  have HS1 := Lib.hid hs1
  have HS3 := Lib.hid hs3
  have HC := Lib.hid hc
  have HP := Lib.hid hp
  have H1 := Lib.hid h1
  have H3 := Lib.hid h3
  have heq := eql_func_nil
  clear hcl hpl hs1 hs3 hc hp h1 h3
  refine (callsIn_wide (n := 3)).1 (callsIn_of_wp_marks Try.func20 rfl trivial ((wpIn_wide (n := 3)).2 ?_))
  simp only [Try.ntmps20, List.size_toArray, List.length_cons, List.length_nil, Nat.reduceAdd, Nat.reduceSub, Array.replicate_succ, Array.replicate_zero, List.push_toArray, List.append_toArray, List.nil_append, List.cons_append]
  go_wp2_with fail
  obtain ⟨U0, hU0⟩ : ∃ U, U = (((w.alloc (.cells #[.slice AC m cc, .int .i64 W0, .slice AP m cp] 36)).alloc (.cells #[.int .i64 leave] 3)).alloc (.cells #[.bool false] 4)).alloc (.cells #[.slice none 0 0] 33) := ⟨_, rfl⟩
  have hP : Blk U0 w.heap.size 36 #[.slice AC m cc, .int .i64 W0, .slice AP m cp] := by rw [hU0]; exact (((Blk.new w _ _).alloc _).alloc _).alloc _
  have hL : Blk U0 (w.heap.size + 1) 3 #[.int .i64 leave] := by rw [hU0]; exact ((Blk.new' _ _ (by simp)).alloc _).alloc _
  have hR : Blk U0 (w.heap.size + 1 + 1) 4 #[.bool false] := by rw [hU0]; exact (Blk.new' _ _ (by simp)).alloc _
  have hW : Blk U0 (w.heap.size + 1 + 1 + 1) 33 #[.slice none 0 0] := by rw [hU0]; exact Blk.new' _ _ (by simp)
  have hB : Below w.heap.size w U0 := by rw [hU0]; exact ((((Below.refl _ _).alloc (Nat.le_refl _) _).alloc (by simp) _).alloc (by simp; omega) _).alloc (by simp; omega) _
  have hs0 : U0.heap.size = w.heap.size + 4 := by rw [hU0]; simp
  have HSZ := Lib.hid hs0
  rw [← hU0]
  have HPB := Lib.hid hP
  have HLB := Lib.hid hL
  have HRB := Lib.hid hR
  have HBU := Lib.hid hB
  go_loopw [8] (fun i wr => ∃ (k : Nat) (A' : Option Addr) (c' : Nat), k ≤ m ∧ i = .int .i64 k ∧ Blk wr (w.heap.size + 1 + 1 + 1) 33 #[.slice A' (pairsTo cs ps k).length c'] ∧
    wr.ownsRow (w.heap.size + 4) 3 1 (.slice A' (pairsTo cs ps k).length c') (pairsTo cs ps k).length (ints ((pairsTo cs ps k).map (·.1))) ∧ Below (w.heap.size + 3) U0 wr) (fun i _ => m - (intOf i).toNat)
  case atStart => exact ⟨0, none, 0, Nat.zero_le _, rfl, hW, World.ownsRow_nil _ _ _ _, Below.refl _ _⟩
  case round =>
    obtain ⟨k, A', c', hk, rfl, hw3, how, hb⟩ := hrel
    clear hU0 hP hL hR hW hB hs0
    have hsz : w.heap.size + 4 ≤ wr.heap.size := by have := hw3.lt; omega
    have hbw : Below w.heap.size w wr := HBU.out.trans (hb.mono (by omega))
    have hPr := HPB.out.below hb (by omega)
    have q0 : wr.cell? ⟨w.heap.size, 0, none⟩ = some (.slice AC m cc) := hPr.cell 0
    have q2 : wr.cell? ⟨w.heap.size, 2, none⟩ = some (.slice AP m cp) := hPr.cell 2
    have r0 : wr.cell? ⟨w.heap.size + 1 + 1 + 1, 0, none⟩ = some (.slice A' (pairsTo cs ps k).length c') := hw3.cell 0
    have hlen := pairsTo_len cs ps k
    have HW3 := Lib.hid hw3
    have HOW := Lib.hid how
    have HBB := Lib.hid hb
    have HBW := Lib.hid hbw
    clear hPr hw3 how hb hbw
    by_cases hlt : k < m
    · obtain ⟨b1, o1, x1, rfl, _, hx1, hc1⟩ := (HC.out.grow HBW.out).int_at hlt
      have hp3 : ∃ x3, ps[k]? = some x3 := ⟨_, List.getElem?_eq_getElem (by rw [HPL.out]; exact hlt)⟩
      obtain ⟨x3, hx3⟩ := hp3
      have e1 : (0 : Int) ≤ (k : Int) := by omega
      have e2 : (k : Int) < (m : Int) := by omega
      by_cases hx : 0 ≤ x1
      · have hsucc := pairsTo_yes (cs := cs) (ps := ps) (k := k) (by rw [hx1]; exact hx)
        rw [hx3, Option.getD_some] at hsucc
        have HSU := Lib.hid hsucc
        clear hsucc hx1 hx3
        go_wp2_with (at_builtin; refine wpList_app _ rfl (.tmp 27) (.tmp 29) et_int rfl (w.heap.size + 4) (.slice A' (pairsTo cs ps k).length c') (pairsTo cs ps k).length (ints ((pairsTo cs ps k).map (·.1))) rfl (own_alloc HOW.out _) (fun _ => True) (.slice (some ⟨wr.heap.size, 0, none⟩) 1 1) 1 [.int .i64 (k : Int)] rfl (Sl.any (Sl.new wr #[.int .i64 (k : Int)] _ 1 1 (by unfold maxLen; omega) rfl)) (by simp [Value.oneCell']) (by omega) (by unfold maxLen; omega) (by simp; omega) ?_; intro A2 c2 w1 hown hg hloc; have h3' := (HW3.out.alloc (.cells #[.int .i64 (k : Int)] 3)).grown hg (fun e => by have := (HOW.out.lt _ e.symm).1; omega); have s0 : w1.cell? ⟨w.heap.size + 1 + 1 + 1, 0, none⟩ = some (.slice A' (pairsTo cs ps k).length c') := h3'.cell 0; have s1 : w1.frozen? ⟨w.heap.size + 1 + 1 + 1, 0, none⟩ = false := h3'.frozen 0; have HG := Lib.hid hg; have HN := Lib.hid hown; have H3' := Lib.hid h3'; clear hown hg hloc h3')
        go_roundw
        case rel =>
          refine ⟨k + 1, A2, c2, by omega, by go_num, ?_, ?_, ?_⟩
          · rw [HSU.out, List.length_append]
            exact H3'.out.set_ 0 (.slice A2 ((pairsTo cs ps k).length + 1) c2)
          · have := own_far HN.out (grownBy_setCell w1 ⟨w.heap.size + 1 + 1 + 1, 0, none⟩ (.slice A2 ((pairsTo cs ps k).length + 1) c2)) (fun g e he => by have := (HN.out.lt g he).1; simp at e; omega)
            rw [HSU.out, List.length_append, List.map_append]
            simpa [ints] using this
          · exact ((HBB.out.alloc (by omega) _).grown HG.out (by simp; omega) (fun g e => by have := (HOW.out.lt _ e).1; omega)).setCell (p := ⟨w.heap.size + 1 + 1 + 1, 0, none⟩) (by simp) _
        case measure => simp [intOf]; omega
      · have hsucc := pairsTo_no (cs := cs) (ps := ps) (k := k) (by rw [hx1]; exact hx)
        have HSU := Lib.hid hsucc
        clear hsucc hx1 hx3
        go_wp2_with fail
        go_roundw
        case rel => exact ⟨k + 1, A', c', by omega, by go_num, by rw [HSU.out]; exact HW3.out, by rw [HSU.out]; exact HOW.out, HBB.out⟩
        case measure => simp [intOf]; omega
    · obtain rfl : k = m := by omega
      go_wp2_with fail
      have hpre := pairsTo_len cs ps k
      obtain ⟨L, hL⟩ : ∃ L, L = pairsTo cs ps k := ⟨_, rfl⟩
      rw [← hL] at HW3 HOW hpre r0 hlen
      have HLL := Lib.hid hL
      clear hL
      have hcell1 : (wr.alloc (.cells #[.int .i64 0] 3)).cell? ⟨pb, 0, none⟩ = some (.slice A1 k c1) := ((HBW.out.alloc HBW.out.size _).cell (p := ⟨pb, 0, none⟩) hpb).trans H1.out
      have hcell3 : (wr.alloc (.cells #[.int .i64 0] 3)).cell? ⟨pp, 0, none⟩ = some (.slice A3 k c3) := ((HBW.out.alloc HBW.out.size _).cell (p := ⟨pp, 0, none⟩) hpp).trans H3.out
      have hBX : Below w.heap.size w (wr.alloc (.cells #[.int .i64 0] 3)) := HBW.out.alloc HBW.out.size _
      have hstops := each1_stops Fence.wide 2 trivial rfl (by omega) pb pp w.heap.size k c1 c3 A1 A3 cs ps hm HCL.out HPL.out (wr.alloc (.cells #[.int .i64 0] 3)) hpb hpp hBX.size hcell1 hcell3 (HS1.out.ltB.keep' hBX) (HS3.out.ltB.keep' hBX)
      rw [← HLL.out] at hstops
      have HST := Lib.hid hstops
      have HBX := Lib.hid hBX
      have hI0 : GoesI w.heap.size wr.heap.size k c' A' (.slice AP k cp) L ps leave [] (wr.alloc (.cells #[.int .i64 0] 3)) := by
        have hPr := HPB.out.below HBB.out (by omega)
        have hLr := HLB.out.below HBB.out (by omega)
        have hRr := HRB.out.below HBB.out (by omega)
        refine ⟨List.nil_prefix, (hPr.alloc _).cell 2, (hLr.alloc _).cell 0, (hRr.alloc _).cell 0, (hRr.alloc _).frozen 0, (HW3.out.alloc _).cell 0, (Blk.new wr _ _).cell 0, (Blk.new wr _ _).frozen 0, ?_, ?_⟩
        · exact (own_alloc HOW.out _ |> Sl.of_own).mono fun b _ hb => by have := HOW.out.lt b hb; omega
        · exact ((HP.out.ltB.keep' HBX.out)).mono fun b _ hb => by omega
      have HI0 := Lib.hid hI0
      clear hstops hBX hI0 hcell1 hcell3 q0 q2 r0
      refine (wpIn_wide (n := 3)).1 ?_
      refine' wpIn_rangeFunc_ownF (F := Fence.wide) (n := 3) rfl (by omega) (gf := 79) (lb := #[.pointer (some ⟨pb, 0, none⟩), .pointer (some ⟨pp, 0, none⟩)]) rfl trivial (enters_of Try.func79 (by kernel_rfl) rfl) HST.out belowK_t (belowK_b HBX.out.size) (Below.refl _ _) (fun _ => rfl)
        (fun pre W => GoesI w.heap.size wr.heap.size k c' A' (.slice AP k cp) L ps leave pre W ∧ Below w.heap.size w W)
        (fun c pre W => (c = .ret ∧ (pre <+: L → W.cell? ⟨w.heap.size + 1 + 1, 0, none⟩ = some (.bool true))) ∧ Below w.heap.size w W)
        (OwnFrom.and (Own.from (GoesI.own _ _ _ _ _ _ _ _ _) _) (ownFrom_below (Nat.le_refl _) HBX.out.size))
        (fun c => OwnFrom.and (Own.from (fun s A B row hs hg hr => ⟨hs.1, fun h => cell_kept (hs.2 h) hg hr⟩) _) (ownFrom_below (Nat.le_refl _) HBX.out.size))
        ⟨HI0.out, HBX.out⟩ _ ?assign ?body ?done ?stop
      case assign =>
        intro l x W K hK
        gi_wp2
        exact hK
      case body =>
        rintro l pre x W ⟨hI, hB⟩ hlt2
        have HI := Lib.hid hI
        have HB := Lib.hid hB
        have hlen2 := hI.pre_.length_le
        obtain ⟨bw, ow, y1, rfl, hbw, hy1, hcw⟩ := hI.row.int_at hlt2
        have hlt3 : pre.length < L.length := hlt2
        obtain ⟨y, hy⟩ : ∃ y, L[pre.length]? = some y := ⟨_, List.getElem?_eq_getElem hlt3⟩
        have hyy : y1 = y.1 := by
          rw [List.getElem?_map, hy] at hy1
          exact (Option.some.inj hy1).symm
        subst hyy
        obtain ⟨j, hj, hyj⟩ := pairsTo_mem (cs := cs) (ps := ps) (k := k) (x := y) (by rw [← HLL.out]; exact List.mem_of_getElem? hy)
        have hpj : ps[j]? = some y.2 := by rw [hyj]; exact (by rw [List.getElem?_eq_getElem (by rw [HPL.out]; exact hj)]; rfl)
        have hyj1 : y.1 = (j : Int) := by rw [hyj]
        obtain ⟨bp, op, y2, hAP, hbp, hy2, hcp⟩ := hI.pay.int_at hj
        rw [hpj] at hy2
        have hy2' := (Option.some.inj hy2).symm
        subst hy2' hAP
        have hn0 : W.cell? ⟨wr.heap.size, 0, none⟩ = some (.int .i64 (pre.length : Int)) := hI.nn
        have hn1 : W.frozen? ⟨wr.heap.size, 0, none⟩ = false := hI.nf
        have hp2 : W.cell? ⟨w.heap.size, 2, none⟩ = some (.slice (some ⟨bp, op, none⟩) k cp) := hI.p2
        have hlv : W.cell? ⟨w.heap.size + 1, 0, none⟩ = some (.int .i64 leave) := hI.lv
        have hrs : W.cell? ⟨w.heap.size + 1 + 1, 0, none⟩ = some (.bool false) := hI.rs
        have hrf : W.frozen? ⟨w.heap.size + 1 + 1, 0, none⟩ = false := hI.rf
        have hwh : W.cell? ⟨w.heap.size + 1 + 1 + 1, 0, none⟩ = some (.slice (some ⟨bw, ow, none⟩) L.length c') := hI.wh
        have hsz2 := HBX.out.size
        have hszw := World.block_lt_of_cell? _ _ hn0
        obtain ⟨xa, xb⟩ := x
        have e1 : (0 : Int) ≤ (pre.length : Int) := by omega
        have e2 : (pre.length : Int) < (L.length : Int) := by omega
        have e3 : (0 : Int) ≤ (j : Int) := by omega
        have e4 : (j : Int) < (k : Int) := by omega
        rw [hyj1] at hcw
        have hnot : ∀ v : Int × Int, v ≠ y → ¬ (pre ++ [v] <+: L) := by
          intro v hv hpf
          obtain ⟨r, hr⟩ := hpf
          rw [← hr] at hy
          simp at hy
          exact hv hy
        have HNOT := Lib.hid hnot
        have HYJ := Lib.hid hyj1
        have HY := Lib.hid hy
        clear hnot hyj1 hyj hpj hy2 hy1 hy hI hB hlt2
        by_cases hxa : xa = (j : Int)
        · subst hxa
          by_cases hxb : xb = y.2
          · subst hxb
            by_cases hle : (pre.length : Int) + 1 = leave
            · subst hle
              gi_wp2
              refine ⟨(KeepsOthers.setCell _ _ _).trans (KeepsOthers.setCell _ _ _), ⟨rfl, fun _ => World.cell?_setCell_same' _ _ _ ?_⟩, (HB.out.setCell (p := ⟨wr.heap.size, 0, none⟩) (by simp; omega) _).setCell (p := ⟨w.heap.size + 1 + 1, 0, none⟩) (by simp; omega) _⟩
              rw [World.cell?_setCell_other W ⟨wr.heap.size, 0, none⟩ ⟨w.heap.size + 1 + 1, 0, none⟩ _ (fun e => by injection e with e; omega), hrs]
              rfl
            · have hle' : ((pre.length : Int) + 1 == leave) = false := by simpa using hle
              have HLE := Lib.hid hle
              clear hle
              gi_wp2
              have hset : ∀ (q : Addr) (u : Value), q.block < wr.heap.size → W.cell? q = some u → (W.setCell ⟨wr.heap.size, 0, none⟩ (.int .i64 ((pre.length : Int) + 1))).cell? q = some u := fun q u hq hu => (World.cell?_setCell_other W ⟨wr.heap.size, 0, none⟩ q _ (fun e => by subst e; simp at hq)).trans hu
              have hI := HI.out
              have hpf := prefix_snoc hI.pre_ HY.out
              rw [show y = ((j : Int), y.2) from Prod.ext HYJ.out rfl] at hpf
              refine ⟨KeepsOthers.setCell _ _ _, (Below.refl w.heap.size W).setCell (p := ⟨wr.heap.size, 0, none⟩) (by simp; omega) _, ⟨hpf, hset _ _ (by simp; omega) hI.p2, hset _ _ (by simp; omega) hI.lv, hset _ _ (by simp; omega) hI.rs, by rw [World.frozen?_setCell]; exact hI.rf, hset _ _ (by simp; omega) hI.wh, ?_, by rw [World.frozen?_setCell]; exact hI.nf, hI.row.set (by simp) _, hI.pay.set (by simp) _⟩, HB.out.setCell (p := ⟨wr.heap.size, 0, none⟩) (by simp; omega) _⟩
              rw [World.cell?_setCell_same' W ⟨wr.heap.size, 0, none⟩ _ (by rw [hn0]; rfl)]
              simp
          · have hxb' : (xb != y.2) = true := by simpa using hxb
            have HXB := Lib.hid hxb
            clear hxb
            gi_wp2
            exact ⟨KeepsOthers.setCell _ _ _, ⟨rfl, fun h => absurd h (HNOT.out _ (fun e => HXB.out (by rw [← e])))⟩, HB.out.setCell (p := ⟨w.heap.size + 1 + 1, 0, none⟩) (by simp; omega) _⟩
        · have hxa' : (xa != (j : Int)) = true := by simpa using hxa
          have HXA := Lib.hid hxa
          clear hxa
          gi_wp2
          exact ⟨KeepsOthers.setCell _ _ _, ⟨rfl, fun h => absurd h (HNOT.out _ (fun e => HXA.out (by rw [← HYJ.out, ← e])))⟩, HB.out.setCell (p := ⟨w.heap.size + 1 + 1, 0, none⟩) (by simp; omega) _⟩
      case done =>
        rintro D ys W hD hys ⟨hI, hB⟩ hK
        subst hys
        have hn0 : W.cell? ⟨wr.heap.size, 0, none⟩ = some (.int .i64 (ys.length : Int)) := hI.nn
        have hwh : W.cell? ⟨w.heap.size + 1 + 1 + 1, 0, none⟩ = some (.slice A' ys.length c') := hI.wh
        have hrs : W.cell? ⟨w.heap.size + 1 + 1, 0, none⟩ = some (.bool false) := hI.rs
        have hrf : W.frozen? ⟨w.heap.size + 1 + 1, 0, none⟩ = false := hI.rf
        have HB := Lib.hid hB
        have HK := Lib.hid hK
        have hD' : w.heap.size ≤ D := by have := HBX.out.size; omega
        have hrs' := Lib.hid hrs
        clear hI hB hK
        go_wp2_with fail
        have hK' := (KeepsOthers.setCell W ⟨w.heap.size + 1 + 1, 0, none⟩ (.bool true)).same D _ HK.out rfl
        refine ⟨by simp, .inl ⟨_, _, rfl, run_takeDeferred hK', ?_⟩⟩
        have hc5 := cell_kept (World.cell?_setCell_same' W ⟨w.heap.size + 1 + 1, 0, none⟩ (.bool true) (by rw [hrs'.out]; rfl)) (grownBy_putObj' _ D (.deferred none)) (fun r e => by cases e; exact ⟨_, hK', rfl⟩)
        refine ⟨.bool true, by simp [results, Try.results20, go_sem, hc5], rfl, (HB.out.setCell (p := ⟨w.heap.size + 1 + 1, 0, none⟩) (by simp; omega) _).trans (belowK_b (w := w) (Nat.le_refl _) _ D _ _ hD' hK' rfl rfl)⟩
      case stop =>
        rintro D c pre W hD hpre2 ⟨⟨rfl, hres⟩, hB⟩ hK
        have hrs := hres hpre2
        have hD' : w.heap.size ≤ D := by have := HBX.out.size; omega
        have HK := Lib.hid hK
        clear hK
        gi_wp2
        refine ⟨by simp, .inl ⟨_, _, rfl, run_takeDeferred HK.out, ?_⟩⟩
        have hc5 := cell_kept hrs (grownBy_putObj' _ D (.deferred none)) (fun r e => by cases e; exact ⟨_, HK.out, rfl⟩)
        refine ⟨.bool true, by simp [results, Try.results20, go_sem, hc5], rfl, hB.trans (belowK_b (w := w) (Nat.le_refl _) W D _ _ hD' HK.out rfl rfl)⟩
end Go.Proofs.Ytcigobiolbojhaa.Vb

/- A range over a function whose iterator tells what lies behind what it hands over: V x W, in the world of the yield. -/
namespace Go.Proofs.Ytcigobiolbojhaa.Vb
open Go.RowKit Go.Shelf

def SeqStopsV {α : Type} (F : Fence) (n : Nat) (P : Program) (g : Nat) (lb : Array Value) (encs : α → Array Value) (Kp : World → World → Prop) (V : Nat → α → World → Prop) (S Sp : List α → Prop) (N : Nat) (w : World) : Prop :=
  ∀ (l : Nat) (J Jx : List α → World → Prop) (W : World), Below w.heap.size w W → AbidesFrom W.heap.size J → AbidesFrom W.heap.size Jx →
    (∀ pre x W1, J pre W1 → V W.heap.size x W1 → Sp (pre ++ [x]) → pre.length < N → YieldAt F (n - 1) P l (encs x) W1 fun e W' =>
      (e = .returned (.bool true) ∧ J (pre ++ [x]) W' ∧ Kp W1 W') ∨ (e = .returned (.bool false) ∧ Jx (pre ++ [x]) W')) →
    J [] W →
    CallsIn F n P g (#[.func (.yield l) #[] #[]] ++ lb) W fun e W' => (∃ v, e = .returned v) ∧ ((∃ xs, S xs ∧ J xs W') ∨ (∃ pre, Sp pre ∧ Jx pre W'))

/-- the loop's record at block b + 1, the rounds' deferred calls at block b -/
def RecAt (W : World) (b : Nat) (L : Loop) : Prop := W.heap[b + 1]? = some (.loop L) ∧ W.heap[b]? = some (.deferred (some []))
theorem RecAt.abides {A B : World} {b : Nat} {L : Loop} {row : Option Nat} (h : RecAt A b L) (hg : A.grownBy B row) (hr : ∀ r, row = some r → ∃ o : Obj, A.heap[r]? = some o ∧ o.isWalk = true) : RecAt B b L :=
  ⟨(grownBy_keeps hg hr h.1 rfl).trans h.1, (grownBy_keeps hg hr h.2 rfl).trans h.2⟩
theorem RecAt.put {W : World} {b : Nat} {L L' : Loop} (h : RecAt W b L) : RecAt (W.putObj (b + 1) (.loop L')) b L' :=
  ⟨World.putObj_heap_same (Array.getElem?_eq_some_iff.1 h.1).1, (World.putObj_heap_other (by omega)).trans h.2⟩
theorem RecAt.others {A B : World} {b : Nat} {L : Loop} (h : RecAt A b L) (hk : KeepsOthers A B) : RecAt B b L := ⟨hk.same _ _ h.1 rfl, hk.same _ _ h.2 rfl⟩

variable {F : Fence} {n : Nat} {P : Program}
theorem wpIn_rangeFunc_V {α : Type} {g : Operand} {ps : Array Tmp} {assign body : Code} {Q : Exit → Act → World → Prop} {a : Act} {w : World}
    (hro : F.round = none) (h1 : 1 ≤ n) {gf : Nat} {lb : Array Value} (hg : a.eval g = .func (.func gf) #[] lb) (hFg : F.fn gf) (eg : ∀ args w, (callFunc gf args).run P w = .ok (.enter gf args) w)
    {encs : α → Array Value} {Kp : World → World → Prop} {V : Nat → α → World → Prop} {S Sp : List α → Prop} {N : Nat} {w0 : World} (hseq : SeqStopsV F (n - 1) P gf lb encs Kp V S Sp N w0)
    (hKt : ∀ {A B C : World}, Kp A B → Kp B C → Kp A C) (hKb : ∀ (W : World) (l : Nat) (o o' : Obj), w.heap.size ≤ l → W.heap[l]? = some o → o.isCells = false → o.isWalk = false → Kp W (W.putObj l o')) (hb0 : Below w0.heap.size w0 w) (hps : ∀ x, (encs x).size = ps.size)
    (hV : OwnFrom w.heap.size (V (w.heap.size + 2)))
    (I : List α → World → Prop) (Ix : Code → List α → World → Prop) (hI : OwnFrom w.heap.size I) (hIx : ∀ c, OwnFrom w.heap.size (Ix c)) (h0 : I [] w) (a₁ : α → Act)
    (hassign : ∀ (l : Nat) (x : α) (W : World) (K : Act → World → Prop), K (a₁ x) W →
      assign.wpIn (F.inRound l) (n - 1 - 1) P (Exit.then K (fun _ _ _ => False)) { tmps := (ps.zip (encs x)).foldl (fun t (p, v) => t.setIfInBounds p v) a.tmps, defers := [] } W)
    (hbody : ∀ (l : Nat) (pre : List α) (x : α) (W : World), I pre W → V (w.heap.size + 2) x W → Sp (pre ++ [x]) → pre.length < N → body.wpIn (F.inRound l) (n - 1 - 1) P (ownPostK Kp I Ix (pre ++ [x]) W) (a₁ x) W)
    (hdone : ∀ (D : Nat) (xs : List α) (W : World), w.heap.size ≤ D → S xs → I xs W → W.heap[D]? = some (.deferred (some [])) → Q .normal { a with defers := { target := .collected D, args := #[] } :: a.defers } W)
    (hstop : ∀ (D : Nat) (c : Code) (pre : List α) (W : World), w.heap.size ≤ D → Sp pre → Ix c pre W → W.heap[D]? = some (.deferred (some [])) → c.wpIn F n P Q { a with defers := { target := .collected D, args := #[] } :: a.defers } W) :
    (Code.rangeFunc g ps assign body).wpIn F n P Q a w := by
  refine wpIn_rangeFunc fun fn hfn => ?_
  rw [hro]
  obtain ⟨L, hL⟩ : ∃ L : LoopState → Option Code → Loop, L = fun st pe => { state := st, pending := pe, fn, tmps := a.tmps, params := ps, assign, body, defers := w.heap.size } := ⟨_, rfl⟩
  obtain ⟨U, hU⟩ : ∃ U, U = (w.alloc (.deferred (some []))).alloc (.loop (L .ready none)) := ⟨_, rfl⟩
  have hRU : RecAt U w.heap.size (L .ready none) := by
    subst hU
    constructor
    · have := World.alloc_heap_new (w.alloc (.deferred (some []))) (.loop (L .ready none))
      rwa [World.size_alloc] at this
    · exact (Below.heap_alloc _ _ _ (by simp)).trans (World.alloc_heap_new w _)
  have hsU : U.heap.size = w.heap.size + 2 := by rw [hU]; simp
  have hIU : I [] U := by subst hU; exact hI.alloc _ (hI.alloc _ h0)
  have hBU : Below w0.heap.size w0 U := by
    subst hU
    exact hb0.trans ((((Below.refl _ w).alloc (Nat.le_refl _) _).alloc (by simp) _).mono hb0.size)
  refine ⟨w.heap.size + 1, [{ target := .collected w.heap.size, args := #[] }], U, { target := .fn (.func gf) lb, args := #[.func (.yield (w.heap.size + 1)) #[] #[]] }, U, gf, #[.func (.yield (w.heap.size + 1)) #[] #[]] ++ lb, U, ?_, ?_, ?_, ?_, fun _ => h1, ?_⟩
  · rw [hU, hL]
    exact run_enterLoop_outer _ _ _ _ _
  · simp only [resolve, hg]
    simp [go_sem]
  · intro f' hf'
    simp [Target.leads] at hf'
    subst hf'
    exact hFg
  · simp [invoke, go_sem, eg]
  · have toCells : ∀ {A : World} {row : Option Nat}, (∀ r, row = some r → U.heap.size ≤ r ∧ ∃ o : Obj, A.heap[r]? = some o ∧ o.isWalk = true) → ∀ r, row = some r → w.heap.size ≤ r ∧ ∃ o : Obj, A.heap[r]? = some o ∧ o.isCells = false := by
      intro A row hr r e
      obtain ⟨h1, o, h2, h3⟩ := hr r e
      exact ⟨by omega, o, h2, Obj.not_cells_of_walk h3⟩
    refine (hseq (w.heap.size + 1) (fun pre W => I pre W ∧ RecAt W w.heap.size (L .ready none)) (fun pre W => ∃ c, Ix c pre W ∧ RecAt W w.heap.size (L .done (some c))) U hBU ?_ ?_ ?_ ⟨hIU, hRU⟩).mono ?_
    · exact fun s A B row hs hg' hr => ⟨hI s A B row hs.1 hg' (toCells hr), hs.2.abides hg' fun r e => (hr r e).2⟩
    · rintro s A B row ⟨c, hc, hrec⟩ hg' hr
      exact ⟨c, hIx c s A B row hc hg' (toCells hr), hrec.abides hg' fun r e => (hr r e).2⟩
    · rintro pre x W ⟨hi, hrec⟩ hv hsp hlen
      rw [hsU] at hv
      have hready : (L .ready none).state = .ready := by rw [hL]
      have hy := run_yield (P := P) (args := encs x) hrec.1 (by rw [hL]; exact hps x)
      rw [hL] at hy
      refine ⟨fn, _, assign, body, hy, roundIn_of_wpIn hfn (hassign _ x W _ ⟨_, run_beginRound hrec.1 hready, ?_⟩)⟩
      have hbusy : RecAt (W.putObj (w.heap.size + 1) (.loop { L .ready none with state := .busy })) w.heap.size { L .ready none with state := .busy } := hrec.put
      have hkb : Kp W (W.putObj (w.heap.size + 1) (.loop { L .ready none with state := .busy })) := hKb _ _ _ _ (by omega) hrec.1 rfl rfl
      refine wpIn_mono (hbody _ pre x _ (hI.putObj _ hi (by omega) hrec.1 rfl) (hV.putObj _ hv (by omega) hrec.1 rfl) hsp hlen) ?_
      have shut : ∀ (jump : Option Code) (W3 : World), KeepsOthers (W.putObj (w.heap.size + 1) (.loop { L .ready none with state := .busy })) W3 →
          (Instr.endRound (w.heap.size + 1) jump).run P W3 = .ok (.bool jump.isNone) (W3.putObj (w.heap.size + 1) (.loop (L (if jump.isNone then .ready else .done) jump))) ∧
          RecAt W3 w.heap.size { L .ready none with state := .busy } ∧ RecAt (W3.putObj (w.heap.size + 1) (.loop (L (if jump.isNone then .ready else .done) jump))) w.heap.size (L (if jump.isNone then .ready else .done) jump) := by
        intro jump W3 hk3
        have h3 := hbusy.others hk3
        have hr := run_endRound (P := P) jump h3.1
        rw [hL] at hr h3 ⊢
        exact ⟨hr, h3, h3.put⟩
      rintro e a3 W3 hp
      cases e with
      | normal =>
        obtain ⟨hk3, hkp3, hi3⟩ := hp
        obtain ⟨hr, hb3, hn3⟩ := shut none W3 hk3
        exact ⟨_, _, hr, .inl ⟨rfl, ⟨hI.putObj _ hi3 (by omega) hb3.1 rfl, hn3⟩, hKt (hKt hkb hkp3) (hKb _ _ _ _ (by omega) hb3.1 rfl rfl)⟩⟩
      | ret =>
        obtain ⟨hr, hb3, hn3⟩ := shut (some .ret) W3 hp.1
        exact ⟨_, _, hr, .inr ⟨rfl, .ret, (hIx _).putObj _ hp.2 (by omega) hb3.1 rfl, hn3⟩⟩
      | exit id =>
        obtain ⟨hr, hb3, hn3⟩ := shut (some (.exit id)) W3 hp.1
        exact ⟨_, _, hr, .inr ⟨rfl, .exit id, (hIx _).putObj _ hp.2 (by omega) hb3.1 rfl, hn3⟩⟩
      | goto t =>
        obtain ⟨hr, hb3, hn3⟩ := shut (some (.goto t)) W3 hp.1
        exact ⟨_, _, hr, .inr ⟨rfl, .goto t, (hIx _).putObj _ hp.2 (by omega) hb3.1 rfl, hn3⟩⟩
      | panic ch => exact hp.elim
      | outgrown => exact hp.elim
    · have over : ∀ {st : LoopState} {pe : Option Code} {W2 : World}, st ≠ .busy → RecAt W2 w.heap.size (L st pe) → ∃ o, (Instr.endLoop (w.heap.size + 1)).run P W2 = .ok pe (W2.putObj (w.heap.size + 1) o) := by
        intro st pe W2 hst h2
        have hr := run_endLoop (P := P) h2.1 (by rw [hL]; exact hst)
        rw [hL] at hr
        exact ⟨_, hr⟩
      rintro e W2 ⟨⟨v, rfl⟩, (⟨xs, hS, hi, hrec⟩ | ⟨pre, hSp, c, hi, hrec⟩)⟩
      · obtain ⟨o, hr⟩ := over (by simp) hrec
        exact ⟨none, _, hr, hdone _ xs _ (Nat.le_refl _) hS (hI.putObj _ hi (by omega) hrec.1 rfl) ((World.putObj_heap_other (by omega)).trans hrec.2)⟩
      · obtain ⟨o, hr⟩ := over (by simp) hrec
        exact ⟨some c, _, hr, hstop _ c pre _ (Nat.le_refl _) hSp ((hIx c).putObj _ hi (by omega) hrec.1 rfl) ((World.putObj_heap_other (by omega)).trans hrec.2)⟩
end Go.Proofs.Ytcigobiolbojhaa.Vb

/- core.Steps' iterator: whom it hands over, and what is paid then. -/
namespace Go.Proofs.Ytcigobiolbojhaa.Vb
open Go.RowKit Go.Shelf
attribute [local go_sem] Oper.semAt_some

theorem wpListIn_app {F : Fence} {nf : Nat} {P : Program} (w : World) {ops : Array Oper} {rest : List Oper} {o : Oper} {a : Act} {Q : Exit → Act → World → Prop} (hgd : o.guard = none) (s x : Operand) {t e : TypeId} {sz bytes : Nat} (E : ElemT P t e sz bytes)
    (ho : o.op = .call { callee := .builtin .append, args := #[s, x], argTypes := #[t, t] })
    (base : Nat) (v : Value) (n : Nat) (xs : List Value) (hs : a.eval s = v) (hown : w.ownsRow base e sz v n xs)
    (R : Nat → Prop) (v2 : Value) (m : Nat) (news : List Value) (hx : a.eval x = v2) (hr : Sl w R v2 m sz news) (h1 : ∀ u ∈ news, u.oneCell' = true)
    (hbytes : (n + m) * bytes ≤ 140737488355328) (h63 : n + m ≤ maxLen) (hbase : base ≤ w.heap.size)
    (h : ∀ A' cap' w', w'.ownsRow base e sz (.slice A' (n + m) cap') (n + m) (xs ++ news) → w.grownBy w' v.ownBlock → ((Value.slice A' (n + m) cap').ownBlock = v.ownBlock ∨ (Value.slice A' (n + m) cap').ownBlock = some w.heap.size) → wpListIn F nf P ops Q rest (a.put o.dst (.slice A' (n + m) cap')) w') : wpListIn F nf P ops Q (o :: rest) a w := by
  refine wpListIn_plain hgd fun K hK' => ?_
  obtain ⟨A', cap', w', hrun, h2, h3, h4⟩ := run_append_sl (P := P) w base t o.type e sz bytes E v n xs hown R v2 m news hr h1 hbytes h63 hbase
  unfold Oper.wpIn
  refine ⟨?_, ?_⟩
  · simp [Oper.about, ho, resolve, Target.leads, Sem.run_pure]
  · rw [Oper.semAt_plain F _ _ (by rw [ho]; intro c hc'; cases hc')]
    simp [execOp, ho, resolve, invoke, builtin, hs, hx, hrun, Result.andThen]
    exact hK' _ _ (h A' cap' w' h2 h3 h4)

/-- the blocks from lo to hi are as they were -/
structure KeepR (lo hi : Nat) (W W' : World) : Prop where
  size : W.heap.size ≤ W'.heap.size
  same : ∀ i, lo ≤ i → i < hi → W'.heap[i]? = W.heap[i]?
theorem KeepR.refl (lo hi : Nat) (W : World) : KeepR lo hi W W := ⟨Nat.le_refl _, fun _ _ _ => rfl⟩
theorem KeepR.trans {lo hi : Nat} {A B C : World} (h : KeepR lo hi A B) (k : KeepR lo hi B C) : KeepR lo hi A C := ⟨Nat.le_trans h.size k.size, fun i h1 h2 => (k.same i h1 h2).trans (h.same i h1 h2)⟩
theorem KeepR.grown {lo hi : Nat} {A B C : World} (h : KeepR lo hi A B) (hg : B.grownBy C none) (hB : hi ≤ B.heap.size) : KeepR lo hi A C :=
  ⟨Nat.le_trans h.size hg.size, fun i h1 h2 => (hg.block i (by omega) (fun e => by cases e)).trans (h.same i h1 h2)⟩
theorem KeepR.cell {lo hi : Nat} {A B : World} (h : KeepR lo hi A B) {p : Addr} (h1 : lo ≤ p.block) (h2 : p.block < hi) : B.cell? p = A.cell? p := by
  unfold World.cell?
  rw [h.same p.block h1 h2]
theorem KeepR.sl {lo hi : Nat} {A B : World} (h : KeepR lo hi A B) {v : Value} {n sz : Nat} {xs : List Value} (hs : Sl A (fun b => lo ≤ b ∧ b < hi) v n sz xs) : Sl B (fun b => lo ≤ b ∧ b < hi) v n sz xs :=
  hs.keep h.size fun b _ hr => h.same b hr.1 hr.2

/-- what is handed over: whom, what is paid then, the slice that says it -/
def Told (x : Int × List Int × Value) (b : Nat) (W : World) : Prop := W.ownsRow b 2 1 x.2.2 x.2.1.length (ints x.2.1)
def tells (xs : List (Int × List Int × Value)) : List (Int × List Int) := xs.map fun x => (x.1, x.2.1)
theorem told_own (B b : Nat) : OwnFrom B (fun x W => Told x b W) := by
  intro x W W' row h hg hr
  refine own_far h hg fun r e he => ?_
  obtain ⟨_, o, ho, hc⟩ := hr r e
  obtain ⟨_, h | ⟨g, cap, cur, hv, hgb, hcur, _⟩⟩ := h
  · rw [h.1] at he; cases he
  · rw [hv] at he
    injection he with he
    simp only at he
    subst he
    rw [ho] at hcur
    cases hcur
    cases hc

set_option maxRecDepth 100000 in
set_option maxHeartbeats 2000000 in
theorem steps2_in (F : Fence) (nn : Nat) (hf : F.fn 98) (hro : F.round = none) (hn : 1 ≤ nn) (l b4 b3 lo n₀ m cw ca : Nat) (Aw Aa : Option Addr) (who : List Int) (rows : List (List Int)) (vs : List Value) (hm : m ≤ 40) (hwl : who.length = m) (hrl : rows.length = m)
    (hrow : ∀ r ∈ rows, r.length ≤ 40) (hb3 : b3 < n₀) (hlo3 : lo ≤ b3) (J Jx : List (Int × List Int × Value) → World → Prop) (W : World) (hn0 : n₀ ≤ W.heap.size) (hJ : AbidesFrom W.heap.size J)
    (hY : ∀ pre x W1, J pre W1 → Told x W.heap.size W1 → tells (pre ++ [x]) <+: who.zip rows → pre.length < m → YieldAt F (nn - 1) Try.prog l #[.int .i64 x.1, x.2.2] W1 fun e W' =>
      (e = .returned (.bool true) ∧ J (pre ++ [x]) W' ∧ KeepR lo n₀ W1 W') ∨ (e = .returned (.bool false) ∧ Jx (pre ++ [x]) W'))
    (h4 : W.cell? ⟨b4, 0, none⟩ = some (.slice Aw m cw)) (h3 : W.cell? ⟨b3, 0, none⟩ = some (.slice Aa m ca)) (hs4 : Sl W (fun b => lo ≤ b ∧ b < n₀) (.slice Aw m cw) m 1 (ints who)) (hs3 : Sl W (fun b => lo ≤ b ∧ b < n₀) (.slice Aa m ca) m 1 vs)
    (hvs : ∀ (j : Nat) (r : List Int), rows[j]? = some r → ∃ u, vs[j]? = some u ∧ Sl W (fun b => lo ≤ b ∧ b < n₀) u r.length 1 (ints r)) (h0 : J [] W) :
    CallsIn F nn Try.prog 98 #[.func (.yield l) #[] #[], .pointer (some ⟨b4, 0, none⟩), .pointer (some ⟨b3, 0, none⟩)] W fun e W' => (∃ v, e = .returned v) ∧
      ((∃ ys, tells ys = who.zip rows ∧ J ys W') ∨ (∃ pre, tells pre <+: who.zip rows ∧ Jx pre W')) := by
  refine callsIn_of_wp Try.func98 rfl hf ?_ hro
  have HW := Lib.hid hwl
  have HR := Lib.hid hrl
  have HROW := Lib.hid hrow
  have HS4 := Lib.hid hs4
  have HS3 := Lib.hid hs3
  have HVS := Lib.hid hvs
  have HY := Lib.hid hY
  have HJA := Lib.hid hJ
  have H3 := Lib.hid h3
  clear hwl hrl hrow hs4 hs3 hvs hY hJ
  simp only [Try.ntmps98, List.size_toArray, List.length_cons, List.length_nil, Nat.reduceAdd, Nat.reduceSub, Array.replicate_succ, Array.replicate_zero, List.push_toArray, List.append_toArray, List.nil_append, List.cons_append]
  gi_wp2
  clear h4 h3
  gi_loopw [8] (fun i wr => ∃ (k : Nat) (xs : List (Int × List Int × Value)), k ≤ m ∧ i = .int .i64 k ∧ tells xs = (who.zip rows).take k ∧ J xs wr ∧ KeepR lo n₀ W wr) (fun i _ => m - (intOf i).toNat)
  case atStart => exact ⟨0, [], Nat.zero_le _, rfl, rfl, h0, KeepR.refl _ _ _⟩
  case round =>
    obtain ⟨k, xs, hk, rfl, htl, hJs, hnx⟩ := hrel
    have HJ := Lib.hid hJs
    have HNX := Lib.hid hnx
    have HT := Lib.hid htl
    clear hJs htl
    by_cases hlt : k < m
    · obtain ⟨b1, o1, x1, rfl, _, hx1, hc1⟩ := (hnx.sl HS4.out).int_at hlt
      obtain ⟨r, hr⟩ : ∃ r, rows[k]? = some r := ⟨_, List.getElem?_eq_getElem (by rw [HR.out]; exact hlt)⟩
      obtain ⟨u, hu, hsu⟩ := HVS.out k r hr
      obtain ⟨_, A3, c3', hv3, _, _, hcs⟩ := hnx.sl HS3.out
      injection hv3 with hA3 _ _
      subst hA3
      obtain ⟨b5, o5, rfl, _, _, hc5⟩ := hcs (by omega)
      have d5 := hc5 _ _ hu
      have p3 : wr.cell? ⟨b3, 0, none⟩ = some (.slice (some ⟨b5, o5, none⟩) m ca) := (hnx.cell (p := ⟨b3, 0, none⟩) hlo3 hb3).trans H3.out
      have HSU := Lib.hid (hnx.sl hsu)
      obtain ⟨_, A6, c6, rfl, _⟩ := id hsu
      have hrl := HROW.out r (List.mem_of_getElem? hr)
      have e1 : (0 : Int) ≤ (k : Int) := by omega
      have e2 : (k : Int) < (m : Int) := by omega
      have hsz := hnx.size
      have hn0' : n₀ ≤ wr.heap.size := by omega
      have hxl : xs.length = k := by
        have := congrArg List.length HT.out
        simp [tells, HW.out, HR.out] at this
        omega
      have hz : (who.zip rows)[k]? = some (x1, r) := by rw [List.getElem?_zip_eq_some]; exact ⟨hx1, hr⟩
      have HZ := Lib.hid hz
      have HXL := Lib.hid hxl
      clear hcs hc5 hu hsu hr hx1 hz hxl hnx
      gi_wp2_with (refine wpListIn_app _ rfl (.const (.slice none 0 0)) (.tmp 18) et_i64 rfl W.heap.size (.slice none 0 0) 0 [] rfl (World.ownsRow_nil _ _ _ _) _ _ r.length (ints r) rfl HSU.out (by simp [ints, Value.oneCell']) (by omega) (by unfold maxLen; omega) hsz ?_; intro A7 c7 w7 hown7 hg7 _; rw [Nat.zero_add] at hown7 ⊢; rw [List.nil_append] at hown7; have HN7 := Lib.hid (HNX.out.grown hg7 hn0'); obtain ⟨fn, tmps, assign, body, hy, hRR⟩ := HY.out xs (x1, r, .slice A7 r.length c7) w7 (HJA.out xs wr w7 none HJ.out hg7 (fun r e => by cases e)) hown7 (by have : tells (xs ++ [(x1, r, .slice A7 r.length c7)]) = (who.zip rows).take (k + 1) := by { rw [List.take_add_one, HZ.out, ← HT.out]; simp [tells] }; rw [this]; exact List.take_prefix _ _) (by have := HXL.out; omega); dsimp only at hy; have HRR := Lib.hid hRR; clear hown7 hg7 hRR)
      refine HRR.out.mono ?_
      rintro e W3 (⟨rfl, hJ3, hk3⟩ | ⟨rfl, hJx3⟩)
      · gi_wp2
        go_roundw
        case rel =>
          refine ⟨k + 1, xs ++ [(x1, r, .slice A7 r.length c7)], by omega, by go_num, ?_, hJ3, HN7.out.trans hk3⟩
          rw [List.take_add_one, HZ.out, ← HT.out]
          simp [tells]
        case measure => simp [intOf]; omega
      · gi_wp2
        refine bodyPost_ret (results_none rfl _ _ _) rfl ?_
        refine ⟨⟨_, rfl⟩, .inr ⟨_, ?_, hJx3⟩⟩
        have : tells (xs ++ [(x1, r, .slice A7 r.length c7)]) = (who.zip rows).take (k + 1) := by
          rw [List.take_add_one, HZ.out, ← HT.out]
          simp [tells]
        rw [this]
        exact List.take_prefix _ _
    · obtain rfl : k = m := by omega
      clear hnx
      gi_wp2
      go_end0
      refine ⟨⟨_, rfl⟩, .inl ⟨xs, ?_, HJ.out⟩⟩
      rw [HT.out, List.take_of_length_le (by simp [HW.out, HR.out])]
end Go.Proofs.Ytcigobiolbojhaa.Vb

/- core.Pay. -/
namespace Go.Proofs.Ytcigobiolbojhaa.Vb
open Go.RowKit Go.Shelf
attribute [local go_sem] Oper.semAt_some

theorem shared_stops (F : Fence) (nn : Nat) (hf : F.fn 98) (hro : F.round = none) (hn : 1 ≤ nn) {w0 w : World} {lo b4 b3 : Nat} {who : List Int} {rows : List (List Int)} (h : Shared w0 lo b4 b3 who rows) (hm : who.length ≤ 40) (hrl : rows.length = who.length) (hrow : ∀ r ∈ rows, r.length ≤ 40) (hb : KeepR lo w0.heap.size w0 w) :
    SeqStopsV F nn Try.prog 98 #[.pointer (some ⟨b4, 0, none⟩), .pointer (some ⟨b3, 0, none⟩)] (fun x : Int × List Int × Value => #[Value.int .i64 x.1, x.2.2]) (KeepR lo w0.heap.size) (fun b x W => Told x b W) (fun ys => tells ys = who.zip rows) (fun pre => tells pre <+: who.zip rows) who.length w := fun l J Jx W hW hJ _ hY h0 => by
  obtain ⟨Aw, cw, Aa, ca, vs, h1, h2, h3, h4, h5, h6, h7⟩ := h
  have hk : KeepR lo w0.heap.size w0 W := hb.trans ⟨hW.size, fun i _ hi => hW.block i (by have := hb.size; omega)⟩
  have hR : ∀ {v : Value} {m sz : Nat} {xs : List Value}, Sl w0 (lo ≤ ·) v m sz xs → Sl W (fun b => lo ≤ b ∧ b < w0.heap.size) v m sz xs := fun hs => hk.sl (hs.mono fun b hlt hb => ⟨hb, hlt⟩)
  exact steps2_in F nn hf hro hn l b4 b3 lo w0.heap.size who.length cw ca Aw Aa who rows vs hm rfl hrl hrow h5.lt h2 J Jx W hk.size hJ hY ((hk.cell (p := ⟨b4, 0, none⟩) h1 h3.lt).trans (h3.cell 0)) ((hk.cell (p := ⟨b3, 0, none⟩) h2 h5.lt).trans (h5.cell 0)) (hR h4) (hR h6)
    (fun j r hj => let ⟨u, hu, hs⟩ := h7 j r hj; ⟨u, hu, hR hs⟩) h0
theorem whoL_len (n : Int) (bs : List (List Off)) : (whoL n bs).length ≤ bs.length := by
  unfold whoL
  split
  · exact whoTo_len _ _
  · simp
theorem rowsTo_rows {n : Int} {bs : List (List Off)} (hi : instE n bs = 0) (hwf : ∀ l ∈ bs, ∀ o ∈ l, o.wf) {r : List Int} (h : r ∈ rowsL n bs) : r.length = bs.length := by
  unfold rowsL at h
  rw [if_pos hi] at h
  obtain ⟨j, hj, rfl⟩ := rowsTo_mem h
  exact payTo_len hi hwf hj
/-- the last of the rows is what is paid -/
theorem rowsTo_last (n : Int) (bs : List (List Off)) : ∀ k, (rowsTo n bs k).getLastD (bidsC n bs) = payTo n bs k
  | 0 => rfl
  | k + 1 => by
    unfold rowsTo
    split
    · simp
    · rename_i hw
      rw [rowsTo_last n bs k]
      show _ = payStep n bs (payTo n bs k) k
      unfold payStep
      rw [if_neg hw]

theorem keepR_t {lo hi : Nat} {A B C : World} (h : KeepR lo hi A B) (k : KeepR lo hi B C) : KeepR lo hi A C := h.trans k
theorem keepR_b {lo hi : Nat} {w : World} (hn : hi ≤ w.heap.size) (W : World) (l : Nat) (o o' : Obj) (hl : w.heap.size ≤ l) (_ : W.heap[l]? = some o) (_ : o.isCells = false) (_ : o.isWalk = false) : KeepR lo hi W (W.putObj l o') :=
  ⟨by simp, fun i _ h2 => World.putObj_heap_other (by omega)⟩
theorem ownFrom_keepR {β : Type} {lo hi B : Nat} {w₀ : World} (hB : hi ≤ w₀.heap.size) (hB' : hi ≤ B) : OwnFrom B (fun (_ : β) W => KeepR lo hi w₀ W) :=
  fun _ X Y row hs hg hr => ⟨Nat.le_trans hs.size hg.size, fun i h1 h2 => (hg.block i (by have := hs.size; omega) (fun e => by have := (hr i e.symm).1; omega)).trans (hs.same i h1 h2)⟩
theorem KeepR.set {lo hi : Nat} (W : World) {p : Addr} (hp : p.block < lo ∨ hi ≤ p.block) (u : Value) : KeepR lo hi W (W.setCell p u) :=
  ⟨by simp [World.setCell], fun i h1 h2 => Below.heap_setCell W p u i (by omega)⟩
theorem KeepR.of_below {lo hi : Nat} {A B : World} (h : Below hi A B) : KeepR lo hi A B := ⟨h.size, fun i _ hi => h.block i hi⟩
/-- a row of cells abides what turns no cells -/
theorem own_cells {W W' : World} {row : Option Nat} {b : Nat} {e : TypeId} {sz n : Nat} {v : Value} {xs : List Value} (h : W.ownsRow b e sz v n xs) (hg : W.grownBy W' row) (hr : ∀ r, row = some r → ∃ o : Obj, W.heap[r]? = some o ∧ o.isCells = false) : W'.ownsRow b e sz v n xs := by
  refine own_far h hg fun r e he => ?_
  obtain ⟨o, ho, hc⟩ := hr r e
  obtain ⟨_, h | ⟨g, cap, cur, hv, hgb, hcur, _⟩⟩ := h
  · rw [h.1] at he; cases he
  · rw [hv] at he
    injection he with he
    simp only at he
    subst he
    rw [ho] at hcur
    cases hcur
    cases hc
theorem Blk.cells {W W' : World} {row : Option Nat} {g : Nat} {t : TypeId} {cs : Array Value} (h : Blk W g t cs) (hg : W.grownBy W' row) (hr : ∀ r, row = some r → ∃ o : Obj, W.heap[r]? = some o ∧ o.isCells = false) : Blk W' g t cs :=
  h.grown hg fun e => by
    obtain ⟨o, ho, hc⟩ := hr g e.symm
    unfold Blk at h
    rw [h] at ho
    cases ho
    cases hc
theorem own_base {w : World} {b b' : Nat} {e : TypeId} {sz n : Nat} {v : Value} {xs : List Value} (h : w.ownsRow b e sz v n xs) (hb : b' ≤ b) : w.ownsRow b' e sz v n xs := by
  obtain ⟨h1, h | ⟨g, cap, cur, hv, hgb, hrest⟩⟩ := h
  · exact ⟨h1, .inl h⟩
  · exact ⟨h1, .inr ⟨g, cap, cur, hv, Nat.le_trans hb hgb, hrest⟩⟩

/-- what was told last -/
def lastT (d : List Int) (xs : List (Int × List Int × Value)) : List Int := ((tells xs).map (·.2)).getLastD d
theorem lastT_snoc (d : List Int) (xs : List (Int × List Int × Value)) (x : Int × List Int × Value) : lastT d (xs ++ [x]) = x.2.1 := by
  simp [lastT, tells]
theorem lastT_all {n : Int} {bs : List (List Off)} (hi : instE n bs = 0) {xs : List (Int × List Int × Value)} (h : tells xs = (whoL n bs).zip (rowsL n bs)) : lastT (bidsC n bs) xs = payTo n bs bs.length := by
  unfold lastT
  rw [h, ← List.unzip_snd, List.unzip_zip (by rw [rowsL_len])]
  unfold rowsL
  rw [if_pos hi]
  exact rowsTo_last _ _ _

/-- between two turns: what is told last lies at g -/
def PayI (lo g : Nat) (d : List Int) (xs : List (Int × List Int × Value)) (W : World) : Prop :=
  ∃ A' c', Blk W g 34 #[.slice A' (lastT d xs).length c'] ∧ W.ownsRow lo 2 1 (.slice A' (lastT d xs).length c') (lastT d xs).length (ints (lastT d xs))
theorem payI_own (lo g : Nat) (d : List Int) : Own (PayI lo g d) := fun _ _ _ _ ⟨A', c', h1, h2⟩ hg hr => ⟨A', c', h1.cells hg hr, own_cells h2 hg hr⟩

set_option maxHeartbeats 800000 in
theorem corePay_err (n : Int) (bs : List (List Off)) (v : Value) (R : Nat → Prop) (w : World) (hl : Buys w R v bs) (hi : instE n bs ≠ 0) :
    Calls Try.prog 39 #[.agg #[.int .i64 n, v]] w fun e w' => e = .returned (.tuple #[.slice none 0 0, .int .i64 (instE n bs)]) ∧ Below w.heap.size w w' := by
  obtain ⟨_, ⟨_, A, cap, rfl, _⟩, _⟩ := id hl
  have HB := Lib.hid hl
  have HI := Lib.hid hi
  have hne : (instE n bs != 0) = true := by simpa using hi
  clear hl hi
  refine (callsIn_wide (n := 3)).1 (callsIn_of_wp_marks Try.func39 rfl trivial ((wpIn_wide (n := 3)).2 ?_))
  simp only [Try.ntmps39, List.size_toArray, List.length_cons, List.length_nil, Nat.reduceAdd, Nat.reduceSub, Array.replicate_succ, Array.replicate_zero, List.push_toArray, List.append_toArray, List.nil_append, List.cons_append]
  go_wp2_with fail
  refine (of_err n bs _ R _ (HB.out.alloc _) HI.out).mono ?_
  rintro e w1 ⟨rfl, hb1⟩
  have HB1 := Lib.hid (one_blk' hb1).2.2
  clear hb1
  go_wp2_with fail
  exact ⟨.tuple #[.slice none 0 0, .int .i64 (instE n bs)], by simp [results, Try.results39, go_sem], rfl, HB1.out⟩

set_option maxRecDepth 100000 in
set_option maxHeartbeats 4000000 in
theorem corePay_ok (n : Int) (bs : List (List Off)) (v : Value) (R : Nat → Prop) (w : World) (hl : Buys w R v bs) (hi : instE n bs = 0) :
    Calls Try.prog 39 #[.agg #[.int .i64 n, v]] w fun e w' => ∃ A' c', e = .returned (.tuple #[.slice A' bs.length c', .int .i64 0]) ∧ w'.ownsRow w.heap.size 2 1 (.slice A' bs.length c') bs.length (ints (payTo n bs bs.length)) ∧ Below w.heap.size w w' := by
  obtain ⟨_, ⟨_, A, cap, rfl, _⟩, _⟩ := id hl
  have HB := Lib.hid hl
  have HI := Lib.hid hi
  have HWF := Lib.hid (Buys.wf hl)
  have hl32 := (instE_zero hi).2.2.1
  clear hl hi
  refine (callsIn_wide (n := 3)).1 (callsIn_of_wp_marks Try.func39 rfl trivial ((wpIn_wide (n := 3)).2 ?_))
  simp only [Try.ntmps39, List.size_toArray, List.length_cons, List.length_nil, Nat.reduceAdd, Nat.reduceSub, Array.replicate_succ, Array.replicate_zero, List.push_toArray, List.append_toArray, List.nil_append, List.cons_append]
  go_wp2_with fail
  refine (of_ok n bs _ R _ (HB.out.alloc _) HI.out).mono ?_
  rintro e w1 ⟨g, A1, c1, rfl, hw1, hb1⟩
  have HX1 := Lib.hid (one_blk' hb1).1
  have HB1 := Lib.hid (one_blk' hb1).2.2
  have hs1 := (one_blk' hb1).2.1
  have HW1 := Lib.hid hw1
  have hcb := hw1.cb
  have hx1 : w1.cell? ⟨w.heap.size, 0, none⟩ = some (.int .i64 n) := (one_blk' hb1).1.cell 0
  have hx2 : w1.cell? ⟨w.heap.size, 1, none⟩ = some (.slice A bs.length cap) := (one_blk' hb1).1.cell 1
  clear hw1 hb1
  have hx1a := cellAlloc hx1 (.cells #[.slice A1 bs.length c1] 34)
  have hx2a := cellAlloc hx2 (.cells #[.slice A1 bs.length c1] 34)
  go_wp2_with fail
  obtain ⟨W2, hW2⟩ : ∃ W, W = w1.alloc (.cells #[.slice A1 bs.length c1] 34) := ⟨_, rfl⟩
  have HO2 := Lib.hid (show Blk W2 w1.heap.size 34 #[.slice A1 bs.length c1] from by rw [hW2]; exact Blk.new w1 _ _)
  have HW2 := Lib.hid (show W2.ownsRow (w.heap.size + 1) 2 1 (.slice A1 bs.length c1) bs.length (ints (bidsC n bs)) from by rw [hW2]; exact own_alloc (by simpa using HW1.out.2.2) _)
  have HB2 := Lib.hid (show Below w.heap.size w W2 from by rw [hW2]; exact HB1.out.alloc (by omega) _)
  have hs2 : W2.heap.size = w1.heap.size + 1 := by rw [hW2]; simp
  rw [← hW2]
  clear hW2 hx1 hx2 hx1a hx2a
  refine (coreSteps_ok n bs _ R _ (HB.out.grow HB2.out) HI.out).mono ?_
  rintro e w3 ⟨b4, b3, rfl, hsh, hb3⟩
  have HO3 := Lib.hid (HO2.out.grow hb3)
  have HW3 := Lib.hid (own_grow HW2.out hb3)
  have HB3 := Lib.hid (HB2.out.trans (hb3.mono HB2.out.size))
  have HSH := Lib.hid hsh
  have hs3 := hb3.size
  clear hb3 hsh
  go_wp2_with fail
  refine (wpIn_wide (n := 3)).1 ?_
  refine' wpIn_rangeFunc_V (F := Fence.wide) (n := 3) rfl (by omega) (gf := 98) (lb := #[.pointer (some ⟨b4, 0, none⟩), .pointer (some ⟨b3, 0, none⟩)]) rfl trivial (enters_of Try.func98 (by kernel_rfl) rfl)
    (shared_stops Fence.wide 2 trivial rfl (by omega) HSH.out (by have := whoL_len n bs; omega) (rowsL_len n bs) (fun r hr => by rw [rowsTo_rows HI.out HWF.out hr]; omega) (KeepR.refl _ _ _)) keepR_t (keepR_b (Nat.le_refl _)) (Below.refl _ _) (fun _ => rfl) (told_own _ _)
    (fun pre W => PayI w.heap.size w1.heap.size (bidsC n bs) pre W ∧ Below w.heap.size w W)
    (fun _ _ _ => False)
    (OwnFrom.and (Own.from (payI_own _ _ _) _) (ownFrom_below (Nat.le_refl _) (by omega)))
    (fun c => fun _ _ _ _ h _ _ => h)
    ⟨⟨A1, c1, ?b1, ?b2⟩, HB3.out⟩ _ ?assign ?body ?done ?stop
  case b1 => rw [show (lastT (bidsC n bs) []).length = bs.length from bidsC_length n bs]; exact HO3.out
  case b2 => rw [show (lastT (bidsC n bs) []).length = bs.length from bidsC_length n bs]; exact own_mono HW3.out (by omega)
  case assign =>
    intro l x W K hK
    gi_wp2
    exact hK
  case body =>
    rintro l pre x W ⟨⟨A', c', hI, hI2⟩, hB⟩ hT hsp hlt2
    have hTT : W.ownsRow (w3.heap.size + 2) 2 1 x.2.2 x.2.1.length (ints x.2.1) := hT
    obtain ⟨xa, xl, xv⟩ := x
    obtain ⟨Ax, cx, hxv⟩ := own_form hTT
    dsimp only at hxv hTT
    subst hxv
    have p0 : W.cell? ⟨w1.heap.size, 0, none⟩ = some (.slice A' (lastT (bidsC n bs) pre).length c') := hI.cell 0
    have p1 := hI.frozen 0
    have HII := Lib.hid hI
    have HT := Lib.hid hTT
    have HBB := Lib.hid hB
    clear hI hI2 hB hT hTT hsp hlt2
    dsimp only
    gi_wp2
    refine ⟨KeepsOthers.setCell _ _ _, KeepR.set W (.inl (by simp; omega)) _, ⟨Ax, cx, ?_, ?_⟩, HBB.out.setCell (p := ⟨w1.heap.size, 0, none⟩) (by simp; omega) _⟩
    · rw [lastT_snoc]
      exact HII.out.set_ 0 (.slice Ax xl.length cx)
    · rw [lastT_snoc]
      exact own_mono (own_lo HT.out (grownBy_setCell W ⟨w1.heap.size, 0, none⟩ (.slice Ax xl.length cx)) (fun g e => by simp at e; omega)) (by omega)
  case done =>
    rintro D ys W hD hys ⟨⟨A', c', hI, hI2⟩, hB⟩ hK
    have hlen := payTo_len HI.out HWF.out (Nat.le_refl bs.length)
    rw [lastT_all HI.out hys, hlen] at hI hI2
    have p0 : W.cell? ⟨w1.heap.size, 0, none⟩ = some (.slice A' bs.length c') := hI.cell 0
    have HO := Lib.hid hI2
    have HBB := Lib.hid hB
    have HK := Lib.hid hK
    clear hI hI2 hB hK hlen
    go_wp2_with fail
    refine ⟨by simp, .inl ⟨_, _, rfl, run_takeDeferred HK.out, ?_⟩⟩
    refine ⟨.tuple #[.slice A' bs.length c', .int .i64 0], by simp [results, Try.results39, go_sem], A', c', rfl, own_cells HO.out (grownBy_putObj' W D (.deferred none)) (fun r e => by cases e; exact ⟨_, HK.out, rfl⟩), HBB.out.trans (belowK_b (w := w) (Nat.le_refl _) W D _ _ (by omega) HK.out rfl rfl)⟩
  case stop =>
    rintro D c pre W hD hpre2 hf hK
    exact hf.elim
end Go.Proofs.Ytcigobiolbojhaa.Vb

/- CoreStands: the steps, one behind the other. -/
namespace Go.Proofs.Ytcigobiolbojhaa.Vb
open Go.RowKit

def atOf (pre : List (Int × List Int)) : Int := match pre.getLast? with | some x => x.1 | none => -1
def lastOf (pre : List (Int × List Int)) : Int := match pre.getLast? with | some x => sumI x.2 | none => -1
theorem atOf_snoc (pre : List (Int × List Int)) (x : Int × List Int) : atOf (pre ++ [x]) = x.1 := by simp [atOf]
theorem lastOf_snoc (pre : List (Int × List Int)) (x : Int × List Int) : lastOf (pre ++ [x]) = sumI x.2 := by simp [lastOf]

section
variable {n : Int} {bs : List (List Off)}
def zipTo (n : Int) (bs : List (List Off)) (k : Nat) : List (Int × List Int) := (whoTo (bestC n bs) k).zip (rowsTo n bs k)
theorem zipTo_yes {k : Nat} (h : winB (bestC n bs) k = true) : zipTo n bs (k + 1) = zipTo n bs k ++ [((k : Int), payTo n bs (k + 1))] := by
  unfold zipTo
  have hr : rowsTo n bs (k + 1) = rowsTo n bs k ++ [payTo n bs (k + 1)] := by simp [rowsTo, h]
  rw [whoTo_yes h, hr, List.zip_append (by rw [rowsTo_len])]
  rfl
theorem zipTo_no {k : Nat} (h : winB (bestC n bs) k = false) : zipTo n bs (k + 1) = zipTo n bs k := by
  unfold zipTo
  have hr : rowsTo n bs (k + 1) = rowsTo n bs k := by simp [rowsTo, h]
  rw [whoTo_no h, hr]
theorem payTo_no {k : Nat} (h : winB (bestC n bs) k = false) : payTo n bs (k + 1) = payTo n bs k := by
  show payStep n bs (payTo n bs k) k = _
  unfold payStep
  rw [if_neg (by rw [h]; simp)]

theorem sumI_nonneg {l : List Int} (h : ∀ x ∈ l, 0 ≤ x) : 0 ≤ sumI l := by
  induction l with
  | nil => simp [sumI]
  | cons a l ih =>
    have h1 := h a (by simp)
    have h2 := ih (fun x hx => h x (by simp [hx]))
    simp only [sumI]
    omega
theorem pay_sum_nonneg (hi : instE n bs = 0) (hwf : ∀ l ∈ bs, ∀ o ∈ l, o.wf) {p : List Int} (hok : payL p (bidsC n bs) = true) : 0 ≤ sumI p := sumI_nonneg fun x hx => (pay_bd hi hwf hok x hx).1

/-- what holds behind k buyers -/
theorem zip_inv (hi : instE n bs = 0) (hwf : ∀ l ∈ bs, ∀ o ∈ l, o.wf) : ∀ k, k ≤ bs.length →
    (atOf (zipTo n bs k) < k ∧ ((zipTo n bs k = [] ∧ payTo n bs k = bidsC n bs ∧ ∀ j, j < k → winB (bestC n bs) j = false) ∨ (zipTo n bs k ≠ [] ∧ lastOf (zipTo n bs k) = sumI (payTo n bs k)))) ∧
    ∀ pre x, pre ++ [x] <+: zipTo n bs k → FreeP n bs x.2 ∧ atOf pre < x.1 ∧ 0 ≤ x.1 ∧ x.1 < (bs.length : Int) ∧ (pre ≠ [] → sumI x.2 ≤ lastOf pre)
  | 0, _ => ⟨⟨by show (-1 : Int) < 0; decide, .inl ⟨rfl, rfl, fun j h => by omega⟩⟩, fun pre x h => by
      have := h.length_le
      simp [zipTo, whoTo] at this⟩
  | k + 1, hk => by
    obtain ⟨⟨h1, h2⟩, h3⟩ := zip_inv hi hwf k (by omega)
    cases hw : winB (bestC n bs) k with
    | false =>
      rw [zipTo_no hw, payTo_no hw]
      refine ⟨⟨by omega, ?_⟩, h3⟩
      rcases h2 with ⟨a, b, c⟩ | h2
      · refine .inl ⟨a, b, fun j hj => ?_⟩
        by_cases hjk : j = k
        · subst hjk; exact hw
        · exact c j (by omega)
      · exact .inr h2
    | true =>
      rw [zipTo_yes hw]
      have hs := sum_step hi hwf (show k < bs.length by omega)
      refine ⟨⟨by rw [atOf_snoc]; simp only; omega, .inr ⟨by simp, by rw [lastOf_snoc]⟩⟩, fun pre x h => ?_⟩
      rw [List.prefix_concat_iff] at h
      rcases h with h | h
      · have h4 := List.append_inj' h rfl
        obtain rfl := List.singleton_inj.1 h4.2
        obtain rfl := h4.1
        refine ⟨free_to hi hwf (k + 1) hk, h1, by simp only; omega, by simp only; omega, fun hne => ?_⟩
        rcases h2 with ⟨a, _⟩ | ⟨_, h2⟩
        · exact absurd a hne
        · rw [h2]; exact hs
      · exact h3 pre x h
theorem zip_all (hi : instE n bs = 0) : (whoL n bs).zip (rowsL n bs) = zipTo n bs bs.length := by
  unfold whoL rowsL zipTo
  rw [if_pos hi, if_pos hi]
/-- at the end -/
theorem zip_end (hi : instE n bs = 0) (hwf : ∀ l ∈ bs, ∀ o ∈ l, o.wf) : (zipTo n bs bs.length = [] ∧ sumI (payTo n bs bs.length) = 0) ∨ (zipTo n bs bs.length ≠ [] ∧ lastOf (zipTo n bs bs.length) = sumI (payTo n bs bs.length) ∧ 0 ≤ sumI (payTo n bs bs.length)) := by
  have hf := free_to hi hwf bs.length (Nat.le_refl _)
  rcases (zip_inv hi hwf bs.length (Nat.le_refl _)).1.2 with ⟨a, b, c⟩ | ⟨a, b⟩
  · refine .inl ⟨a, ?_⟩
    rw [b]
    have h0 : ∀ x ∈ bidsC n bs, x = 0 := by
      intro x hx
      obtain ⟨i, hi', rfl⟩ := List.getElem_of_mem hx
      have : i < bs.length := by rwa [bidsC_length] at hi'
      exact lose_bid (c i this) (List.getElem?_eq_getElem hi')
    generalize bidsC n bs = l at h0
    clear hf a b c
    induction l with
    | nil => rfl
    | cons x l ih =>
      simp only [sumI]
      rw [h0 x (by simp), ih (fun y hy => h0 y (by simp [hy]))]
      rfl
  · exact .inr ⟨a, b, pay_sum_nonneg hi hwf hf.1⟩
end
end Go.Proofs.Ytcigobiolbojhaa.Vb

/- The reference of layer 18: Steps. -/
namespace Go.Proofs.Ytcigobiolbojhaa.Vb
open Go.RowKit

theorem et_step : ElemT Try.prog 75 83 2 32 := elemT_of Try.underlying75 (by omega) (z := .agg #[.int .i64 0, .slice none 0 0]) (by kernel_rfl) rfl
def stepCells : List (Int × List Int) → List Value → List Value
  | z :: zs, u :: vs => .int .i64 z.1 :: u :: stepCells zs vs
  | _, _ => []
theorem stepCells_len : ∀ {zs : List (Int × List Int)} {vs : List Value}, vs.length = zs.length → (stepCells zs vs).length = zs.length * 2
  | [], [], _ => rfl
  | z :: zs, u :: vs, h => by
    have := stepCells_len (zs := zs) (vs := vs) (by simpa using h)
    simp only [stepCells, List.length_cons, this]
    omega
theorem stepCells_snoc : ∀ {zs : List (Int × List Int)} {vs : List Value} (z : Int × List Int) (u : Value), vs.length = zs.length → stepCells (zs ++ [z]) (vs ++ [u]) = stepCells zs vs ++ [.int .i64 z.1, u]
  | [], [], z, u, _ => rfl
  | z0 :: zs, u0 :: vs, z, u, h => by
    have := stepCells_snoc (zs := zs) (vs := vs) z u (by simpa using h)
    simp only [stepCells, List.cons_append, this]
theorem stepCells_at : ∀ {zs : List (Int × List Int)} {vs : List Value} {j : Nat} {z : Int × List Int} {u : Value}, zs[j]? = some z → vs[j]? = some u → (stepCells zs vs)[j * 2]? = some (.int .i64 z.1) ∧ (stepCells zs vs)[j * 2 + 1]? = some u
  | [], _, j, z, u, h, _ => by simp at h
  | _ :: _, [], j, z, u, _, h => by simp at h
  | z0 :: zs, u0 :: vs, 0, z, u, h1, h2 => by
    simp at h1 h2
    subst h1 h2
    exact ⟨rfl, rfl⟩
  | z0 :: zs, u0 :: vs, j + 1, z, u, h1, h2 => by
    have := stepCells_at (zs := zs) (vs := vs) (j := j) (z := z) (u := u) (by simpa using h1) (by simpa using h2)
    rw [show (j + 1) * 2 = j * 2 + 1 + 1 from by omega]
    exact this

/-- steps in memory of their own -/
def StepsR (w : World) (lo : Nat) (sl : Value) (zs : List (Int × List Int)) : Prop :=
  ∃ vs : List Value, vs.length = zs.length ∧ w.ownsRow lo 83 2 sl zs.length (stepCells zs vs) ∧ ∀ (j : Nat) (z : Int × List Int), zs[j]? = some z → ∃ u, vs[j]? = some u ∧ Sl w (fun b => lo ≤ b ∧ sl.ownBlock ≠ some b) u z.2.length 1 (ints z.2)
theorem StepsR.grow {w w' : World} {lo : Nat} {sl : Value} {zs : List (Int × List Int)} (h : StepsR w lo sl zs) (hb : Below w.heap.size w w') : StepsR w' lo sl zs := by
  obtain ⟨vs, h1, h2, h3⟩ := h
  exact ⟨vs, h1, own_grow h2 hb, fun j z hj => let ⟨u, hu, hs⟩ := h3 j z hj; ⟨u, hu, hs.grow hb⟩⟩
/-- what is written lies above lo, in no row of the steps -/
theorem StepsR.keep {w w' : World} {lo hi : Nat} {sl : Value} {zs : List (Int × List Int)} (h : StepsR w lo sl zs) (hk : KeepR lo hi w w') (hh : hi = w.heap.size) : StepsR w' lo sl zs := by
  subst hh
  obtain ⟨vs, h1, h2, h3⟩ := h
  refine ⟨vs, h1, ?_, fun j z hj => ?_⟩
  · obtain ⟨a, b | ⟨g, cap, cur, hv, hgb, hcur, hrest⟩⟩ := h2
    · exact ⟨a, .inl b⟩
    · exact ⟨a, .inr ⟨g, cap, cur, hv, hgb, (hk.same g hgb (Array.getElem?_eq_some_iff.1 hcur).1).trans hcur, hrest⟩⟩
  · obtain ⟨u, hu, hs⟩ := h3 j z hj
    refine ⟨u, hu, ?_⟩
    have := (hk.sl (hs.mono fun b hlt hb => ⟨hb.1, hlt⟩) : Sl w' (fun b => lo ≤ b ∧ b < w.heap.size) u z.2.length 1 (ints z.2))
    exact (Sl.keep (R := fun b => lo ≤ b ∧ sl.ownBlock ≠ some b) hs hk.size fun b hlt hb => hk.same b hb.1 hlt)

theorem sl_app {w w' : World} {lo n sz : Nat} {v u : Value} {m : Nat} {xs : List Value} {A' : Option Addr} {cap' : Nat} (h : Sl w (fun b => lo ≤ b ∧ v.ownBlock ≠ some b) u n sz xs) (hg : w.grownBy w' v.ownBlock)
    (hloc : (Value.slice A' m cap').ownBlock = v.ownBlock ∨ (Value.slice A' m cap').ownBlock = some w.heap.size) : Sl w' (fun b => lo ≤ b ∧ (Value.slice A' m cap').ownBlock ≠ some b) u n sz xs := by
  refine (h.sized.grown hg fun b _ hb e => hb.1.2 e.symm).mono fun b _ hb => ⟨hb.1.1, fun e => ?_⟩
  rcases hloc with e' | e'
  · exact hb.1.2 (e'.symm.trans e)
  · rw [e'] at e
    injection e with e
    omega
theorem StepsR.snoc {w w' : World} {lo m : Nat} {v : Value} {zs : List (Int × List Int)} {vs : List Value} {z : Int × List Int} {u : Value} {A' : Option Addr} {cap' : Nat} (hm : zs.length = m) (hv : vs.length = zs.length)
    (ho : ∀ (j : Nat) (z : Int × List Int), zs[j]? = some z → ∃ u, vs[j]? = some u ∧ Sl w (fun b => lo ≤ b ∧ v.ownBlock ≠ some b) u z.2.length 1 (ints z.2))
    (hu : Sl w (fun b => lo ≤ b ∧ v.ownBlock ≠ some b) u z.2.length 1 (ints z.2))
    (hown : w'.ownsRow lo 83 2 (.slice A' (m + 1) cap') (m + 1) (stepCells zs vs ++ [.int .i64 z.1, u])) (hg : w.grownBy w' v.ownBlock)
    (hloc : (Value.slice A' (m + 1) cap').ownBlock = v.ownBlock ∨ (Value.slice A' (m + 1) cap').ownBlock = some w.heap.size) : StepsR w' lo (.slice A' (m + 1) cap') (zs ++ [z]) := by
  subst hm
  refine ⟨vs ++ [u], by simp [hv], by rw [stepCells_snoc z u hv]; simpa using hown, fun j z' hj => ?_⟩
  by_cases hlt : j < zs.length
  · rw [List.getElem?_append_left hlt] at hj
    obtain ⟨u', hu', hs'⟩ := ho j z' hj
    exact ⟨u', by rw [List.getElem?_append_left (by omega)]; exact hu', sl_app hs' hg hloc⟩
  · have : j = zs.length := by
      rcases Nat.lt_or_ge j (zs ++ [z]).length with h | h
      · simp at h; omega
      · rw [List.getElem?_eq_none h] at hj; cases hj
    subst this
    simp at hj
    subst hj
    exact ⟨u, by rw [← hv]; simp, sl_app hu hg hloc⟩

set_option maxHeartbeats 800000 in
theorem refSteps_err (n : Int) (bs : List (List Off)) (v : Value) (R : Nat → Prop) (w : World) (hl : Buys w R v bs) (hi : instE n bs ≠ 0) :
    Calls Try.prog 41 #[.agg #[.int .i64 n, v]] w fun e w' => e = .returned (.slice none 0 0) ∧ Below w.heap.size w w' := by
  obtain ⟨_, ⟨_, A, cap, rfl, _⟩, _⟩ := id hl
  have HB := Lib.hid hl
  have HI := Lib.hid hi
  have hne : (instE n bs != 0) = true := by simpa using hi
  clear hl hi
  go_enter Try.func41, Try.ntmps41
  go_wp2_with fail
  refine (refBids_err n bs _ R _ (HB.out.alloc _) HI.out).mono ?_
  rintro e w1 ⟨rfl, hb1⟩
  have HB1 := Lib.hid (one_blk' hb1).2.2
  clear hb1
  go_wp2_with fail
  go_ret
  exact ⟨rfl, HB1.out⟩

set_option maxRecDepth 100000 in
set_option maxHeartbeats 3200000 in
theorem refSteps_ok (n : Int) (bs : List (List Off)) (v : Value) (R : Nat → Prop) (w : World) (hl : Buys w R v bs) (hi : instE n bs = 0) :
    Calls Try.prog 41 #[.agg #[.int .i64 n, v]] w fun e w' => ∃ A' c', e = .returned (.slice A' (zipTo n bs bs.length).length c') ∧ StepsR w' w.heap.size (.slice A' (zipTo n bs bs.length).length c') (zipTo n bs bs.length) ∧ Below w.heap.size w w' := by
  obtain ⟨_, ⟨_, A, cap, rfl, _⟩, _⟩ := id hl
  have HB := Lib.hid hl
  have HI := Lib.hid hi
  have HWF := Lib.hid (Buys.wf hl)
  have hl32 := (instE_zero hi).2.2.1
  clear hl hi
  go_enter Try.func41, Try.ntmps41
  go_wp2_with fail
  refine (refBids_ok n bs _ R _ (HB.out.alloc _) HI.out).mono ?_
  rintro e w1 ⟨A1, c1, A2, c2, rfl, hown1, hown2, hb1⟩
  obtain ⟨hX, hs1, hbw⟩ := one_blk' hb1
  have HX := Lib.hid hX
  have HBI := Lib.hid (Sl.of_own hown1).any
  have HWI := Lib.hid (Sl.of_own hown2).any
  have HBW := Lib.hid hbw
  clear hX hbw hown1 hown2 hb1
  go_wp2_with (at_builtin; refine wpList_app _ rfl (.const (.slice none 0 0)) (.tmp 18) et_i64 rfl w1.heap.size (.slice none 0 0) 0 [] rfl (World.ownsRow_nil _ _ _ _) _ _ bs.length (ints (bidsC n bs)) rfl HBI.out (by simp [ints, Value.oneCell']) (by omega) (by unfold maxLen; omega) (Nat.le_refl _) ?_; intro A3 c3 w3 hown3 hg3 _; rw [Nat.zero_add] at hown3 ⊢; rw [List.nil_append] at hown3; have HOW3 := Lib.hid hown3; have HG3 := Lib.hid ((Below.refl w1.heap.size w1).grown hg3 (Nat.le_refl _) (fun r e => by cases e)); clear hown3 hg3)
  go_loopw [6, 7, 8] (fun s1 s2 i wr => ∃ (k : Nat) (Ao : Option Addr) (co : Nat) (Ap : Option Addr) (cp : Nat), k ≤ bs.length ∧ i = .int .i64 k ∧ s1 = .slice Ao (zipTo n bs k).length co ∧ s2 = .slice Ap bs.length cp ∧
      StepsR wr w1.heap.size (.slice Ao (zipTo n bs k).length co) (zipTo n bs k) ∧ Sl wr (fun b => w1.heap.size ≤ b ∧ (Value.slice Ao (zipTo n bs k).length co).ownBlock ≠ some b) (.slice Ap bs.length cp) bs.length 1 (ints (payTo n bs k)) ∧ Below w1.heap.size w1 wr) (fun _ _ i _ => bs.length - (intOf i).toNat)
  case atStart =>
    refine ⟨0, none, 0, A3, c3, Nat.zero_le _, rfl, rfl, rfl, ⟨[], rfl, World.ownsRow_nil _ _ _ _, fun j z hj => by simp [zipTo, whoTo] at hj⟩, ?_, HG3.out⟩
    exact (Sl.own_from HOW3.out).mono fun b _ hb => ⟨hb, by simp [Value.ownBlock]⟩
  case round =>
    obtain ⟨k, Ao, co, Ap, cp, hk, rfl, rfl, rfl, hst, hpy, hb⟩ := hrel
    have hbw := HBW.out.trans (hb.mono (B' := w.heap.size) (by omega))
    have hsz := hb.size
    have hXr := HX.out.below hb (by omega)
    have x0 : wr.cell? ⟨w.heap.size, 0, none⟩ = some (.int .i64 n) := hXr.cell 0
    have x1 : wr.cell? ⟨w.heap.size, 1, none⟩ = some (.slice A bs.length cap) := hXr.cell 1
    have HXR := Lib.hid hXr
    have HST := Lib.hid hst
    have HPY := Lib.hid hpy
    have HBB := Lib.hid hb
    have HBWR := Lib.hid hbw
    clear hst hpy hXr
    by_cases hlt : k < bs.length
    · have hwg := winL_get (n := n) hlt
      obtain ⟨_, A2', c2', hv2, _, _, hcw⟩ := HWI.out
      injection hv2 with hv21 _ hv22
      subst hv21 hv22
      obtain ⟨gW, oW, rfl, _, hgW, hcw⟩ := hcw (by omega)
      have dW := (hb.cell hgW).trans (hcw k _ (show (bools (winL n bs))[k]? = some (.bool (winB (bestC n bs) k)) from by simp [bools, hwg]))
      have e1 : (0 : Int) ≤ (k : Int) := by omega
      have e2 : (k : Int) < (bs.length : Int) := by omega
      have hzl : (zipTo n bs k).length ≤ 40 := by unfold zipTo; rw [List.length_zip, rowsTo_len, Nat.min_self]; exact Nat.le_trans (whoTo_len _ _) (by omega)
      clear hcw hwg hb hbw
      cases hw : winB (bestC n bs) k with
      | false =>
        rw [hw] at dW
        have HZ := Lib.hid (zipTo_no hw)
        have HPN := Lib.hid (payTo_no hw)
        clear hw
        go_wp2_with fail
        go_roundw
        case rel => exact ⟨k + 1, Ao, co, Ap, cp, by omega, by go_num, by rw [HZ.out], rfl, by rw [HZ.out]; exact HST.out, by rw [HZ.out, HPN.out]; exact HPY.out, HBB.out⟩
        case measure => simp [intOf]; omega
      | true =>
        rw [hw] at dW
        have HZ := Lib.hid (zipTo_yes hw)
        have hpe : payTo n bs (k + 1) = (payTo n bs k).set k (leastI n bs (payTo n bs k) k) := by
          show payStep n bs (payTo n bs k) k = _
          unfold payStep
          rw [if_pos hw]
        have HPE := Lib.hid hpe
        have hpl := payTo_len HI.out HWF.out (k := k) (by omega)
        have hpok := (free_to HI.out HWF.out k (by omega)).1
        have HPL := Lib.hid hpl
        have HPO := Lib.hid hpok
        clear hw hpe hpl hpok
        go_wp2_with (at_builtin; refine wpList_app _ rfl (.const (.slice none 0 0)) (.tmp 31) et_i64 rfl wr.heap.size (.slice none 0 0) 0 [] rfl (World.ownsRow_nil _ _ _ _) _ _ bs.length (ints (payTo n bs k)) rfl HPY.out (by simp [ints, Value.oneCell']) (by omega) (by unfold maxLen; omega) (Nat.le_refl _) ?_; intro A4 c4 w4 hown4 hg4 _; rw [Nat.zero_add] at hown4 ⊢; rw [List.nil_append] at hown4; have hg4' := (Below.refl wr.heap.size wr).grown hg4 (Nat.le_refl _) (fun r e => by cases e); have y0 : w4.cell? ⟨w.heap.size, 0, none⟩ = some (.int .i64 n) := (HXR.out.grow hg4').cell 0; have y1 : w4.cell? ⟨w.heap.size, 1, none⟩ = some (.slice A bs.length cap) := (HXR.out.grow hg4').cell 1; have HOW4 := Lib.hid hown4; have HG4 := Lib.hid hg4'; clear hown4 hg4 hg4')
        obtain ⟨g4, rfl, hg4a, hg4b, _, _, _⟩ := own_some HOW4.out (by omega)
        refine (refLeast18_any n bs _ _ (payTo n bs k) (.slice Ap bs.length cp) _ _ R k hlt w4 (HB.out.grow (HBWR.out.trans (HG4.out.mono (by omega)))) ((HBI.out.grow (HBB.out.mono (by omega))).grow HG4.out) (by rw [HPL.out]; exact HPY.out.grow HG4.out) HI.out HPO.out).mono ?_
        rintro e w5 ⟨rfl, hb5⟩
        obtain ⟨vs, hvl, hso, hsp⟩ := HST.out
        have hb45 := HG4.out.trans (hb5.mono HG4.out.size)
        have hown5 := own_grow HOW4.out hb5
        obtain ⟨g5, hg5, _, _, _, hfz, hce⟩ := own_some hown5 (by omega)
        obtain rfl : g4 = g5 := by simpa using hg5
        obtain ⟨u5, _, hc5⟩ := hce k hlt
        have hf5 := hfz k
        have hgo : ∀ g, (Value.slice Ao (zipTo n bs k).length co).ownBlock = some g → g ≠ g4 := fun g e => by have := (hso.lt g e).2; omega
        have hst5 := hown5.stored k (.int .i64 (leastI n bs (payTo n bs k) k))
        have hset : ints (payTo n bs (k + 1)) = (ints (payTo n bs k)).set k (.int .i64 (leastI n bs (payTo n bs k) k)) := by rw [HPE.out]; simp [ints]
        rw [← hset] at hst5
        obtain ⟨w6, hw6⟩ : ∃ V, V = (w5.setCell ⟨g4, k, none⟩ (.int .i64 (leastI n bs (payTo n bs k) k))).alloc (.cells #[.int .i64 (k : Int), .slice (some ⟨g4, 0, none⟩) bs.length c4] 83) := ⟨_, rfl⟩
        have hs56 : w6.heap.size = w5.heap.size + 1 := by rw [hw6]; simp [World.setCell]
        have hs45 := hb5.size
        have hs34 := HG4.out.size
        have hso6 : w6.ownsRow w1.heap.size 83 2 (.slice Ao (zipTo n bs k).length co) (zipTo n bs k).length (stepCells (zipTo n bs k) vs) := by
          rw [hw6]; exact own_alloc (own_far (own_grow hso hb45) (grownBy_setCell w5 ⟨g4, k, none⟩ _) (fun g e e2 => by simp at e; exact hgo g e2 e.symm)) _
        have hsp6 : ∀ (j : Nat) (z : Int × List Int), (zipTo n bs k)[j]? = some z → ∃ u, vs[j]? = some u ∧ Sl w6 (fun b => w1.heap.size ≤ b ∧ (Value.slice Ao (zipTo n bs k).length co).ownBlock ≠ some b) u z.2.length 1 (ints z.2) := fun j z hj => by
          obtain ⟨u, hu, hs⟩ := hsp j z hj
          refine ⟨u, hu, ?_⟩
          have h1 := (hs.grow hb45).sized
          rw [hw6]
          refine Sl.alloc ?_ _
          have h2 : Sl w5 (fun b => b < wr.heap.size ∧ w1.heap.size ≤ b ∧ (Value.slice Ao (zipTo n bs k).length co).ownBlock ≠ some b) u z.2.length 1 (ints z.2) := (hs.mono fun b hlt hb => ⟨hlt, hb.1, hb.2⟩).grow hb45
          exact (h2.set (p := ⟨g4, k, none⟩) (by simp; omega) _).mono fun b _ hb => hb.2
        have hn6 : Sl w6 (fun b => w1.heap.size ≤ b ∧ (Value.slice Ao (zipTo n bs k).length co).ownBlock ≠ some b) (.slice (some ⟨g4, 0, none⟩) bs.length c4) bs.length 1 (ints (payTo n bs (k + 1))) := by
          rw [hw6]
          refine ((Sl.of_own hst5.1).alloc _).mono fun b _ hb => ?_
          have : b = g4 := by simpa [Value.ownBlock] using hb.symm
          subst this
          exact ⟨by omega, fun e => hgo _ e rfl⟩
        have hB6 : Below w1.heap.size w1 w6 := by
          rw [hw6]
          exact ((HBB.out.trans (hb45.mono (by omega))).setCell (p := ⟨g4, k, none⟩) (by simp; omega) _).alloc (by simp [World.setCell]; omega) _
        have hv6 : Sl w6 (fun _ => True) (.slice (some ⟨w5.heap.size, 0, none⟩) 1 1) 1 2 [.int .i64 (k : Int), .slice (some ⟨g4, 0, none⟩) bs.length c4] := by
          rw [hw6]
          exact Sl.blk (sz := 2) (cs := #[.int .i64 (k : Int), .slice (some ⟨g4, 0, none⟩) bs.length c4]) (t := 83) (Blk.new' _ _ (by simp [World.setCell])) (Nat.le_refl 1) (by unfold maxLen; omega) rfl
        have hpl1 := payTo_len HI.out HWF.out (k := k + 1) (by omega)
        have HSO6 := Lib.hid hso6
        have HSP6 := Lib.hid hsp6
        have HN6 := Lib.hid hn6
        have HB6 := Lib.hid hB6
        have HV6 := Lib.hid hv6
        have HVL := Lib.hid hvl
        have HPL1 := Lib.hid hpl1
        clear hvl hso hsp hb45 hown5 hfz hce hgo hst5 hset hso6 hsp6 hn6 hB6 hv6 hpl1 hb5 y0 y1 hg5
        go_wp2_with (at_builtin; rw [← hw6]; refine wpList_app w6 rfl (.tmp 42) (.tmp 46) et_step rfl w1.heap.size (.slice Ao (zipTo n bs k).length co) (zipTo n bs k).length (stepCells (zipTo n bs k) vs) rfl HSO6.out (fun _ => True) (.slice (some ⟨w5.heap.size, 0, none⟩) 1 1) 1 [.int .i64 (k : Int), .slice (some ⟨g4, 0, none⟩) bs.length c4] rfl HV6.out (by simp [Value.oneCell']) (by omega) (by unfold maxLen; omega) (by omega) ?_; intro A7 c7 w7 hown7 hg7 hloc7; have HW7 := Lib.hid hown7; have HG7 := Lib.hid hg7; have HL7 := Lib.hid hloc7; clear hown7 hg7 hloc7)
        go_roundw
        case rel =>
          have hlen : (zipTo n bs (k + 1)).length = (zipTo n bs k).length + 1 := by rw [HZ.out]; simp
          refine ⟨k + 1, A7, c7, some ⟨g4, 0, none⟩, c4, by omega, by go_num, by rw [hlen], rfl, ?_, ?_, ?_⟩
          · rw [hlen, HZ.out]
            exact StepsR.snoc (z := ((k : Int), payTo n bs (k + 1))) (u := .slice (some ⟨g4, 0, none⟩) bs.length c4) rfl HVL.out HSP6.out (by rw [HPL1.out]; exact HN6.out) HW7.out HG7.out HL7.out
          · rw [hlen]
            exact sl_app HN6.out HG7.out HL7.out
          · exact HB6.out.grown HG7.out (by omega) (fun g e => (HSO6.out.lt g e).1)
        case measure => simp [intOf]; omega
    · obtain rfl : k = bs.length := by omega
      clear hb hbw
      go_wp2_with fail
      go_ret
      refine ⟨Ao, co, rfl, ?_, HBWR.out⟩
      obtain ⟨vs, h1, h2, h3⟩ := HST.out
      exact ⟨vs, h1, own_mono h2 (by omega), fun j z hj => let ⟨u, hu, hs⟩ := h3 j z hj; ⟨u, hu, hs.mono fun b _ hb => ⟨by omega, hb.2⟩⟩⟩
end Go.Proofs.Ytcigobiolbojhaa.Vb

/- The reference of layer 18: Pay. -/
namespace Go.Proofs.Ytcigobiolbojhaa.Vb
open Go.RowKit

theorem zip_last (n : Int) (bs : List (List Off)) : ∀ k, (zipTo n bs k = [] ∧ payTo n bs k = bidsC n bs) ∨ ∃ (m : Nat) (a : Int), (zipTo n bs k).length = m + 1 ∧ (zipTo n bs k)[m]? = some (a, payTo n bs k)
  | 0 => .inl ⟨rfl, rfl⟩
  | k + 1 => by
    cases hw : winB (bestC n bs) k with
    | false =>
      rw [zipTo_no hw, payTo_no hw]
      exact zip_last n bs k
    | true =>
      rw [zipTo_yes hw]
      exact .inr ⟨(zipTo n bs k).length, k, by simp, by simp⟩

set_option maxHeartbeats 800000 in
theorem refPay_err (n : Int) (bs : List (List Off)) (v : Value) (R : Nat → Prop) (w : World) (hl : Buys w R v bs) (hi : instE n bs ≠ 0) :
    Calls Try.prog 40 #[.agg #[.int .i64 n, v]] w fun e w' => e = .returned (.tuple #[.slice none 0 0, .int .i64 (instE n bs)]) ∧ Below w.heap.size w w' := by
  obtain ⟨_, ⟨_, A, cap, rfl, _⟩, _⟩ := id hl
  have HB := Lib.hid hl
  have HI := Lib.hid hi
  have hne : (instE n bs != 0) = true := by simpa using hi
  clear hl hi
  go_enter Try.func40, Try.ntmps40
  go_wp2_with fail
  refine (refBids_err n bs _ R _ (HB.out.alloc _) HI.out).mono ?_
  rintro e w1 ⟨rfl, hb1⟩
  have HB1 := Lib.hid (one_blk' hb1).2.2
  clear hb1
  go_wp2_with fail
  go_ret2
  exact ⟨rfl, HB1.out⟩

set_option maxRecDepth 100000 in
set_option maxHeartbeats 1600000 in
theorem refPay_ok (n : Int) (bs : List (List Off)) (v : Value) (R : Nat → Prop) (w : World) (hl : Buys w R v bs) (hi : instE n bs = 0) :
    Calls Try.prog 40 #[.agg #[.int .i64 n, v]] w fun e w' => ∃ A' c', e = .returned (.tuple #[.slice A' bs.length c', .int .i64 0]) ∧ Sl w' (w.heap.size ≤ ·) (.slice A' bs.length c') bs.length 1 (ints (payTo n bs bs.length)) ∧ Below w.heap.size w w' := by
  obtain ⟨_, ⟨_, A, cap, rfl, _⟩, _⟩ := id hl
  have HB := Lib.hid hl
  have HI := Lib.hid hi
  have hpl := payTo_len hi (Buys.wf hl) (Nat.le_refl bs.length)
  have HPL := Lib.hid hpl
  clear hl hi hpl
  go_enter Try.func40, Try.ntmps40
  go_wp2_with fail
  refine (refBids_ok n bs _ R _ (HB.out.alloc _) HI.out).mono ?_
  rintro e w1 ⟨A1, c1, A2, c2, rfl, hown1, _, hb1⟩
  obtain ⟨hX, hs1, hbw⟩ := one_blk' hb1
  have x0 : w1.cell? ⟨w.heap.size, 0, none⟩ = some (.int .i64 n) := hX.cell 0
  have x1 : w1.cell? ⟨w.heap.size, 1, none⟩ = some (.slice A bs.length cap) := hX.cell 1
  have HO1 := Lib.hid hown1
  have HBW := Lib.hid hbw
  clear hX hbw hown1 hb1
  go_wp2_with fail
  refine (refSteps_ok n bs _ R _ (HB.out.grow HBW.out) HI.out).mono ?_
  rintro e w2 ⟨A3, c3, rfl, hst, hb2⟩
  have hlast := zip_last n bs bs.length
  have HST := Lib.hid hst
  have HO2 := Lib.hid (own_grow HO1.out hb2)
  have HB2 := Lib.hid (HBW.out.trans (hb2.mono HBW.out.size))
  have hs2 := HBW.out.size
  clear hst hb2 x0 x1
  rcases hlast with ⟨hz, hp⟩ | ⟨m, a, hlen, hz⟩
  · have hz0 : (zipTo n bs bs.length).length = 0 := by rw [hz]; rfl
    rw [hz0]
    have HP := Lib.hid hp
    clear hz hz0 hp
    go_wp2_with fail
    go_ret2
    refine ⟨A1, c1, rfl, ?_, HB2.out⟩
    rw [HP.out]
    exact (Sl.own_from HO2.out).mono fun b _ hb => by simp at hb; omega
  · obtain ⟨vs, hvl, hso, hsp⟩ := HST.out
    obtain ⟨u, hu, hs⟩ := hsp m _ hz
    have hcl := (stepCells_at hz hu).2
    have hml : m < 9223372036854775806 := by
      have h1 : (zipTo n bs bs.length).length ≤ bs.length := by unfold zipTo; rw [List.length_zip, rowsTo_len, Nat.min_self]; exact whoTo_len _ _
      have h2 := (instE_zero HI.out).2.2.1
      omega
    obtain ⟨g, c', hv, hg1, hg2⟩ := World.ownsRow.form hso (by omega)
    injection hv with hv1 _ hv2
    subst hv1 hv2
    have hcell := hso.cellAt (m * 2 + 1) (by omega)
    rw [hcl] at hcell
    obtain ⟨_, Au, cu, rfl, _⟩ := id hs
    rw [hlen]
    rw [HPL.out] at hs hcell
    have HS := Lib.hid hs
    have e1 : (0 : Int) ≤ (m : Int) := by omega
    clear hz hlen hvl hso hsp hu hs hcl
    go_wp2_with fail
    go_ret2
    refine ⟨Au, cu, rfl, ?_, HB2.out⟩
    exact HS.out.mono fun b _ hb => by have := hb.1; omega
end Go.Proofs.Ytcigobiolbojhaa.Vb

/- Law 18's own: what lent makes. -/
namespace Go.Proofs.Ytcigobiolbojhaa.Vb
open Go.RowKit

/-- each list in memory of its own, with one offer of 4242 coins behind it -/
def GivM (w : World) (lo : Nat) (v : Value) (bs : List (List Off)) : Prop :=
  ∃ vs, w.ownsRow lo 41 1 v bs.length vs ∧ ∀ (k : Nat) (l : List Off), bs[k]? = some l → ∃ b cap, vs[k]? = some (.slice (some ⟨b, 0, none⟩) l.length cap) ∧
    w.ownsRow lo 45 2 (.slice (some ⟨b, 0, none⟩) (l.length + 1) cap) (l.length + 1) (Off.all (l ++ [⟨0, 4242⟩])) ∧ ∀ o ∈ l, o.wf
theorem GivM.grow {w w' : World} {lo : Nat} {v : Value} {bs : List (List Off)} (h : GivM w lo v bs) (hb : Below w.heap.size w w') : GivM w' lo v bs := by
  obtain ⟨vs, hs, ho⟩ := h
  exact ⟨vs, own_grow hs hb, fun k l hk => let ⟨b, c, h1, h2, h3⟩ := ho k l hk; ⟨b, c, h1, own_grow h2 hb, h3⟩⟩
theorem GivM.mono {w : World} {lo lo' : Nat} {v : Value} {bs : List (List Off)} (h : GivM w lo v bs) (hl : lo' ≤ lo) : GivM w lo' v bs := by
  obtain ⟨vs, hs, ho⟩ := h
  exact ⟨vs, own_mono hs hl, fun k l hk => let ⟨b, c, h1, h2, h3⟩ := ho k l hk; ⟨b, c, h1, own_mono h2 hl, h3⟩⟩
theorem GivM.far {w w' : World} {lo : Nat} {v : Value} {bs : List (List Off)} {row : Option Nat} (h : GivM w lo v bs) (hg : w.grownBy w' row) (hr : ∀ k, row = some k → k < lo) : GivM w' lo v bs := by
  obtain ⟨vs, hs, ho⟩ := h
  exact ⟨vs, own_lo hs hg hr, fun k l hk => let ⟨b, c, h1, h2, h3⟩ := ho k l hk; ⟨b, c, h1, own_lo h2 hg hr, h3⟩⟩
theorem GivM.buys {w : World} {lo : Nat} {v : Value} {bs : List (List Off)} (h : GivM w lo v bs) : Buys w (fun _ => True) v bs := by
  obtain ⟨vs, hs, ho⟩ := h
  refine ⟨vs, (Sl.of_own hs).mono fun _ _ _ => trivial, fun k l hk => ?_⟩
  obtain ⟨b, c, h1, h2, h3⟩ := ho k l hk
  obtain ⟨_, A, cap, hv, hnc, hcm, hcs⟩ := Sl.of_own h2
  injection hv with hA _ hc
  subst hA hc
  refine ⟨_, h1, ⟨by rw [Off.all_length], _, _, rfl, by omega, hcm, fun h0 => ?_⟩, h3⟩
  obtain ⟨b', off, e, _, hlt, hcell⟩ := hcs (by omega)
  refine ⟨b', off, e, trivial, hlt, fun j u hj => hcell j u ?_⟩
  have : Off.all (l ++ [⟨0, 4242⟩]) = Off.all l ++ Off.all [⟨0, 4242⟩] := by simp [Off.all]
  rw [this, List.getElem?_append_left (List.getElem?_eq_some_iff.1 hj).1]
  exact hj
/-- One list more. -/
theorem GivM.snoc {w w' : World} {lo : Nat} {v : Value} {bs : List (List Off)} {vs : List Value} {l : List Off} {b cap : Nat} {A' : Option Addr} {cap' n : Nat} (hn : bs.length = n)
    (hs : w.ownsRow lo 41 1 v n vs)
    (ho : ∀ (k : Nat) (l : List Off), bs[k]? = some l → ∃ b cap, vs[k]? = some (.slice (some ⟨b, 0, none⟩) l.length cap) ∧ w.ownsRow lo 45 2 (.slice (some ⟨b, 0, none⟩) (l.length + 1) cap) (l.length + 1) (Off.all (l ++ [⟨0, 4242⟩])) ∧ ∀ o ∈ l, o.wf)
    (hl : w.ownsRow lo 45 2 (.slice (some ⟨b, 0, none⟩) (l.length + 1) cap) (l.length + 1) (Off.all (l ++ [⟨0, 4242⟩]))) (hw : ∀ o ∈ l, o.wf)
    (hown : w'.ownsRow lo 41 1 (.slice A' (n + 1) cap') (n + 1) (vs ++ [.slice (some ⟨b, 0, none⟩) l.length cap])) (hg : w.grownBy w' v.ownBlock) : GivM w' lo (.slice A' (n + 1) cap') (bs ++ [l]) := by
  subst hn
  have hlen : vs.length = bs.length := by simpa using hs.1
  have step : ∀ {u : Value} {m : Nat} {xs : List Value}, w.ownsRow lo 45 2 u m xs → w'.ownsRow lo 45 2 u m xs := fun h => own_far h hg fun g e => own_ne hs h (by decide) e
  refine ⟨vs ++ [.slice (some ⟨b, 0, none⟩) l.length cap], by simpa using hown, fun k l' hk => ?_⟩
  by_cases hkl : k < bs.length
  · rw [List.getElem?_append_left hkl] at hk
    obtain ⟨b', c', h1, h2, h3⟩ := ho k l' hk
    exact ⟨b', c', by rw [List.getElem?_append_left (by omega)]; exact h1, step h2, h3⟩
  · have : k = bs.length := by
      rcases Nat.lt_or_ge k (bs ++ [l]).length with h | h
      · simp at h; omega
      · rw [List.getElem?_eq_none h] at hk; cases hk
    subst this
    simp at hk
    subst hk
    exact ⟨b, cap, by rw [← hlen]; simp, step hl, hw⟩

/-- .. and one list more behind all -/
def Lent (w : World) (lo : Nat) (v : Value) (bs : List (List Off)) : Prop :=
  ∃ (gb cap gs : Nat) (vs : List Value), v = .slice (some ⟨gb, 0, none⟩) bs.length cap ∧ w.ownsRow lo 41 1 (.slice (some ⟨gb, 0, none⟩) (bs.length + 1) cap) (bs.length + 1) (vs ++ [.slice (some ⟨gs, 0, none⟩) 1 1]) ∧ vs.length = bs.length ∧
    Blk w gs 45 #[.int .u32 0, .int .i64 4243] ∧ lo ≤ gs ∧ ∀ (k : Nat) (l : List Off), bs[k]? = some l → ∃ b cap, vs[k]? = some (.slice (some ⟨b, 0, none⟩) l.length cap) ∧
    w.ownsRow lo 45 2 (.slice (some ⟨b, 0, none⟩) (l.length + 1) cap) (l.length + 1) (Off.all (l ++ [⟨0, 4242⟩])) ∧ ∀ o ∈ l, o.wf
theorem Lent.grow {w w' : World} {lo : Nat} {v : Value} {bs : List (List Off)} (h : Lent w lo v bs) (hb : Below w.heap.size w w') : Lent w' lo v bs := by
  obtain ⟨gb, cap, gs, vs, h1, h2, h3, h4, h5, h6⟩ := h
  exact ⟨gb, cap, gs, vs, h1, own_grow h2 hb, h3, h4.grow hb, h5, fun k l hk => let ⟨b, c, a1, a2, a3⟩ := h6 k l hk; ⟨b, c, a1, own_grow a2 hb, a3⟩⟩
theorem Lent.buys {w : World} {lo : Nat} {v : Value} {bs : List (List Off)} (h : Lent w lo v bs) : Buys w (fun _ => True) v bs := by
  obtain ⟨gb, cap, gs, vs, rfl, h2, h3, _, _, h6⟩ := h
  refine ⟨vs, ?_, fun k l hk => ?_⟩
  · obtain ⟨_, A, c, hv, hnc, hcm, hcs⟩ := Sl.of_own h2
    injection hv with hA _ hc
    subst hA hc
    refine ⟨by simpa using h3, _, _, rfl, by omega, hcm, fun h0 => ?_⟩
    obtain ⟨b', off, e, _, hlt, hcell⟩ := hcs (by omega)
    refine ⟨b', off, e, trivial, hlt, fun j u hj => hcell j u ?_⟩
    rw [List.getElem?_append_left (List.getElem?_eq_some_iff.1 hj).1]
    exact hj
  · obtain ⟨b, c, h1, h2, h3⟩ := h6 k l hk
    obtain ⟨_, A, cap, hv, hnc, hcm, hcs⟩ := Sl.of_own h2
    injection hv with hA _ hc
    subst hA hc
    refine ⟨_, h1, ⟨by rw [Off.all_length], _, _, rfl, by omega, hcm, fun h0 => ?_⟩, h3⟩
    obtain ⟨b', off, e, _, hlt, hcell⟩ := hcs (by omega)
    refine ⟨b', off, e, trivial, hlt, fun j u hj => hcell j u ?_⟩
    have : Off.all (l ++ [⟨0, 4242⟩]) = Off.all l ++ Off.all [⟨0, 4242⟩] := by simp [Off.all]
    rw [this, List.getElem?_append_left (List.getElem?_eq_some_iff.1 hj).1]
    exact hj
end Go.Proofs.Ytcigobiolbojhaa.Vb

/- Law 17's own: goes. -/
import Derived.Test.YtcigobiolbojhaaEach2
namespace Go.Proofs.Ytcigobiolbojhaa.Vb
open Go.RowKit Go.Shelf
attribute [local go_sem] Oper.semAt_some

theorem sl_kept {W W' : World} {row : Option Nat} {R : Nat → Prop} {v : Value} {n sz : Nat} {xs : List Value} (h : Sl W R v n sz xs) (hg : W.grownBy W' row) (hr : ∀ r, row = some r → ∃ o : Obj, W.heap[r]? = some o ∧ o.isCells = false) : Sl W' R v n sz xs := by
  obtain ⟨hl, A, cap, rfl, h1, h2, h3⟩ := h
  refine ⟨hl, A, cap, rfl, h1, h2, fun hn => ?_⟩
  obtain ⟨b, off, rfl, hb, hlt, hc⟩ := h3 hn
  exact ⟨b, off, rfl, hb, Nat.lt_of_lt_of_le hlt hg.size, fun j u hu => cell_kept (hc j u hu) hg hr⟩
theorem Sl.ltB {w : World} {R : Nat → Prop} {v : Value} {n sz : Nat} {xs : List Value} (h : Sl w R v n sz xs) : Sl w (· < w.heap.size) v n sz xs := h.mono fun _ hlt _ => hlt
theorem Sl.set {W : World} {R : Nat → Prop} {v : Value} {n sz : Nat} {xs : List Value} (h : Sl W R v n sz xs) {p : Addr} (hp : ¬ R p.block) (u : Value) : Sl (W.setCell p u) R v n sz xs :=
  h.keep (by simp [World.setCell]) fun b _ hr => Below.heap_setCell W p u b (fun e => hp (by rw [← e]; exact hr))

/-- between two rounds -/
structure GoesI (B bn m c' : Nat) (A' : Option Addr) (pv : Value) (L : List (Int × Int)) (ps : List Int) (leave : Int) (pre : List (Int × Int)) (W : World) : Prop where
  pre_ : pre <+: L
  p2 : W.cell? ⟨B, 2, none⟩ = some pv
  lv : W.cell? ⟨B + 1, 0, none⟩ = some (.int .i64 leave)
  rs : W.cell? ⟨B + 2, 0, none⟩ = some (.bool false)
  rf : W.frozen? ⟨B + 2, 0, none⟩ = false
  wh : W.cell? ⟨B + 3, 0, none⟩ = some (.slice A' L.length c')
  nn : W.cell? ⟨bn, 0, none⟩ = some (.int .i64 pre.length)
  nf : W.frozen? ⟨bn, 0, none⟩ = false
  row : Sl W (fun b => b ≠ bn ∧ b ≠ B + 2) (.slice A' L.length c') L.length 1 (ints (L.map (·.1)))
  pay : Sl W (fun b => b ≠ bn ∧ b ≠ B + 2) pv m 1 (ints ps)
theorem GoesI.own (B bn m c' : Nat) (A' : Option Addr) (pv : Value) (L : List (Int × Int)) (ps : List Int) (leave : Int) : Own (GoesI B bn m c' A' pv L ps leave) :=
  fun s W W' row h hg hr => ⟨h.pre_, cell_kept h.p2 hg hr, cell_kept h.lv hg hr, cell_kept h.rs hg hr, (frozen_kept h.rs hg hr).trans h.rf, cell_kept h.wh hg hr, cell_kept h.nn hg hr, (frozen_kept h.nn hg hr).trans h.nf, sl_kept h.row hg hr, sl_kept h.pay hg hr⟩

theorem prefix_snoc {α : Type} {pre L : List α} {y : α} (h : pre <+: L) (hy : L[pre.length]? = some y) : pre ++ [y] <+: L := by
  obtain ⟨r, rfl⟩ := h
  cases r with
  | nil => simp at hy
  | cons z r =>
    simp at hy
    subst hy
    exact ⟨r, by simp⟩

theorem eql_func_nil (fn : Fn) (fi ca : Array Value) (W : World) : (binOp .eql 29 (.func fn fi ca) .nilFunc).run Try.prog W = .ok (.bool false) W := by kernel_rfl

set_option maxRecDepth 100000 in
set_option maxHeartbeats 4000000 in
theorem goes_any (pb pp m c1 c3 cc cp : Nat) (A1 A3 AC AP : Option Addr) (W0 leave : Int) (cs ps : List Int) (hm : m ≤ 40) (hcl : cs.length = m) (hpl : ps.length = m) (w : World) (hpb : pb < w.heap.size) (hpp : pp < w.heap.size)
    (h1 : w.cell? ⟨pb, 0, none⟩ = some (.slice A1 m c1)) (h3 : w.cell? ⟨pp, 0, none⟩ = some (.slice A3 m c3)) (hs1 : Sl w (fun _ => True) (.slice A1 m c1) m 1 (ints cs)) (hs3 : Sl w (fun _ => True) (.slice A3 m c3) m 1 (ints ps))
    (hc : Sl w (fun _ => True) (.slice AC m cc) m 1 (ints cs)) (hp : Sl w (fun _ => True) (.slice AP m cp) m 1 (ints ps)) :
    Calls Try.prog 20 #[.func (.func 79) #[] #[.pointer (some ⟨pb, 0, none⟩), .pointer (some ⟨pp, 0, none⟩)], .agg #[.slice AC m cc, .int .i64 W0, .slice AP m cp], .int .i64 leave] w fun e w' => e = .returned (.bool true) ∧ Below w.heap.size w w' := by
  have HCL := Lib.hid hcl
  have HPL := Lib.hid hpl
  have HS1 := Lib.hid hs1
  have HS3 := Lib.hid hs3
  have HC := Lib.hid hc
  have HP := Lib.hid hp
  have H1 := Lib.hid h1
  have H3 := Lib.hid h3
  have heq := eql_func_nil
  clear hcl hpl hs1 hs3 hc hp h1 h3
  refine (callsIn_wide (n := 3)).1 (callsIn_of_wp_marks Try.func20 rfl trivial ((wpIn_wide (n := 3)).2 ?_))
  simp only [Try.ntmps20, List.size_toArray, List.length_cons, List.length_nil, Nat.reduceAdd, Nat.reduceSub, Array.replicate_succ, Array.replicate_zero, List.push_toArray, List.append_toArray, List.nil_append, List.cons_append]
  go_wp2_with fail
  obtain ⟨U0, hU0⟩ : ∃ U, U = (((w.alloc (.cells #[.slice AC m cc, .int .i64 W0, .slice AP m cp] 36)).alloc (.cells #[.int .i64 leave] 3)).alloc (.cells #[.bool false] 4)).alloc (.cells #[.slice none 0 0] 33) := ⟨_, rfl⟩
  have hP : Blk U0 w.heap.size 36 #[.slice AC m cc, .int .i64 W0, .slice AP m cp] := by rw [hU0]; exact (((Blk.new w _ _).alloc _).alloc _).alloc _
  have hL : Blk U0 (w.heap.size + 1) 3 #[.int .i64 leave] := by rw [hU0]; exact ((Blk.new' _ _ (by simp)).alloc _).alloc _
  have hR : Blk U0 (w.heap.size + 1 + 1) 4 #[.bool false] := by rw [hU0]; exact (Blk.new' _ _ (by simp)).alloc _
  have hW : Blk U0 (w.heap.size + 1 + 1 + 1) 33 #[.slice none 0 0] := by rw [hU0]; exact Blk.new' _ _ (by simp)
  have hB : Below w.heap.size w U0 := by rw [hU0]; exact ((((Below.refl _ _).alloc (Nat.le_refl _) _).alloc (by simp) _).alloc (by simp; omega) _).alloc (by simp; omega) _
  have hs0 : U0.heap.size = w.heap.size + 4 := by rw [hU0]; simp
  have HSZ := Lib.hid hs0
  rw [← hU0]
  have HPB := Lib.hid hP
  have HLB := Lib.hid hL
  have HRB := Lib.hid hR
  have HBU := Lib.hid hB
  go_loopw [8] (fun i wr => ∃ (k : Nat) (A' : Option Addr) (c' : Nat), k ≤ m ∧ i = .int .i64 k ∧ Blk wr (w.heap.size + 1 + 1 + 1) 33 #[.slice A' (pairsTo cs ps k).length c'] ∧
    wr.ownsRow (w.heap.size + 4) 3 1 (.slice A' (pairsTo cs ps k).length c') (pairsTo cs ps k).length (ints ((pairsTo cs ps k).map (·.1))) ∧ Below (w.heap.size + 3) U0 wr) (fun i _ => m - (intOf i).toNat)
  case atStart => exact ⟨0, none, 0, Nat.zero_le _, rfl, hW, World.ownsRow_nil _ _ _ _, Below.refl _ _⟩
  case round =>
    obtain ⟨k, A', c', hk, rfl, hw3, how, hb⟩ := hrel
    clear hU0 hP hL hR hW hB hs0
    have hsz : w.heap.size + 4 ≤ wr.heap.size := by have := hw3.lt; omega
    have hbw : Below w.heap.size w wr := HBU.out.trans (hb.mono (by omega))
    have hPr := HPB.out.below hb (by omega)
    have q0 : wr.cell? ⟨w.heap.size, 0, none⟩ = some (.slice AC m cc) := hPr.cell 0
    have q2 : wr.cell? ⟨w.heap.size, 2, none⟩ = some (.slice AP m cp) := hPr.cell 2
    have r0 : wr.cell? ⟨w.heap.size + 1 + 1 + 1, 0, none⟩ = some (.slice A' (pairsTo cs ps k).length c') := hw3.cell 0
    have hlen := pairsTo_len cs ps k
    have HW3 := Lib.hid hw3
    have HOW := Lib.hid how
    have HBB := Lib.hid hb
    have HBW := Lib.hid hbw
    clear hPr hw3 how hb hbw
    by_cases hlt : k < m
    · obtain ⟨b1, o1, x1, rfl, _, hx1, hc1⟩ := (HC.out.grow HBW.out).int_at hlt
      have hp3 : ∃ x3, ps[k]? = some x3 := ⟨_, List.getElem?_eq_getElem (by rw [HPL.out]; exact hlt)⟩
      obtain ⟨x3, hx3⟩ := hp3
      have e1 : (0 : Int) ≤ (k : Int) := by omega
      have e2 : (k : Int) < (m : Int) := by omega
      by_cases hx : 0 ≤ x1
      · have hsucc := pairsTo_yes (cs := cs) (ps := ps) (k := k) (by rw [hx1]; exact hx)
        rw [hx3, Option.getD_some] at hsucc
        have HSU := Lib.hid hsucc
        clear hsucc hx1 hx3
        go_wp2_with (at_builtin; refine wpList_app _ rfl (.tmp 27) (.tmp 29) et_int rfl (w.heap.size + 4) (.slice A' (pairsTo cs ps k).length c') (pairsTo cs ps k).length (ints ((pairsTo cs ps k).map (·.1))) rfl (own_alloc HOW.out _) (fun _ => True) (.slice (some ⟨wr.heap.size, 0, none⟩) 1 1) 1 [.int .i64 (k : Int)] rfl (Sl.any (Sl.new wr #[.int .i64 (k : Int)] _ 1 1 (by unfold maxLen; omega) rfl)) (by simp [Value.oneCell']) (by omega) (by unfold maxLen; omega) (by simp; omega) ?_; intro A2 c2 w1 hown hg hloc; have h3' := (HW3.out.alloc (.cells #[.int .i64 (k : Int)] 3)).grown hg (fun e => by have := (HOW.out.lt _ e.symm).1; omega); have s0 : w1.cell? ⟨w.heap.size + 1 + 1 + 1, 0, none⟩ = some (.slice A' (pairsTo cs ps k).length c') := h3'.cell 0; have s1 : w1.frozen? ⟨w.heap.size + 1 + 1 + 1, 0, none⟩ = false := h3'.frozen 0; have HG := Lib.hid hg; have HN := Lib.hid hown; have H3' := Lib.hid h3'; clear hown hg hloc h3')
        go_roundw
        case rel =>
          refine ⟨k + 1, A2, c2, by omega, by go_num, ?_, ?_, ?_⟩
          · rw [HSU.out, List.length_append]
            exact H3'.out.set_ 0 (.slice A2 ((pairsTo cs ps k).length + 1) c2)
          · have := own_far HN.out (grownBy_setCell w1 ⟨w.heap.size + 1 + 1 + 1, 0, none⟩ (.slice A2 ((pairsTo cs ps k).length + 1) c2)) (fun g e he => by have := (HN.out.lt g he).1; simp at e; omega)
            rw [HSU.out, List.length_append, List.map_append]
            simpa [ints] using this
          · exact ((HBB.out.alloc (by omega) _).grown HG.out (by simp; omega) (fun g e => by have := (HOW.out.lt _ e).1; omega)).setCell (p := ⟨w.heap.size + 1 + 1 + 1, 0, none⟩) (by simp) _
        case measure => simp [intOf]; omega
      · have hsucc := pairsTo_no (cs := cs) (ps := ps) (k := k) (by rw [hx1]; exact hx)
        have HSU := Lib.hid hsucc
        clear hsucc hx1 hx3
        go_wp2_with fail
        go_roundw
        case rel => exact ⟨k + 1, A', c', by omega, by go_num, by rw [HSU.out]; exact HW3.out, by rw [HSU.out]; exact HOW.out, HBB.out⟩
        case measure => simp [intOf]; omega
    · obtain rfl : k = m := by omega
      go_wp2_with fail
      have hpre := pairsTo_len cs ps k
      obtain ⟨L, hL⟩ : ∃ L, L = pairsTo cs ps k := ⟨_, rfl⟩
      rw [← hL] at HW3 HOW hpre r0 hlen
      have HLL := Lib.hid hL
      clear hL
      have hcell1 : (wr.alloc (.cells #[.int .i64 0] 3)).cell? ⟨pb, 0, none⟩ = some (.slice A1 k c1) := ((HBW.out.alloc HBW.out.size _).cell (p := ⟨pb, 0, none⟩) hpb).trans H1.out
      have hcell3 : (wr.alloc (.cells #[.int .i64 0] 3)).cell? ⟨pp, 0, none⟩ = some (.slice A3 k c3) := ((HBW.out.alloc HBW.out.size _).cell (p := ⟨pp, 0, none⟩) hpp).trans H3.out
      have hBX : Below w.heap.size w (wr.alloc (.cells #[.int .i64 0] 3)) := HBW.out.alloc HBW.out.size _
      have hstops := each1_stops Fence.wide 2 trivial rfl (by omega) pb pp w.heap.size k c1 c3 A1 A3 cs ps hm HCL.out HPL.out (wr.alloc (.cells #[.int .i64 0] 3)) hpb hpp hBX.size hcell1 hcell3 (HS1.out.ltB.keep' hBX) (HS3.out.ltB.keep' hBX)
      rw [← HLL.out] at hstops
      have HST := Lib.hid hstops
      have HBX := Lib.hid hBX
      have hI0 : GoesI w.heap.size wr.heap.size k c' A' (.slice AP k cp) L ps leave [] (wr.alloc (.cells #[.int .i64 0] 3)) := by
        have hPr := HPB.out.below HBB.out (by omega)
        have hLr := HLB.out.below HBB.out (by omega)
        have hRr := HRB.out.below HBB.out (by omega)
        refine ⟨List.nil_prefix, (hPr.alloc _).cell 2, (hLr.alloc _).cell 0, (hRr.alloc _).cell 0, (hRr.alloc _).frozen 0, (HW3.out.alloc _).cell 0, (Blk.new wr _ _).cell 0, (Blk.new wr _ _).frozen 0, ?_, ?_⟩
        · exact (own_alloc HOW.out _ |> Sl.of_own).mono fun b _ hb => by have := HOW.out.lt b hb; omega
        · exact ((HP.out.ltB.keep' HBX.out)).mono fun b _ hb => by omega
      have HI0 := Lib.hid hI0
      clear hstops hBX hI0 hcell1 hcell3 q0 q2 r0
      refine (wpIn_wide (n := 3)).1 ?_
      refine' wpIn_rangeFunc_ownF (F := Fence.wide) (n := 3) rfl (by omega) (gf := 79) (lb := #[.pointer (some ⟨pb, 0, none⟩), .pointer (some ⟨pp, 0, none⟩)]) rfl trivial (enters_of Try.func79 (by kernel_rfl) rfl) HST.out belowK_t (belowK_b HBX.out.size) (Below.refl _ _) (fun _ => rfl)
        (fun pre W => GoesI w.heap.size wr.heap.size k c' A' (.slice AP k cp) L ps leave pre W ∧ Below w.heap.size w W)
        (fun c pre W => (c = .ret ∧ (pre <+: L → W.cell? ⟨w.heap.size + 1 + 1, 0, none⟩ = some (.bool true))) ∧ Below w.heap.size w W)
        (OwnFrom.and (Own.from (GoesI.own _ _ _ _ _ _ _ _ _) _) (ownFrom_below (Nat.le_refl _) HBX.out.size))
        (fun c => OwnFrom.and (Own.from (fun s A B row hs hg hr => ⟨hs.1, fun h => cell_kept (hs.2 h) hg hr⟩) _) (ownFrom_below (Nat.le_refl _) HBX.out.size))
        ⟨HI0.out, HBX.out⟩ _ ?assign ?body ?done ?stop
      case assign =>
        intro l x W K hK
        gi_wp2
        exact hK
      case body =>
        rintro l pre x W ⟨hI, hB⟩ hlt2
        have HI := Lib.hid hI
        have HB := Lib.hid hB
        have hlen2 := hI.pre_.length_le
        obtain ⟨bw, ow, y1, rfl, hbw, hy1, hcw⟩ := hI.row.int_at hlt2
        have hlt3 : pre.length < L.length := hlt2
        obtain ⟨y, hy⟩ : ∃ y, L[pre.length]? = some y := ⟨_, List.getElem?_eq_getElem hlt3⟩
        have hyy : y1 = y.1 := by
          rw [List.getElem?_map, hy] at hy1
          exact (Option.some.inj hy1).symm
        subst hyy
        obtain ⟨j, hj, hyj⟩ := pairsTo_mem (cs := cs) (ps := ps) (k := k) (x := y) (by rw [← HLL.out]; exact List.mem_of_getElem? hy)
        have hpj : ps[j]? = some y.2 := by rw [hyj]; exact (by rw [List.getElem?_eq_getElem (by rw [HPL.out]; exact hj)]; rfl)
        have hyj1 : y.1 = (j : Int) := by rw [hyj]
        obtain ⟨bp, op, y2, hAP, hbp, hy2, hcp⟩ := hI.pay.int_at hj
        rw [hpj] at hy2
        have hy2' := (Option.some.inj hy2).symm
        subst hy2' hAP
        have hn0 : W.cell? ⟨wr.heap.size, 0, none⟩ = some (.int .i64 (pre.length : Int)) := hI.nn
        have hn1 : W.frozen? ⟨wr.heap.size, 0, none⟩ = false := hI.nf
        have hp2 : W.cell? ⟨w.heap.size, 2, none⟩ = some (.slice (some ⟨bp, op, none⟩) k cp) := hI.p2
        have hlv : W.cell? ⟨w.heap.size + 1, 0, none⟩ = some (.int .i64 leave) := hI.lv
        have hrs : W.cell? ⟨w.heap.size + 1 + 1, 0, none⟩ = some (.bool false) := hI.rs
        have hrf : W.frozen? ⟨w.heap.size + 1 + 1, 0, none⟩ = false := hI.rf
        have hwh : W.cell? ⟨w.heap.size + 1 + 1 + 1, 0, none⟩ = some (.slice (some ⟨bw, ow, none⟩) L.length c') := hI.wh
        have hsz2 := HBX.out.size
        have hszw := World.block_lt_of_cell? _ _ hn0
        obtain ⟨xa, xb⟩ := x
        have e1 : (0 : Int) ≤ (pre.length : Int) := by omega
        have e2 : (pre.length : Int) < (L.length : Int) := by omega
        have e3 : (0 : Int) ≤ (j : Int) := by omega
        have e4 : (j : Int) < (k : Int) := by omega
        rw [hyj1] at hcw
        have hnot : ∀ v : Int × Int, v ≠ y → ¬ (pre ++ [v] <+: L) := by
          intro v hv hpf
          obtain ⟨r, hr⟩ := hpf
          rw [← hr] at hy
          simp at hy
          exact hv hy
        have HNOT := Lib.hid hnot
        have HYJ := Lib.hid hyj1
        have HY := Lib.hid hy
        clear hnot hyj1 hyj hpj hy2 hy1 hy hI hB hlt2
        by_cases hxa : xa = (j : Int)
        · subst hxa
          by_cases hxb : xb = y.2
          · subst hxb
            by_cases hle : (pre.length : Int) + 1 = leave
            · subst hle
              gi_wp2
              refine ⟨(KeepsOthers.setCell _ _ _).trans (KeepsOthers.setCell _ _ _), ⟨rfl, fun _ => World.cell?_setCell_same' _ _ _ ?_⟩, (HB.out.setCell (p := ⟨wr.heap.size, 0, none⟩) (by simp; omega) _).setCell (p := ⟨w.heap.size + 1 + 1, 0, none⟩) (by simp; omega) _⟩
              rw [World.cell?_setCell_other W ⟨wr.heap.size, 0, none⟩ ⟨w.heap.size + 1 + 1, 0, none⟩ _ (fun e => by injection e with e; omega), hrs]
              rfl
            · have hle' : ((pre.length : Int) + 1 == leave) = false := by simpa using hle
              have HLE := Lib.hid hle
              clear hle
              gi_wp2
              have hset : ∀ (q : Addr) (u : Value), q.block < wr.heap.size → W.cell? q = some u → (W.setCell ⟨wr.heap.size, 0, none⟩ (.int .i64 ((pre.length : Int) + 1))).cell? q = some u := fun q u hq hu => (World.cell?_setCell_other W ⟨wr.heap.size, 0, none⟩ q _ (fun e => by subst e; simp at hq)).trans hu
              have hI := HI.out
              have hpf := prefix_snoc hI.pre_ HY.out
              rw [show y = ((j : Int), y.2) from Prod.ext HYJ.out rfl] at hpf
              refine ⟨KeepsOthers.setCell _ _ _, (Below.refl w.heap.size W).setCell (p := ⟨wr.heap.size, 0, none⟩) (by simp; omega) _, ⟨hpf, hset _ _ (by simp; omega) hI.p2, hset _ _ (by simp; omega) hI.lv, hset _ _ (by simp; omega) hI.rs, by rw [World.frozen?_setCell]; exact hI.rf, hset _ _ (by simp; omega) hI.wh, ?_, by rw [World.frozen?_setCell]; exact hI.nf, hI.row.set (by simp) _, hI.pay.set (by simp) _⟩, HB.out.setCell (p := ⟨wr.heap.size, 0, none⟩) (by simp; omega) _⟩
              rw [World.cell?_setCell_same' W ⟨wr.heap.size, 0, none⟩ _ (by rw [hn0]; rfl)]
              simp
          · have hxb' : (xb != y.2) = true := by simpa using hxb
            have HXB := Lib.hid hxb
            clear hxb
            gi_wp2
            exact ⟨KeepsOthers.setCell _ _ _, ⟨rfl, fun h => absurd h (HNOT.out _ (fun e => HXB.out (by rw [← e])))⟩, HB.out.setCell (p := ⟨w.heap.size + 1 + 1, 0, none⟩) (by simp; omega) _⟩
        · have hxa' : (xa != (j : Int)) = true := by simpa using hxa
          have HXA := Lib.hid hxa
          clear hxa
          gi_wp2
          exact ⟨KeepsOthers.setCell _ _ _, ⟨rfl, fun h => absurd h (HNOT.out _ (fun e => HXA.out (by rw [← HYJ.out, ← e])))⟩, HB.out.setCell (p := ⟨w.heap.size + 1 + 1, 0, none⟩) (by simp; omega) _⟩
      case done =>
        rintro D ys W hD hys ⟨hI, hB⟩ hK
        subst hys
        have hn0 : W.cell? ⟨wr.heap.size, 0, none⟩ = some (.int .i64 (ys.length : Int)) := hI.nn
        have hwh : W.cell? ⟨w.heap.size + 1 + 1 + 1, 0, none⟩ = some (.slice A' ys.length c') := hI.wh
        have hrs : W.cell? ⟨w.heap.size + 1 + 1, 0, none⟩ = some (.bool false) := hI.rs
        have hrf : W.frozen? ⟨w.heap.size + 1 + 1, 0, none⟩ = false := hI.rf
        have HB := Lib.hid hB
        have HK := Lib.hid hK
        have hD' : w.heap.size ≤ D := by have := HBX.out.size; omega
        have hrs' := Lib.hid hrs
        clear hI hB hK
        go_wp2_with fail
        have hK' := (KeepsOthers.setCell W ⟨w.heap.size + 1 + 1, 0, none⟩ (.bool true)).same D _ HK.out rfl
        refine ⟨by simp, .inl ⟨_, _, rfl, run_takeDeferred hK', ?_⟩⟩
        have hc5 := cell_kept (World.cell?_setCell_same' W ⟨w.heap.size + 1 + 1, 0, none⟩ (.bool true) (by rw [hrs'.out]; rfl)) (grownBy_putObj' _ D (.deferred none)) (fun r e => by cases e; exact ⟨_, hK', rfl⟩)
        refine ⟨.bool true, by simp [results, Try.results20, go_sem, hc5], rfl, (HB.out.setCell (p := ⟨w.heap.size + 1 + 1, 0, none⟩) (by simp; omega) _).trans (belowK_b (w := w) (Nat.le_refl _) _ D _ _ hD' hK' rfl rfl)⟩
      case stop =>
        rintro D c pre W hD hpre2 ⟨⟨rfl, hres⟩, hB⟩ hK
        have hrs := hres hpre2
        have hD' : w.heap.size ≤ D := by have := HBX.out.size; omega
        have HK := Lib.hid hK
        clear hK
        gi_wp2
        refine ⟨by simp, .inl ⟨_, _, rfl, run_takeDeferred HK.out, ?_⟩⟩
        have hc5 := cell_kept hrs (grownBy_putObj' _ D (.deferred none)) (fun r e => by cases e; exact ⟨_, HK.out, rfl⟩)
        refine ⟨.bool true, by simp [results, Try.results20, go_sem, hc5], rfl, hB.trans (belowK_b (w := w) (Nat.le_refl _) W D _ _ hD' HK.out rfl rfl)⟩
end Go.Proofs.Ytcigobiolbojhaa.Vb

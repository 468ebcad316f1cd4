/- Joined by program: Goes RangeV Iter18 Pay18 PlainG K18a K18b K18c StepsW. -/
import Derived.Test.YtcigobiolbojhaaZh
/- Law 17's own: goes. -/
namespace Go.Proofs.Ytcigobiolbojhaa.Vb
open Go.RowKit Go.Shelf
attribute [local go_sem] Oper.semAt_some

theorem sl_kept {W W' : World} {row : Option Nat} {R : Nat → Prop} {v : Value} {n sz : Nat} {xs : List Value} (h : Sl W R v n sz xs) (hg : W.grownBy W' row) (hr : ∀ r, row = some r → ∃ o : Obj, W.heap[r]? = some o ∧ o.isCells = false) : Sl W' R v n sz xs := by
  obtain ⟨hl, A, cap, rfl, h1, h2, h3⟩ := h
  refine ⟨hl, A, cap, rfl, h1, h2, fun hn => ?_⟩
  obtain ⟨b, off, rfl, hb, hlt, hc⟩ := h3 hn
  exact ⟨b, off, rfl, hb, Nat.lt_of_lt_of_le hlt hg.size, fun j u hu => cell_kept (hc j u hu) hg hr⟩
theorem Sl.ltB {w : World} {R : Nat → Prop} {v : Value} {n sz : Nat} {xs : List Value} (h : Sl w R v n sz xs) : Sl w (· < w.heap.size) v n sz xs := h.mono fun _ hlt _ => hlt
theorem Sl.set {W : World} {R : Nat → Prop} {v : Value} {n sz : Nat} {xs : List Value} (h : Sl W R v n sz xs) {p : Addr} (hp : ¬ R p.block) (u : Value) : Sl (W.setCell p u) R v n sz xs :=
  h.keep (by simp [World.setCell]) fun b _ hr => Below.heap_setCell W p u b (fun e => hp (by rw [← e]; exact hr))

/-- between two rounds -/
structure GoesI (B bn m c' : Nat) (A' : Option Addr) (pv : Value) (L : List (Int × Int)) (ps : List Int) (leave : Int) (pre : List (Int × Int)) (W : World) : Prop where
  pre_ : pre <+: L
  p2 : W.cell? ⟨B, 2, none⟩ = some pv
  lv : W.cell? ⟨B + 1, 0, none⟩ = some (.int .i64 leave)
  rs : W.cell? ⟨B + 2, 0, none⟩ = some (.bool false)
  rf : W.frozen? ⟨B + 2, 0, none⟩ = false
  wh : W.cell? ⟨B + 3, 0, none⟩ = some (.slice A' L.length c')
  nn : W.cell? ⟨bn, 0, none⟩ = some (.int .i64 pre.length)
  nf : W.frozen? ⟨bn, 0, none⟩ = false
  row : Sl W (fun b => b ≠ bn ∧ b ≠ B + 2) (.slice A' L.length c') L.length 1 (ints (L.map (·.1)))
  pay : Sl W (fun b => b ≠ bn ∧ b ≠ B + 2) pv m 1 (ints ps)
theorem GoesI.own (B bn m c' : Nat) (A' : Option Addr) (pv : Value) (L : List (Int × Int)) (ps : List Int) (leave : Int) : Own (GoesI B bn m c' A' pv L ps leave) :=
  fun _ _ _ _ h hg hr => ⟨h.pre_, cell_kept h.p2 hg hr, cell_kept h.lv hg hr, cell_kept h.rs hg hr, (frozen_kept h.rs hg hr).trans h.rf, cell_kept h.wh hg hr, cell_kept h.nn hg hr, (frozen_kept h.nn hg hr).trans h.nf, sl_kept h.row hg hr, sl_kept h.pay hg hr⟩

theorem prefix_snoc {α : Type} {pre L : List α} {y : α} (h : pre <+: L) (hy : L[pre.length]? = some y) : pre ++ [y] <+: L := by
  obtain ⟨r, rfl⟩ := h
  cases r with
  | nil => simp at hy
  | cons z r =>
    simp at hy
    subst hy
    exact ⟨r, by simp⟩

theorem eql_func_nil (fn : Fn) (fi ca : Array Value) (W : World) : (binOp .eql 29 (.func fn fi ca) .nilFunc).run Try.prog W = .ok (.bool false) W := by kernel_rfl

set_option maxRecDepth 100000 in
set_option maxHeartbeats 4000000 in
theorem goes_any (pb pp m c1 c3 cc cp : Nat) (A1 A3 AC AP : Option Addr) (W0 leave : Int) (cs ps : List Int) (hm : m ≤ 40) (hcl : cs.length = m) (hpl : ps.length = m) (w : World) (hpb : pb < w.heap.size) (hpp : pp < w.heap.size)
    (h1 : w.cell? ⟨pb, 0, none⟩ = some (.slice A1 m c1)) (h3 : w.cell? ⟨pp, 0, none⟩ = some (.slice A3 m c3)) (hs1 : Sl w (fun _ => True) (.slice A1 m c1) m 1 (ints cs)) (hs3 : Sl w (fun _ => True) (.slice A3 m c3) m 1 (ints ps))
    (hc : Sl w (fun _ => True) (.slice AC m cc) m 1 (ints cs)) (hp : Sl w (fun _ => True) (.slice AP m cp) m 1 (ints ps)) :
    Calls Try.prog 20 #[.func (.func 79) #[] #[.pointer (some ⟨pb, 0, none⟩), .pointer (some ⟨pp, 0, none⟩)], .agg #[.slice AC m cc, .int .i64 W0, .slice AP m cp], .int .i64 leave] w fun e w' => e = .returned (.bool true) ∧ Below w.heap.size w w' := by
  have HCL := Lib.hid hcl
  have HPL := Lib.hid hpl
  have HS1 := Lib.hid hs1
  have HS3 := Lib.hid hs3
  have HC := Lib.hid hc
  have HP := Lib.hid hp
  have H1 := Lib.hid h1
  have H3 := Lib.hid h3
  have heq := eql_func_nil
  clear hcl hpl hs1 hs3 hc hp h1 h3
  refine (callsIn_wide (n := 3)).1 (callsIn_of_wp_marks Try.func20 rfl trivial ((wpIn_wide (n := 3)).2 ?_))
  simp only [Try.ntmps20, List.size_toArray, List.length_cons, List.length_nil, Nat.reduceAdd, Nat.reduceSub, Array.replicate_succ, Array.replicate_zero, List.push_toArray, List.append_toArray, List.nil_append, List.cons_append]
  go_wp2_with fail
  obtain ⟨U0, hU0⟩ : ∃ U, U = (((w.alloc (.cells #[.slice AC m cc, .int .i64 W0, .slice AP m cp] 36)).alloc (.cells #[.int .i64 leave] 3)).alloc (.cells #[.bool false] 4)).alloc (.cells #[.slice none 0 0] 33) := ⟨_, rfl⟩
  have hP : Blk U0 w.heap.size 36 #[.slice AC m cc, .int .i64 W0, .slice AP m cp] := by rw [hU0]; exact (((Blk.new w _ _).alloc _).alloc _).alloc _
  have hL : Blk U0 (w.heap.size + 1) 3 #[.int .i64 leave] := by rw [hU0]; exact ((Blk.new' _ _ (by simp)).alloc _).alloc _
  have hR : Blk U0 (w.heap.size + 1 + 1) 4 #[.bool false] := by rw [hU0]; exact (Blk.new' _ _ (by simp)).alloc _
  have hW : Blk U0 (w.heap.size + 1 + 1 + 1) 33 #[.slice none 0 0] := by rw [hU0]; exact Blk.new' _ _ (by simp)
  have hB : Below w.heap.size w U0 := by rw [hU0]; exact ((((Below.refl _ _).alloc (Nat.le_refl _) _).alloc (by simp) _).alloc (by simp; omega) _).alloc (by simp; omega) _
  have hs0 : U0.heap.size = w.heap.size + 4 := by rw [hU0]; simp
  have HSZ := Lib.hid hs0
  rw [← hU0]
  have HPB := Lib.hid hP
  have HLB := Lib.hid hL
  have HRB := Lib.hid hR
  have HBU := Lib.hid hB
  go_loopw [8] (fun i wr => ∃ (k : Nat) (A' : Option Addr) (c' : Nat), k ≤ m ∧ i = .int .i64 k ∧ Blk wr (w.heap.size + 1 + 1 + 1) 33 #[.slice A' (pairsTo cs ps k).length c'] ∧
    wr.ownsRow (w.heap.size + 4) 3 1 (.slice A' (pairsTo cs ps k).length c') (pairsTo cs ps k).length (ints ((pairsTo cs ps k).map (·.1))) ∧ Below (w.heap.size + 3) U0 wr) (fun i _ => m - (intOf i).toNat)
  case atStart => exact ⟨0, none, 0, Nat.zero_le _, rfl, hW, World.ownsRow_nil _ _ _ _, Below.refl _ _⟩
  case round =>
    obtain ⟨k, A', c', hk, rfl, hw3, how, hb⟩ := hrel
    clear hU0 hP hL hR hW hB hs0
    have hsz : w.heap.size + 4 ≤ wr.heap.size := by have := hw3.lt; omega
    have hbw : Below w.heap.size w wr := HBU.out.trans (hb.mono (by omega))
    have hPr := HPB.out.below hb (by omega)
    have q0 : wr.cell? ⟨w.heap.size, 0, none⟩ = some (.slice AC m cc) := hPr.cell 0
    have q2 : wr.cell? ⟨w.heap.size, 2, none⟩ = some (.slice AP m cp) := hPr.cell 2
    have r0 : wr.cell? ⟨w.heap.size + 1 + 1 + 1, 0, none⟩ = some (.slice A' (pairsTo cs ps k).length c') := hw3.cell 0
    have hlen := pairsTo_len cs ps k
    have HW3 := Lib.hid hw3
    have HOW := Lib.hid how
    have HBB := Lib.hid hb
    have HBW := Lib.hid hbw
    clear hPr hw3 how hb hbw
    by_cases hlt : k < m
    · obtain ⟨b1, o1, x1, rfl, _, hx1, hc1⟩ := (HC.out.grow HBW.out).int_at hlt
      have hp3 : ∃ x3, ps[k]? = some x3 := ⟨_, List.getElem?_eq_getElem (by rw [HPL.out]; exact hlt)⟩
      obtain ⟨x3, hx3⟩ := hp3
      have e1 : (0 : Int) ≤ (k : Int) := by omega
      have e2 : (k : Int) < (m : Int) := by omega
      by_cases hx : 0 ≤ x1
      · have hsucc := pairsTo_yes (cs := cs) (ps := ps) (k := k) (by rw [hx1]; exact hx)
        rw [hx3, Option.getD_some] at hsucc
        have HSU := Lib.hid hsucc
        clear hsucc hx1 hx3
        go_wp2_with (at_builtin; refine wpList_app _ rfl (.tmp 27) (.tmp 29) et_int rfl (w.heap.size + 4) (.slice A' (pairsTo cs ps k).length c') (pairsTo cs ps k).length (ints ((pairsTo cs ps k).map (·.1))) rfl (own_alloc HOW.out _) (fun _ => True) (.slice (some ⟨wr.heap.size, 0, none⟩) 1 1) 1 [.int .i64 (k : Int)] rfl (Sl.any (Sl.new wr #[.int .i64 (k : Int)] _ 1 1 (by unfold maxLen; omega) rfl)) (by simp [Value.oneCell']) (by omega) (by unfold maxLen; omega) (by simp; omega) ?_; intro A2 c2 w1 hown hg hloc; have h3' := (HW3.out.alloc (.cells #[.int .i64 (k : Int)] 3)).grown hg (fun e => by have := (HOW.out.lt _ e.symm).1; omega); have s0 : w1.cell? ⟨w.heap.size + 1 + 1 + 1, 0, none⟩ = some (.slice A' (pairsTo cs ps k).length c') := h3'.cell 0; have s1 : w1.frozen? ⟨w.heap.size + 1 + 1 + 1, 0, none⟩ = false := h3'.frozen 0; have HG := Lib.hid hg; have HN := Lib.hid hown; have H3' := Lib.hid h3'; clear hown hg hloc h3')
        go_roundw
        case rel =>
          refine ⟨k + 1, A2, c2, by omega, by go_num, ?_, ?_, ?_⟩
          · rw [HSU.out, List.length_append]
            exact H3'.out.set_ 0 (.slice A2 ((pairsTo cs ps k).length + 1) c2)
          · have := own_far HN.out (grownBy_setCell w1 ⟨w.heap.size + 1 + 1 + 1, 0, none⟩ (.slice A2 ((pairsTo cs ps k).length + 1) c2)) (fun g e he => by have := (HN.out.lt g he).1; simp at e; omega)
            rw [HSU.out, List.length_append, List.map_append]
            simpa [ints] using this
          · exact ((HBB.out.alloc (by omega) _).grown HG.out (by simp; omega) (fun g e => by have := (HOW.out.lt _ e).1; omega)).setCell (p := ⟨w.heap.size + 1 + 1 + 1, 0, none⟩) (by simp) _
        case measure => simp [intOf]; omega
      · have hsucc := pairsTo_no (cs := cs) (ps := ps) (k := k) (by rw [hx1]; exact hx)
        have HSU := Lib.hid hsucc
        clear hsucc hx1 hx3
        go_wp2_with fail
        go_roundw
        case rel => exact ⟨k + 1, A', c', by omega, by go_num, by rw [HSU.out]; exact HW3.out, by rw [HSU.out]; exact HOW.out, HBB.out⟩
        case measure => simp [intOf]; omega
    · obtain rfl : k = m := by omega
      go_wp2_with fail
      have hpre := pairsTo_len cs ps k
      obtain ⟨L, hL⟩ : ∃ L, L = pairsTo cs ps k := ⟨_, rfl⟩
      rw [← hL] at HW3 HOW hpre r0 hlen
      have HLL := Lib.hid hL
      clear hL
      have hcell1 : (wr.alloc (.cells #[.int .i64 0] 3)).cell? ⟨pb, 0, none⟩ = some (.slice A1 k c1) := ((HBW.out.alloc HBW.out.size _).cell (p := ⟨pb, 0, none⟩) hpb).trans H1.out
      have hcell3 : (wr.alloc (.cells #[.int .i64 0] 3)).cell? ⟨pp, 0, none⟩ = some (.slice A3 k c3) := ((HBW.out.alloc HBW.out.size _).cell (p := ⟨pp, 0, none⟩) hpp).trans H3.out
      have hBX : Below w.heap.size w (wr.alloc (.cells #[.int .i64 0] 3)) := HBW.out.alloc HBW.out.size _
      have hstops := each1_stops Fence.wide 2 trivial rfl (by omega) pb pp w.heap.size k c1 c3 A1 A3 cs ps hm HCL.out HPL.out (wr.alloc (.cells #[.int .i64 0] 3)) hpb hpp hBX.size hcell1 hcell3 (HS1.out.ltB.keep' hBX) (HS3.out.ltB.keep' hBX)
      rw [← HLL.out] at hstops
      have HST := Lib.hid hstops
      have HBX := Lib.hid hBX
      have hI0 : GoesI w.heap.size wr.heap.size k c' A' (.slice AP k cp) L ps leave [] (wr.alloc (.cells #[.int .i64 0] 3)) := by
        have hPr := HPB.out.below HBB.out (by omega)
        have hLr := HLB.out.below HBB.out (by omega)
        have hRr := HRB.out.below HBB.out (by omega)
        refine ⟨List.nil_prefix, (hPr.alloc _).cell 2, (hLr.alloc _).cell 0, (hRr.alloc _).cell 0, (hRr.alloc _).frozen 0, (HW3.out.alloc _).cell 0, (Blk.new wr _ _).cell 0, (Blk.new wr _ _).frozen 0, ?_, ?_⟩
        · exact (own_alloc HOW.out _ |> Sl.of_own).mono fun b _ hb => by have := HOW.out.lt b hb; omega
        · exact ((HP.out.ltB.keep' HBX.out)).mono fun b _ hb => by omega
      have HI0 := Lib.hid hI0
      clear hstops hBX hI0 hcell1 hcell3 q0 q2 r0
      refine (wpIn_wide (n := 3)).1 ?_
      refine' wpIn_rangeFunc_ownF (F := Fence.wide) (n := 3) rfl (by omega) (gf := 79) (lb := #[.pointer (some ⟨pb, 0, none⟩), .pointer (some ⟨pp, 0, none⟩)]) rfl trivial (enters_of Try.func79 (by kernel_rfl) rfl) HST.out belowK_t (belowK_b HBX.out.size) (Below.refl _ _) (fun _ => rfl)
        (fun pre W => GoesI w.heap.size wr.heap.size k c' A' (.slice AP k cp) L ps leave pre W ∧ Below w.heap.size w W)
        (fun c pre W => (c = .ret ∧ (pre <+: L → W.cell? ⟨w.heap.size + 1 + 1, 0, none⟩ = some (.bool true))) ∧ Below w.heap.size w W)
        (OwnFrom.and (Own.from (GoesI.own _ _ _ _ _ _ _ _ _) _) (ownFrom_below (Nat.le_refl _) HBX.out.size))
        (fun c => OwnFrom.and (Own.from (fun s A B row hs hg hr => ⟨hs.1, fun h => cell_kept (hs.2 h) hg hr⟩) _) (ownFrom_below (Nat.le_refl _) HBX.out.size))
        ⟨HI0.out, HBX.out⟩ _ ?assign ?body ?done ?stop
      case assign =>
        intro l x W K hK
        gi_wp2
        exact hK
      case body =>
        rintro l pre x W ⟨hI, hB⟩ hlt2
        have HI := Lib.hid hI
        have HB := Lib.hid hB
        have hlen2 := hI.pre_.length_le
        obtain ⟨bw, ow, y1, rfl, hbw, hy1, hcw⟩ := hI.row.int_at hlt2
        have hlt3 : pre.length < L.length := hlt2
        obtain ⟨y, hy⟩ : ∃ y, L[pre.length]? = some y := ⟨_, List.getElem?_eq_getElem hlt3⟩
        have hyy : y1 = y.1 := by
          rw [List.getElem?_map, hy] at hy1
          exact (Option.some.inj hy1).symm
        subst hyy
        obtain ⟨j, hj, hyj⟩ := pairsTo_mem (cs := cs) (ps := ps) (k := k) (x := y) (by rw [← HLL.out]; exact List.mem_of_getElem? hy)
        have hpj : ps[j]? = some y.2 := by rw [hyj]; exact (by rw [List.getElem?_eq_getElem (by rw [HPL.out]; exact hj)]; rfl)
        have hyj1 : y.1 = (j : Int) := by rw [hyj]
        obtain ⟨bp, op, y2, hAP, hbp, hy2, hcp⟩ := hI.pay.int_at hj
        rw [hpj] at hy2
        have hy2' := (Option.some.inj hy2).symm
        subst hy2' hAP
        have hn0 : W.cell? ⟨wr.heap.size, 0, none⟩ = some (.int .i64 (pre.length : Int)) := hI.nn
        have hn1 : W.frozen? ⟨wr.heap.size, 0, none⟩ = false := hI.nf
        have hp2 : W.cell? ⟨w.heap.size, 2, none⟩ = some (.slice (some ⟨bp, op, none⟩) k cp) := hI.p2
        have hlv : W.cell? ⟨w.heap.size + 1, 0, none⟩ = some (.int .i64 leave) := hI.lv
        have hrs : W.cell? ⟨w.heap.size + 1 + 1, 0, none⟩ = some (.bool false) := hI.rs
        have hrf : W.frozen? ⟨w.heap.size + 1 + 1, 0, none⟩ = false := hI.rf
        have hwh : W.cell? ⟨w.heap.size + 1 + 1 + 1, 0, none⟩ = some (.slice (some ⟨bw, ow, none⟩) L.length c') := hI.wh
        have hsz2 := HBX.out.size
        have hszw := World.block_lt_of_cell? _ _ hn0
        obtain ⟨xa, xb⟩ := x
        have e1 : (0 : Int) ≤ (pre.length : Int) := by omega
        have e2 : (pre.length : Int) < (L.length : Int) := by omega
        have e3 : (0 : Int) ≤ (j : Int) := by omega
        have e4 : (j : Int) < (k : Int) := by omega
        rw [hyj1] at hcw
        have hnot : ∀ v : Int × Int, v ≠ y → ¬ (pre ++ [v] <+: L) := by
          intro v hv hpf
          obtain ⟨r, hr⟩ := hpf
          rw [← hr] at hy
          simp at hy
          exact hv hy
        have HNOT := Lib.hid hnot
        have HYJ := Lib.hid hyj1
        have HY := Lib.hid hy
        clear hnot hyj1 hyj hpj hy2 hy1 hy hI hB hlt2
        by_cases hxa : xa = (j : Int)
        · subst hxa
          by_cases hxb : xb = y.2
          · subst hxb
            by_cases hle : (pre.length : Int) + 1 = leave
            · subst hle
              gi_wp2
              refine ⟨(KeepsOthers.setCell _ _ _).trans (KeepsOthers.setCell _ _ _), ⟨rfl, fun _ => World.cell?_setCell_same' _ _ _ ?_⟩, (HB.out.setCell (p := ⟨wr.heap.size, 0, none⟩) (by simp; omega) _).setCell (p := ⟨w.heap.size + 1 + 1, 0, none⟩) (by simp; omega) _⟩
              rw [World.cell?_setCell_other W ⟨wr.heap.size, 0, none⟩ ⟨w.heap.size + 1 + 1, 0, none⟩ _ (fun e => by injection e with e; omega), hrs]
              rfl
            · have hle' : ((pre.length : Int) + 1 == leave) = false := by simpa using hle
              have HLE := Lib.hid hle
              clear hle
              gi_wp2
              have hset : ∀ (q : Addr) (u : Value), q.block < wr.heap.size → W.cell? q = some u → (W.setCell ⟨wr.heap.size, 0, none⟩ (.int .i64 ((pre.length : Int) + 1))).cell? q = some u := fun q u hq hu => (World.cell?_setCell_other W ⟨wr.heap.size, 0, none⟩ q _ (fun e => by subst e; simp at hq)).trans hu
              have hI := HI.out
              have hpf := prefix_snoc hI.pre_ HY.out
              rw [show y = ((j : Int), y.2) from Prod.ext HYJ.out rfl] at hpf
              refine ⟨KeepsOthers.setCell _ _ _, (Below.refl w.heap.size W).setCell (p := ⟨wr.heap.size, 0, none⟩) (by simp; omega) _, ⟨hpf, hset _ _ (by simp; omega) hI.p2, hset _ _ (by simp; omega) hI.lv, hset _ _ (by simp; omega) hI.rs, by rw [World.frozen?_setCell]; exact hI.rf, hset _ _ (by simp; omega) hI.wh, ?_, by rw [World.frozen?_setCell]; exact hI.nf, hI.row.set (by simp) _, hI.pay.set (by simp) _⟩, HB.out.setCell (p := ⟨wr.heap.size, 0, none⟩) (by simp; omega) _⟩
              rw [World.cell?_setCell_same' W ⟨wr.heap.size, 0, none⟩ _ (by rw [hn0]; rfl)]
              simp
          · have hxb' : (xb != y.2) = true := by simpa using hxb
            have HXB := Lib.hid hxb
            clear hxb
            gi_wp2
            exact ⟨KeepsOthers.setCell _ _ _, ⟨rfl, fun h => absurd h (HNOT.out _ (fun e => HXB.out (by rw [← e])))⟩, HB.out.setCell (p := ⟨w.heap.size + 1 + 1, 0, none⟩) (by simp; omega) _⟩
        · have hxa' : (xa != (j : Int)) = true := by simpa using hxa
          have HXA := Lib.hid hxa
          clear hxa
          gi_wp2
          exact ⟨KeepsOthers.setCell _ _ _, ⟨rfl, fun h => absurd h (HNOT.out _ (fun e => HXA.out (by rw [← HYJ.out, ← e])))⟩, HB.out.setCell (p := ⟨w.heap.size + 1 + 1, 0, none⟩) (by simp; omega) _⟩
      case done =>
        rintro D ys W hD hys ⟨hI, hB⟩ hK
        subst hys
        have hn0 : W.cell? ⟨wr.heap.size, 0, none⟩ = some (.int .i64 (ys.length : Int)) := hI.nn
        have hwh : W.cell? ⟨w.heap.size + 1 + 1 + 1, 0, none⟩ = some (.slice A' ys.length c') := hI.wh
        have hrs : W.cell? ⟨w.heap.size + 1 + 1, 0, none⟩ = some (.bool false) := hI.rs
        have hrf : W.frozen? ⟨w.heap.size + 1 + 1, 0, none⟩ = false := hI.rf
        have HB := Lib.hid hB
        have HK := Lib.hid hK
        have hD' : w.heap.size ≤ D := by have := HBX.out.size; omega
        have hrs' := Lib.hid hrs
        clear hI hB hK
        go_wp2_with fail
        have hK' := (KeepsOthers.setCell W ⟨w.heap.size + 1 + 1, 0, none⟩ (.bool true)).same D _ HK.out rfl
        refine ⟨by simp, .inl ⟨_, _, rfl, run_takeDeferred hK', ?_⟩⟩
        have hc5 := cell_kept (World.cell?_setCell_same' W ⟨w.heap.size + 1 + 1, 0, none⟩ (.bool true) (by rw [hrs'.out]; rfl)) (grownBy_putObj' _ D (.deferred none)) (fun r e => by cases e; exact ⟨_, hK', rfl⟩)
        refine ⟨.bool true, by simp [results, Try.results20, go_sem, hc5], rfl, (HB.out.setCell (p := ⟨w.heap.size + 1 + 1, 0, none⟩) (by simp; omega) _).trans (belowK_b (w := w) (Nat.le_refl _) _ D _ _ hD' hK' rfl rfl)⟩
      case stop =>
        rintro D c pre W hD hpre2 ⟨⟨rfl, hres⟩, hB⟩ hK
        have hrs := hres hpre2
        have hD' : w.heap.size ≤ D := by have := HBX.out.size; omega
        have HK := Lib.hid hK
        clear hK
        gi_wp2
        refine ⟨by simp, .inl ⟨_, _, rfl, run_takeDeferred HK.out, ?_⟩⟩
        have hc5 := cell_kept hrs (grownBy_putObj' _ D (.deferred none)) (fun r e => by cases e; exact ⟨_, HK.out, rfl⟩)
        refine ⟨.bool true, by simp [results, Try.results20, go_sem, hc5], rfl, hB.trans (belowK_b (w := w) (Nat.le_refl _) W D _ _ hD' HK.out rfl rfl)⟩
end Go.Proofs.Ytcigobiolbojhaa.Vb

/- A range over a function whose iterator tells what lies behind what it hands over: V x W, in the world of the yield. -/
namespace Go.Proofs.Ytcigobiolbojhaa.Vb
open Go.RowKit Go.Shelf

def SeqStopsV {α : Type} (F : Fence) (n : Nat) (P : Program) (g : Nat) (lb : Array Value) (encs : α → Array Value) (Kp : World → World → Prop) (V : Nat → α → World → Prop) (S Sp : List α → Prop) (N : Nat) (w : World) : Prop :=
  ∀ (l : Nat) (J Jx : List α → World → Prop) (W : World), Below w.heap.size w W → AbidesFrom W.heap.size J → AbidesFrom W.heap.size Jx →
    (∀ pre x W1, J pre W1 → V W.heap.size x W1 → Sp (pre ++ [x]) → pre.length < N → YieldAt F (n - 1) P l (encs x) W1 fun e W' =>
      (e = .returned (.bool true) ∧ J (pre ++ [x]) W' ∧ Kp W1 W') ∨ (e = .returned (.bool false) ∧ Jx (pre ++ [x]) W')) →
    J [] W →
    CallsIn F n P g (#[.func (.yield l) #[] #[]] ++ lb) W fun e W' => (∃ v, e = .returned v) ∧ ((∃ xs, S xs ∧ J xs W') ∨ (∃ pre, Sp pre ∧ Jx pre W'))

/-- the loop's record at block b + 1, the rounds' deferred calls at block b -/
def RecAt (W : World) (b : Nat) (L : Loop) : Prop := W.heap[b + 1]? = some (.loop L) ∧ W.heap[b]? = some (.deferred (some []))
theorem RecAt.abides {A B : World} {b : Nat} {L : Loop} {row : Option Nat} (h : RecAt A b L) (hg : A.grownBy B row) (hr : ∀ r, row = some r → ∃ o : Obj, A.heap[r]? = some o ∧ o.isWalk = true) : RecAt B b L :=
  ⟨(grownBy_keeps hg hr h.1 rfl).trans h.1, (grownBy_keeps hg hr h.2 rfl).trans h.2⟩
theorem RecAt.put {W : World} {b : Nat} {L L' : Loop} (h : RecAt W b L) : RecAt (W.putObj (b + 1) (.loop L')) b L' :=
  ⟨World.putObj_heap_same (Array.getElem?_eq_some_iff.1 h.1).1, (World.putObj_heap_other (by omega)).trans h.2⟩
theorem RecAt.others {A B : World} {b : Nat} {L : Loop} (h : RecAt A b L) (hk : KeepsOthers A B) : RecAt B b L := ⟨hk.same _ _ h.1 rfl, hk.same _ _ h.2 rfl⟩

variable {F : Fence} {n : Nat} {P : Program}
theorem wpIn_rangeFunc_V {α : Type} {g : Operand} {ps : Array Tmp} {assign body : Code} {Q : Exit → Act → World → Prop} {a : Act} {w : World}
    (hro : F.round = none) (h1 : 1 ≤ n) {gf : Nat} {lb : Array Value} (hg : a.eval g = .func (.func gf) #[] lb) (hFg : F.fn gf) (eg : ∀ args w, (callFunc gf args).run P w = .ok (.enter gf args) w)
    {encs : α → Array Value} {Kp : World → World → Prop} {V : Nat → α → World → Prop} {S Sp : List α → Prop} {N : Nat} {w0 : World} (hseq : SeqStopsV F (n - 1) P gf lb encs Kp V S Sp N w0)
    (hKt : ∀ {A B C : World}, Kp A B → Kp B C → Kp A C) (hKb : ∀ (W : World) (l : Nat) (o o' : Obj), w.heap.size ≤ l → W.heap[l]? = some o → o.isCells = false → o.isWalk = false → Kp W (W.putObj l o')) (hb0 : Below w0.heap.size w0 w) (hps : ∀ x, (encs x).size = ps.size)
    (hV : OwnFrom w.heap.size (V (w.heap.size + 2)))
    (I : List α → World → Prop) (Ix : Code → List α → World → Prop) (hI : OwnFrom w.heap.size I) (hIx : ∀ c, OwnFrom w.heap.size (Ix c)) (h0 : I [] w) (a₁ : α → Act)
    (hassign : ∀ (l : Nat) (x : α) (W : World) (K : Act → World → Prop), K (a₁ x) W →
      assign.wpIn (F.inRound l) (n - 1 - 1) P (Exit.then K (fun _ _ _ => False)) { tmps := (ps.zip (encs x)).foldl (fun t (p, v) => t.setIfInBounds p v) a.tmps, defers := [] } W)
    (hbody : ∀ (l : Nat) (pre : List α) (x : α) (W : World), I pre W → V (w.heap.size + 2) x W → Sp (pre ++ [x]) → pre.length < N → body.wpIn (F.inRound l) (n - 1 - 1) P (ownPostK Kp I Ix (pre ++ [x]) W) (a₁ x) W)
    (hdone : ∀ (D : Nat) (xs : List α) (W : World), w.heap.size ≤ D → S xs → I xs W → W.heap[D]? = some (.deferred (some [])) → Q .normal { a with defers := { target := .collected D, args := #[] } :: a.defers } W)
    (hstop : ∀ (D : Nat) (c : Code) (pre : List α) (W : World), w.heap.size ≤ D → Sp pre → Ix c pre W → W.heap[D]? = some (.deferred (some [])) → c.wpIn F n P Q { a with defers := { target := .collected D, args := #[] } :: a.defers } W) :
    (Code.rangeFunc g ps assign body).wpIn F n P Q a w := by
  refine wpIn_rangeFunc fun fn hfn => ?_
  rw [hro]
  obtain ⟨L, hL⟩ : ∃ L : LoopState → Option Code → Loop, L = fun st pe => { state := st, pending := pe, fn, tmps := a.tmps, params := ps, assign, body, defers := w.heap.size } := ⟨_, rfl⟩
  obtain ⟨U, hU⟩ : ∃ U, U = (w.alloc (.deferred (some []))).alloc (.loop (L .ready none)) := ⟨_, rfl⟩
  have hRU : RecAt U w.heap.size (L .ready none) := by
    subst hU
    constructor
    · have := World.alloc_heap_new (w.alloc (.deferred (some []))) (.loop (L .ready none))
      rwa [World.size_alloc] at this
    · exact (Below.heap_alloc _ _ _ (by simp)).trans (World.alloc_heap_new w _)
  have hsU : U.heap.size = w.heap.size + 2 := by rw [hU]; simp
  have hIU : I [] U := by subst hU; exact hI.alloc _ (hI.alloc _ h0)
  have hBU : Below w0.heap.size w0 U := by
    subst hU
    exact hb0.trans ((((Below.refl _ w).alloc (Nat.le_refl _) _).alloc (by simp) _).mono hb0.size)
  refine ⟨w.heap.size + 1, [{ target := .collected w.heap.size, args := #[] }], U, { target := .fn (.func gf) lb, args := #[.func (.yield (w.heap.size + 1)) #[] #[]] }, U, gf, #[.func (.yield (w.heap.size + 1)) #[] #[]] ++ lb, U, ?_, ?_, ?_, ?_, fun _ => h1, ?_⟩
  · rw [hU, hL]
    exact run_enterLoop_outer _ _ _ _ _
  · simp only [resolve, hg]
    simp [go_sem]
  · intro f' hf'
    simp [Target.leads] at hf'
    subst hf'
    exact hFg
  · simp [invoke, go_sem, eg]
  · have toCells : ∀ {A : World} {row : Option Nat}, (∀ r, row = some r → U.heap.size ≤ r ∧ ∃ o : Obj, A.heap[r]? = some o ∧ o.isWalk = true) → ∀ r, row = some r → w.heap.size ≤ r ∧ ∃ o : Obj, A.heap[r]? = some o ∧ o.isCells = false := by
      intro A row hr r e
      obtain ⟨h1, o, h2, h3⟩ := hr r e
      exact ⟨by omega, o, h2, Obj.not_cells_of_walk h3⟩
    refine (hseq (w.heap.size + 1) (fun pre W => I pre W ∧ RecAt W w.heap.size (L .ready none)) (fun pre W => ∃ c, Ix c pre W ∧ RecAt W w.heap.size (L .done (some c))) U hBU ?_ ?_ ?_ ⟨hIU, hRU⟩).mono ?_
    · exact fun s A B row hs hg' hr => ⟨hI s A B row hs.1 hg' (toCells hr), hs.2.abides hg' fun r e => (hr r e).2⟩
    · rintro s A B row ⟨c, hc, hrec⟩ hg' hr
      exact ⟨c, hIx c s A B row hc hg' (toCells hr), hrec.abides hg' fun r e => (hr r e).2⟩
    · rintro pre x W ⟨hi, hrec⟩ hv hsp hlen
      rw [hsU] at hv
      have hready : (L .ready none).state = .ready := by rw [hL]
      have hy := run_yield (P := P) (args := encs x) hrec.1 (by rw [hL]; exact hps x)
      rw [hL] at hy
      refine ⟨fn, _, assign, body, hy, roundIn_of_wpIn hfn (hassign _ x W _ ⟨_, run_beginRound hrec.1 hready, ?_⟩)⟩
      have hbusy : RecAt (W.putObj (w.heap.size + 1) (.loop { L .ready none with state := .busy })) w.heap.size { L .ready none with state := .busy } := hrec.put
      have hkb : Kp W (W.putObj (w.heap.size + 1) (.loop { L .ready none with state := .busy })) := hKb _ _ _ _ (by omega) hrec.1 rfl rfl
      refine wpIn_mono (hbody _ pre x _ (hI.putObj _ hi (by omega) hrec.1 rfl) (hV.putObj _ hv (by omega) hrec.1 rfl) hsp hlen) ?_
      have shut : ∀ (jump : Option Code) (W3 : World), KeepsOthers (W.putObj (w.heap.size + 1) (.loop { L .ready none with state := .busy })) W3 →
          (Instr.endRound (w.heap.size + 1) jump).run P W3 = .ok (.bool jump.isNone) (W3.putObj (w.heap.size + 1) (.loop (L (if jump.isNone then .ready else .done) jump))) ∧
          RecAt W3 w.heap.size { L .ready none with state := .busy } ∧ RecAt (W3.putObj (w.heap.size + 1) (.loop (L (if jump.isNone then .ready else .done) jump))) w.heap.size (L (if jump.isNone then .ready else .done) jump) := by
        intro jump W3 hk3
        have h3 := hbusy.others hk3
        have hr := run_endRound (P := P) jump h3.1
        rw [hL] at hr h3 ⊢
        exact ⟨hr, h3, h3.put⟩
      rintro e a3 W3 hp
      cases e with
      | normal =>
        obtain ⟨hk3, hkp3, hi3⟩ := hp
        obtain ⟨hr, hb3, hn3⟩ := shut none W3 hk3
        exact ⟨_, _, hr, .inl ⟨rfl, ⟨hI.putObj _ hi3 (by omega) hb3.1 rfl, hn3⟩, hKt (hKt hkb hkp3) (hKb _ _ _ _ (by omega) hb3.1 rfl rfl)⟩⟩
      | ret =>
        obtain ⟨hr, hb3, hn3⟩ := shut (some .ret) W3 hp.1
        exact ⟨_, _, hr, .inr ⟨rfl, .ret, (hIx _).putObj _ hp.2 (by omega) hb3.1 rfl, hn3⟩⟩
      | exit id =>
        obtain ⟨hr, hb3, hn3⟩ := shut (some (.exit id)) W3 hp.1
        exact ⟨_, _, hr, .inr ⟨rfl, .exit id, (hIx _).putObj _ hp.2 (by omega) hb3.1 rfl, hn3⟩⟩
      | goto t =>
        obtain ⟨hr, hb3, hn3⟩ := shut (some (.goto t)) W3 hp.1
        exact ⟨_, _, hr, .inr ⟨rfl, .goto t, (hIx _).putObj _ hp.2 (by omega) hb3.1 rfl, hn3⟩⟩
      | panic ch => exact hp.elim
      | outgrown => exact hp.elim
    · have over : ∀ {st : LoopState} {pe : Option Code} {W2 : World}, st ≠ .busy → RecAt W2 w.heap.size (L st pe) → ∃ o, (Instr.endLoop (w.heap.size + 1)).run P W2 = .ok pe (W2.putObj (w.heap.size + 1) o) := by
        intro st pe W2 hst h2
        have hr := run_endLoop (P := P) h2.1 (by rw [hL]; exact hst)
        rw [hL] at hr
        exact ⟨_, hr⟩
      rintro e W2 ⟨⟨v, rfl⟩, (⟨xs, hS, hi, hrec⟩ | ⟨pre, hSp, c, hi, hrec⟩)⟩
      · obtain ⟨o, hr⟩ := over (by simp) hrec
        exact ⟨none, _, hr, hdone _ xs _ (Nat.le_refl _) hS (hI.putObj _ hi (by omega) hrec.1 rfl) ((World.putObj_heap_other (by omega)).trans hrec.2)⟩
      · obtain ⟨o, hr⟩ := over (by simp) hrec
        exact ⟨some c, _, hr, hstop _ c pre _ (Nat.le_refl _) hSp ((hIx c).putObj _ hi (by omega) hrec.1 rfl) ((World.putObj_heap_other (by omega)).trans hrec.2)⟩
end Go.Proofs.Ytcigobiolbojhaa.Vb

/- core.Steps' iterator: whom it hands over, and what is paid then. -/
namespace Go.Proofs.Ytcigobiolbojhaa.Vb
open Go.RowKit Go.Shelf
attribute [local go_sem] Oper.semAt_some

theorem wpListIn_app {F : Fence} {nf : Nat} {P : Program} (w : World) {ops : Array Oper} {rest : List Oper} {o : Oper} {a : Act} {Q : Exit → Act → World → Prop} (hgd : o.guard = none) (s x : Operand) {t e : TypeId} {sz bytes : Nat} (E : ElemT P t e sz bytes)
    (ho : o.op = .call { callee := .builtin .append, args := #[s, x], argTypes := #[t, t] })
    (base : Nat) (v : Value) (n : Nat) (xs : List Value) (hs : a.eval s = v) (hown : w.ownsRow base e sz v n xs)
    (R : Nat → Prop) (v2 : Value) (m : Nat) (news : List Value) (hx : a.eval x = v2) (hr : Sl w R v2 m sz news) (h1 : ∀ u ∈ news, u.oneCell' = true)
    (hbytes : (n + m) * bytes ≤ 140737488355328) (h63 : n + m ≤ maxLen) (hbase : base ≤ w.heap.size)
    (h : ∀ A' cap' w', w'.ownsRow base e sz (.slice A' (n + m) cap') (n + m) (xs ++ news) → w.grownBy w' v.ownBlock → ((Value.slice A' (n + m) cap').ownBlock = v.ownBlock ∨ (Value.slice A' (n + m) cap').ownBlock = some w.heap.size) → wpListIn F nf P ops Q rest (a.put o.dst (.slice A' (n + m) cap')) w') : wpListIn F nf P ops Q (o :: rest) a w := by
  refine wpListIn_plain hgd fun K hK' => ?_
  obtain ⟨A', cap', w', hrun, h2, h3, h4⟩ := run_append_sl (P := P) w base t o.type e sz bytes E v n xs hown R v2 m news hr h1 hbytes h63 hbase
  unfold Oper.wpIn
  refine ⟨?_, ?_⟩
  · simp [Oper.about, ho, resolve, Target.leads, Sem.run_pure]
  · rw [Oper.semAt_plain F _ _ (by rw [ho]; intro c hc'; cases hc')]
    simp [execOp, ho, resolve, invoke, builtin, hs, hx, hrun, Result.andThen]
    exact hK' _ _ (h A' cap' w' h2 h3 h4)

/-- the blocks from lo to hi are as they were -/
structure KeepR (lo hi : Nat) (W W' : World) : Prop where
  size : W.heap.size ≤ W'.heap.size
  same : ∀ i, lo ≤ i → i < hi → W'.heap[i]? = W.heap[i]?
theorem KeepR.refl (lo hi : Nat) (W : World) : KeepR lo hi W W := ⟨Nat.le_refl _, fun _ _ _ => rfl⟩
theorem KeepR.trans {lo hi : Nat} {A B C : World} (h : KeepR lo hi A B) (k : KeepR lo hi B C) : KeepR lo hi A C := ⟨Nat.le_trans h.size k.size, fun i h1 h2 => (k.same i h1 h2).trans (h.same i h1 h2)⟩
theorem KeepR.grown {lo hi : Nat} {A B C : World} (h : KeepR lo hi A B) (hg : B.grownBy C none) (hB : hi ≤ B.heap.size) : KeepR lo hi A C :=
  ⟨Nat.le_trans h.size hg.size, fun i h1 h2 => (hg.block i (by omega) (fun e => by cases e)).trans (h.same i h1 h2)⟩
theorem KeepR.cell {lo hi : Nat} {A B : World} (h : KeepR lo hi A B) {p : Addr} (h1 : lo ≤ p.block) (h2 : p.block < hi) : B.cell? p = A.cell? p := by
  unfold World.cell?
  rw [h.same p.block h1 h2]
theorem KeepR.sl {lo hi : Nat} {A B : World} (h : KeepR lo hi A B) {v : Value} {n sz : Nat} {xs : List Value} (hs : Sl A (fun b => lo ≤ b ∧ b < hi) v n sz xs) : Sl B (fun b => lo ≤ b ∧ b < hi) v n sz xs :=
  hs.keep h.size fun b _ hr => h.same b hr.1 hr.2

/-- what is handed over: whom, what is paid then, the slice that says it -/
def Told (x : Int × List Int × Value) (b : Nat) (W : World) : Prop := W.ownsRow b 2 1 x.2.2 x.2.1.length (ints x.2.1)
def tells (xs : List (Int × List Int × Value)) : List (Int × List Int) := xs.map fun x => (x.1, x.2.1)
theorem told_own (B b : Nat) : OwnFrom B (fun x W => Told x b W) := by
  intro x W W' row h hg hr
  refine own_far h hg fun r e he => ?_
  obtain ⟨_, o, ho, hc⟩ := hr r e
  obtain ⟨_, h | ⟨g, cap, cur, hv, hgb, hcur, _⟩⟩ := h
  · rw [h.1] at he; cases he
  · rw [hv] at he
    injection he with he
    simp only at he
    subst he
    rw [ho] at hcur
    cases hcur
    cases hc

set_option maxRecDepth 100000 in
set_option maxHeartbeats 2000000 in
theorem steps2_in (F : Fence) (nn : Nat) (hf : F.fn 98) (hro : F.round = none) (hn : 1 ≤ nn) (l b4 b3 lo n₀ m cw ca : Nat) (Aw Aa : Option Addr) (who : List Int) (rows : List (List Int)) (vs : List Value) (hm : m ≤ 40) (hwl : who.length = m) (hrl : rows.length = m)
    (hrow : ∀ r ∈ rows, r.length ≤ 40) (hb3 : b3 < n₀) (hlo3 : lo ≤ b3) (J Jx : List (Int × List Int × Value) → World → Prop) (W : World) (hn0 : n₀ ≤ W.heap.size) (hJ : AbidesFrom W.heap.size J)
    (hY : ∀ pre x W1, J pre W1 → Told x W.heap.size W1 → tells (pre ++ [x]) <+: who.zip rows → pre.length < m → YieldAt F (nn - 1) Try.prog l #[.int .i64 x.1, x.2.2] W1 fun e W' =>
      (e = .returned (.bool true) ∧ J (pre ++ [x]) W' ∧ KeepR lo n₀ W1 W') ∨ (e = .returned (.bool false) ∧ Jx (pre ++ [x]) W'))
    (h4 : W.cell? ⟨b4, 0, none⟩ = some (.slice Aw m cw)) (h3 : W.cell? ⟨b3, 0, none⟩ = some (.slice Aa m ca)) (hs4 : Sl W (fun b => lo ≤ b ∧ b < n₀) (.slice Aw m cw) m 1 (ints who)) (hs3 : Sl W (fun b => lo ≤ b ∧ b < n₀) (.slice Aa m ca) m 1 vs)
    (hvs : ∀ (j : Nat) (r : List Int), rows[j]? = some r → ∃ u, vs[j]? = some u ∧ Sl W (fun b => lo ≤ b ∧ b < n₀) u r.length 1 (ints r)) (h0 : J [] W) :
    CallsIn F nn Try.prog 98 #[.func (.yield l) #[] #[], .pointer (some ⟨b4, 0, none⟩), .pointer (some ⟨b3, 0, none⟩)] W fun e W' => (∃ v, e = .returned v) ∧
      ((∃ ys, tells ys = who.zip rows ∧ J ys W') ∨ (∃ pre, tells pre <+: who.zip rows ∧ Jx pre W')) := by
  refine callsIn_of_wp Try.func98 rfl hf ?_ hro
  have HW := Lib.hid hwl
  have HR := Lib.hid hrl
  have HROW := Lib.hid hrow
  have HS4 := Lib.hid hs4
  have HS3 := Lib.hid hs3
  have HVS := Lib.hid hvs
  have HY := Lib.hid hY
  have HJA := Lib.hid hJ
  have H3 := Lib.hid h3
  clear hwl hrl hrow hs4 hs3 hvs hY hJ
  simp only [Try.ntmps98, List.size_toArray, List.length_cons, List.length_nil, Nat.reduceAdd, Nat.reduceSub, Array.replicate_succ, Array.replicate_zero, List.push_toArray, List.append_toArray, List.nil_append, List.cons_append]
  gi_wp2
  clear h4 h3
  gi_loopw [8] (fun i wr => ∃ (k : Nat) (xs : List (Int × List Int × Value)), k ≤ m ∧ i = .int .i64 k ∧ tells xs = (who.zip rows).take k ∧ J xs wr ∧ KeepR lo n₀ W wr) (fun i _ => m - (intOf i).toNat)
  case atStart => exact ⟨0, [], Nat.zero_le _, rfl, rfl, h0, KeepR.refl _ _ _⟩
  case round =>
    obtain ⟨k, xs, hk, rfl, htl, hJs, hnx⟩ := hrel
    have HJ := Lib.hid hJs
    have HNX := Lib.hid hnx
    have HT := Lib.hid htl
    clear hJs htl
    by_cases hlt : k < m
    · obtain ⟨b1, o1, x1, rfl, _, hx1, hc1⟩ := (hnx.sl HS4.out).int_at hlt
      obtain ⟨r, hr⟩ : ∃ r, rows[k]? = some r := ⟨_, List.getElem?_eq_getElem (by rw [HR.out]; exact hlt)⟩
      obtain ⟨u, hu, hsu⟩ := HVS.out k r hr
      obtain ⟨_, A3, c3', hv3, _, _, hcs⟩ := hnx.sl HS3.out
      injection hv3 with hA3 _ _
      subst hA3
      obtain ⟨b5, o5, rfl, _, _, hc5⟩ := hcs (by omega)
      have d5 := hc5 _ _ hu
      have p3 : wr.cell? ⟨b3, 0, none⟩ = some (.slice (some ⟨b5, o5, none⟩) m ca) := (hnx.cell (p := ⟨b3, 0, none⟩) hlo3 hb3).trans H3.out
      have HSU := Lib.hid (hnx.sl hsu)
      obtain ⟨_, A6, c6, rfl, _⟩ := id hsu
      have hrl := HROW.out r (List.mem_of_getElem? hr)
      have e1 : (0 : Int) ≤ (k : Int) := by omega
      have e2 : (k : Int) < (m : Int) := by omega
      have hsz := hnx.size
      have hn0' : n₀ ≤ wr.heap.size := by omega
      have hxl : xs.length = k := by
        have := congrArg List.length HT.out
        simp [tells, HW.out, HR.out] at this
        omega
      have hz : (who.zip rows)[k]? = some (x1, r) := by rw [List.getElem?_zip_eq_some]; exact ⟨hx1, hr⟩
      have HZ := Lib.hid hz
      have HXL := Lib.hid hxl
      clear hcs hc5 hu hsu hr hx1 hz hxl hnx
      gi_wp2_with (refine wpListIn_app _ rfl (.const (.slice none 0 0)) (.tmp 18) et_i64 rfl W.heap.size (.slice none 0 0) 0 [] rfl (World.ownsRow_nil _ _ _ _) _ _ r.length (ints r) rfl HSU.out (by simp [ints, Value.oneCell']) (by omega) (by unfold maxLen; omega) hsz ?_; intro A7 c7 w7 hown7 hg7 _; rw [Nat.zero_add] at hown7 ⊢; rw [List.nil_append] at hown7; have HN7 := Lib.hid (HNX.out.grown hg7 hn0'); obtain ⟨fn, tmps, assign, body, hy, hRR⟩ := HY.out xs (x1, r, .slice A7 r.length c7) w7 (HJA.out xs wr w7 none HJ.out hg7 (fun r e => by cases e)) hown7 (by have : tells (xs ++ [(x1, r, .slice A7 r.length c7)]) = (who.zip rows).take (k + 1) := by { rw [List.take_add_one, HZ.out, ← HT.out]; simp [tells] }; rw [this]; exact List.take_prefix _ _) (by have := HXL.out; omega); dsimp only at hy; have HRR := Lib.hid hRR; clear hown7 hg7 hRR)
      refine HRR.out.mono ?_
      rintro e W3 (⟨rfl, hJ3, hk3⟩ | ⟨rfl, hJx3⟩)
      · gi_wp2
        go_roundw
        case rel =>
          refine ⟨k + 1, xs ++ [(x1, r, .slice A7 r.length c7)], by omega, by go_num, ?_, hJ3, HN7.out.trans hk3⟩
          rw [List.take_add_one, HZ.out, ← HT.out]
          simp [tells]
        case measure => simp [intOf]; omega
      · gi_wp2
        refine bodyPost_ret (results_none rfl _ _ _) rfl ?_
        refine ⟨⟨_, rfl⟩, .inr ⟨_, ?_, hJx3⟩⟩
        have : tells (xs ++ [(x1, r, .slice A7 r.length c7)]) = (who.zip rows).take (k + 1) := by
          rw [List.take_add_one, HZ.out, ← HT.out]
          simp [tells]
        rw [this]
        exact List.take_prefix _ _
    · obtain rfl : k = m := by omega
      clear hnx
      gi_wp2
      go_end0
      refine ⟨⟨_, rfl⟩, .inl ⟨xs, ?_, HJ.out⟩⟩
      rw [HT.out, List.take_of_length_le (by simp [HW.out, HR.out])]
end Go.Proofs.Ytcigobiolbojhaa.Vb

/- core.Pay. -/
namespace Go.Proofs.Ytcigobiolbojhaa.Vb
open Go.RowKit Go.Shelf
attribute [local go_sem] Oper.semAt_some

theorem shared_stops (F : Fence) (nn : Nat) (hf : F.fn 98) (hro : F.round = none) (hn : 1 ≤ nn) {w0 w : World} {lo b4 b3 : Nat} {who : List Int} {rows : List (List Int)} (h : Shared w0 lo b4 b3 who rows) (hm : who.length ≤ 40) (hrl : rows.length = who.length) (hrow : ∀ r ∈ rows, r.length ≤ 40) (hb : KeepR lo w0.heap.size w0 w) :
    SeqStopsV F nn Try.prog 98 #[.pointer (some ⟨b4, 0, none⟩), .pointer (some ⟨b3, 0, none⟩)] (fun x : Int × List Int × Value => #[Value.int .i64 x.1, x.2.2]) (KeepR lo w0.heap.size) (fun b x W => Told x b W) (fun ys => tells ys = who.zip rows) (fun pre => tells pre <+: who.zip rows) who.length w := fun l J Jx W hW hJ _ hY h0 => by
  obtain ⟨Aw, cw, Aa, ca, vs, h1, h2, h3, h4, h5, h6, h7⟩ := h
  have hk : KeepR lo w0.heap.size w0 W := hb.trans ⟨hW.size, fun i _ hi => hW.block i (by have := hb.size; omega)⟩
  have hR : ∀ {v : Value} {m sz : Nat} {xs : List Value}, Sl w0 (lo ≤ ·) v m sz xs → Sl W (fun b => lo ≤ b ∧ b < w0.heap.size) v m sz xs := fun hs => hk.sl (hs.mono fun b hlt hb => ⟨hb, hlt⟩)
  exact steps2_in F nn hf hro hn l b4 b3 lo w0.heap.size who.length cw ca Aw Aa who rows vs hm rfl hrl hrow h5.lt h2 J Jx W hk.size hJ hY ((hk.cell (p := ⟨b4, 0, none⟩) h1 h3.lt).trans (h3.cell 0)) ((hk.cell (p := ⟨b3, 0, none⟩) h2 h5.lt).trans (h5.cell 0)) (hR h4) (hR h6)
    (fun j r hj => let ⟨u, hu, hs⟩ := h7 j r hj; ⟨u, hu, hR hs⟩) h0
theorem whoL_len (n : Int) (bs : List (List Off)) : (whoL n bs).length ≤ bs.length := by
  unfold whoL
  split
  · exact whoTo_len _ _
  · simp
theorem rowsTo_rows {n : Int} {bs : List (List Off)} (hi : instE n bs = 0) (hwf : ∀ l ∈ bs, ∀ o ∈ l, o.wf) {r : List Int} (h : r ∈ rowsL n bs) : r.length = bs.length := by
  unfold rowsL at h
  rw [if_pos hi] at h
  obtain ⟨j, hj, rfl⟩ := rowsTo_mem h
  exact payTo_len hi hwf hj
/-- the last of the rows is what is paid -/
theorem rowsTo_last (n : Int) (bs : List (List Off)) : ∀ k, (rowsTo n bs k).getLastD (bidsC n bs) = payTo n bs k
  | 0 => rfl
  | k + 1 => by
    unfold rowsTo
    split
    · simp
    · rename_i hw
      rw [rowsTo_last n bs k]
      show _ = payStep n bs (payTo n bs k) k
      unfold payStep
      rw [if_neg hw]

theorem keepR_t {lo hi : Nat} {A B C : World} (h : KeepR lo hi A B) (k : KeepR lo hi B C) : KeepR lo hi A C := h.trans k
theorem keepR_b {lo hi : Nat} {w : World} (hn : hi ≤ w.heap.size) (W : World) (l : Nat) (o o' : Obj) (hl : w.heap.size ≤ l) (_ : W.heap[l]? = some o) (_ : o.isCells = false) (_ : o.isWalk = false) : KeepR lo hi W (W.putObj l o') :=
  ⟨by simp, fun i _ h2 => World.putObj_heap_other (by omega)⟩
theorem ownFrom_keepR {β : Type} {lo hi B : Nat} {w₀ : World} (hB : hi ≤ w₀.heap.size) (hB' : hi ≤ B) : OwnFrom B (fun (_ : β) W => KeepR lo hi w₀ W) :=
  fun _ X Y row hs hg hr => ⟨Nat.le_trans hs.size hg.size, fun i h1 h2 => (hg.block i (by have := hs.size; omega) (fun e => by have := (hr i e.symm).1; omega)).trans (hs.same i h1 h2)⟩
theorem KeepR.set {lo hi : Nat} (W : World) {p : Addr} (hp : p.block < lo ∨ hi ≤ p.block) (u : Value) : KeepR lo hi W (W.setCell p u) :=
  ⟨by simp [World.setCell], fun i h1 h2 => Below.heap_setCell W p u i (by omega)⟩
theorem KeepR.of_below {lo hi : Nat} {A B : World} (h : Below hi A B) : KeepR lo hi A B := ⟨h.size, fun i _ hi => h.block i hi⟩
/-- a row of cells abides what turns no cells -/
theorem own_cells {W W' : World} {row : Option Nat} {b : Nat} {e : TypeId} {sz n : Nat} {v : Value} {xs : List Value} (h : W.ownsRow b e sz v n xs) (hg : W.grownBy W' row) (hr : ∀ r, row = some r → ∃ o : Obj, W.heap[r]? = some o ∧ o.isCells = false) : W'.ownsRow b e sz v n xs := by
  refine own_far h hg fun r e he => ?_
  obtain ⟨o, ho, hc⟩ := hr r e
  obtain ⟨_, h | ⟨g, cap, cur, hv, hgb, hcur, _⟩⟩ := h
  · rw [h.1] at he; cases he
  · rw [hv] at he
    injection he with he
    simp only at he
    subst he
    rw [ho] at hcur
    cases hcur
    cases hc
theorem Blk.cells {W W' : World} {row : Option Nat} {g : Nat} {t : TypeId} {cs : Array Value} (h : Blk W g t cs) (hg : W.grownBy W' row) (hr : ∀ r, row = some r → ∃ o : Obj, W.heap[r]? = some o ∧ o.isCells = false) : Blk W' g t cs :=
  h.grown hg fun e => by
    obtain ⟨o, ho, hc⟩ := hr g e.symm
    unfold Blk at h
    rw [h] at ho
    cases ho
    cases hc
theorem own_base {w : World} {b b' : Nat} {e : TypeId} {sz n : Nat} {v : Value} {xs : List Value} (h : w.ownsRow b e sz v n xs) (hb : b' ≤ b) : w.ownsRow b' e sz v n xs := by
  obtain ⟨h1, h | ⟨g, cap, cur, hv, hgb, hrest⟩⟩ := h
  · exact ⟨h1, .inl h⟩
  · exact ⟨h1, .inr ⟨g, cap, cur, hv, Nat.le_trans hb hgb, hrest⟩⟩

/-- what was told last -/
def lastT (d : List Int) (xs : List (Int × List Int × Value)) : List Int := ((tells xs).map (·.2)).getLastD d
theorem lastT_snoc (d : List Int) (xs : List (Int × List Int × Value)) (x : Int × List Int × Value) : lastT d (xs ++ [x]) = x.2.1 := by
  simp [lastT, tells]
theorem lastT_all {n : Int} {bs : List (List Off)} (hi : instE n bs = 0) {xs : List (Int × List Int × Value)} (h : tells xs = (whoL n bs).zip (rowsL n bs)) : lastT (bidsC n bs) xs = payTo n bs bs.length := by
  unfold lastT
  rw [h, ← List.unzip_snd, List.unzip_zip (by rw [rowsL_len])]
  unfold rowsL
  rw [if_pos hi]
  exact rowsTo_last _ _ _

/-- between two turns: what is told last lies at g -/
def PayI (lo g : Nat) (d : List Int) (xs : List (Int × List Int × Value)) (W : World) : Prop :=
  ∃ A' c', Blk W g 34 #[.slice A' (lastT d xs).length c'] ∧ W.ownsRow lo 2 1 (.slice A' (lastT d xs).length c') (lastT d xs).length (ints (lastT d xs))
theorem payI_own (lo g : Nat) (d : List Int) : Own (PayI lo g d) := fun _ _ _ _ ⟨A', c', h1, h2⟩ hg hr => ⟨A', c', h1.cells hg hr, own_cells h2 hg hr⟩

set_option maxHeartbeats 800000 in
theorem corePay_err (n : Int) (bs : List (List Off)) (v : Value) (R : Nat → Prop) (w : World) (hl : Buys w R v bs) (hi : instE n bs ≠ 0) :
    Calls Try.prog 39 #[.agg #[.int .i64 n, v]] w fun e w' => e = .returned (.tuple #[.slice none 0 0, .int .i64 (instE n bs)]) ∧ Below w.heap.size w w' := by
  obtain ⟨_, ⟨_, A, cap, rfl, _⟩, _⟩ := id hl
  have HB := Lib.hid hl
  have HI := Lib.hid hi
  have hne : (instE n bs != 0) = true := by simpa using hi
  clear hl hi
  refine (callsIn_wide (n := 3)).1 (callsIn_of_wp_marks Try.func39 rfl trivial ((wpIn_wide (n := 3)).2 ?_))
  simp only [Try.ntmps39, List.size_toArray, List.length_cons, List.length_nil, Nat.reduceAdd, Nat.reduceSub, Array.replicate_succ, Array.replicate_zero, List.push_toArray, List.append_toArray, List.nil_append, List.cons_append]
  go_wp2_with fail
  refine (of_err n bs _ R _ (HB.out.alloc _) HI.out).mono ?_
  rintro e w1 ⟨rfl, hb1⟩
  have HB1 := Lib.hid (one_blk' hb1).2.2
  clear hb1
  go_wp2_with fail
  exact ⟨.tuple #[.slice none 0 0, .int .i64 (instE n bs)], by simp [results, Try.results39, go_sem], rfl, HB1.out⟩

set_option maxRecDepth 100000 in
set_option maxHeartbeats 4000000 in
theorem corePay_ok (n : Int) (bs : List (List Off)) (v : Value) (R : Nat → Prop) (w : World) (hl : Buys w R v bs) (hi : instE n bs = 0) :
    Calls Try.prog 39 #[.agg #[.int .i64 n, v]] w fun e w' => ∃ A' c', e = .returned (.tuple #[.slice A' bs.length c', .int .i64 0]) ∧ w'.ownsRow w.heap.size 2 1 (.slice A' bs.length c') bs.length (ints (payTo n bs bs.length)) ∧ Below w.heap.size w w' := by
  obtain ⟨_, ⟨_, A, cap, rfl, _⟩, _⟩ := id hl
  have HB := Lib.hid hl
  have HI := Lib.hid hi
  have HWF := Lib.hid (Buys.wf hl)
  have hl32 := (instE_zero hi).2.2.1
  clear hl hi
  refine (callsIn_wide (n := 3)).1 (callsIn_of_wp_marks Try.func39 rfl trivial ((wpIn_wide (n := 3)).2 ?_))
  simp only [Try.ntmps39, List.size_toArray, List.length_cons, List.length_nil, Nat.reduceAdd, Nat.reduceSub, Array.replicate_succ, Array.replicate_zero, List.push_toArray, List.append_toArray, List.nil_append, List.cons_append]
  go_wp2_with fail
  refine (of_ok n bs _ R _ (HB.out.alloc _) HI.out).mono ?_
  rintro e w1 ⟨g, A1, c1, rfl, hw1, hb1⟩
  have HX1 := Lib.hid (one_blk' hb1).1
  have HB1 := Lib.hid (one_blk' hb1).2.2
  have hs1 := (one_blk' hb1).2.1
  have HW1 := Lib.hid hw1
  have hcb := hw1.cb
  have hx1 : w1.cell? ⟨w.heap.size, 0, none⟩ = some (.int .i64 n) := (one_blk' hb1).1.cell 0
  have hx2 : w1.cell? ⟨w.heap.size, 1, none⟩ = some (.slice A bs.length cap) := (one_blk' hb1).1.cell 1
  clear hw1 hb1
  have hx1a := cellAlloc hx1 (.cells #[.slice A1 bs.length c1] 34)
  have hx2a := cellAlloc hx2 (.cells #[.slice A1 bs.length c1] 34)
  go_wp2_with fail
  obtain ⟨W2, hW2⟩ : ∃ W, W = w1.alloc (.cells #[.slice A1 bs.length c1] 34) := ⟨_, rfl⟩
  have HO2 := Lib.hid (show Blk W2 w1.heap.size 34 #[.slice A1 bs.length c1] from by rw [hW2]; exact Blk.new w1 _ _)
  have HW2 := Lib.hid (show W2.ownsRow (w.heap.size + 1) 2 1 (.slice A1 bs.length c1) bs.length (ints (bidsC n bs)) from by rw [hW2]; exact own_alloc (by simpa using HW1.out.2.2) _)
  have HB2 := Lib.hid (show Below w.heap.size w W2 from by rw [hW2]; exact HB1.out.alloc (by omega) _)
  have hs2 : W2.heap.size = w1.heap.size + 1 := by rw [hW2]; simp
  rw [← hW2]
  clear hW2 hx1 hx2 hx1a hx2a
  refine (coreSteps_ok n bs _ R _ (HB.out.grow HB2.out) HI.out).mono ?_
  rintro e w3 ⟨b4, b3, rfl, hsh, hb3⟩
  have HO3 := Lib.hid (HO2.out.grow hb3)
  have HW3 := Lib.hid (own_grow HW2.out hb3)
  have HB3 := Lib.hid (HB2.out.trans (hb3.mono HB2.out.size))
  have HSH := Lib.hid hsh
  have hs3 := hb3.size
  clear hb3 hsh
  go_wp2_with fail
  refine (wpIn_wide (n := 3)).1 ?_
  refine' wpIn_rangeFunc_V (F := Fence.wide) (n := 3) rfl (by omega) (gf := 98) (lb := #[.pointer (some ⟨b4, 0, none⟩), .pointer (some ⟨b3, 0, none⟩)]) rfl trivial (enters_of Try.func98 (by kernel_rfl) rfl)
    (shared_stops Fence.wide 2 trivial rfl (by omega) HSH.out (by have := whoL_len n bs; omega) (rowsL_len n bs) (fun r hr => by rw [rowsTo_rows HI.out HWF.out hr]; omega) (KeepR.refl _ _ _)) keepR_t (keepR_b (Nat.le_refl _)) (Below.refl _ _) (fun _ => rfl) (told_own _ _)
    (fun pre W => PayI w.heap.size w1.heap.size (bidsC n bs) pre W ∧ Below w.heap.size w W)
    (fun _ _ _ => False)
    (OwnFrom.and (Own.from (payI_own _ _ _) _) (ownFrom_below (Nat.le_refl _) (by omega)))
    (fun c => fun _ _ _ _ h _ _ => h)
    ⟨⟨A1, c1, ?b1, ?b2⟩, HB3.out⟩ _ ?assign ?body ?done ?stop
  case b1 => rw [show (lastT (bidsC n bs) []).length = bs.length from bidsC_length n bs]; exact HO3.out
  case b2 => rw [show (lastT (bidsC n bs) []).length = bs.length from bidsC_length n bs]; exact own_mono HW3.out (by omega)
  case assign =>
    intro l x W K hK
    gi_wp2
    exact hK
  case body =>
    rintro l pre x W ⟨⟨A', c', hI, hI2⟩, hB⟩ hT hsp hlt2
    have hTT : W.ownsRow (w3.heap.size + 2) 2 1 x.2.2 x.2.1.length (ints x.2.1) := hT
    obtain ⟨xa, xl, xv⟩ := x
    obtain ⟨Ax, cx, hxv⟩ := own_form hTT
    dsimp only at hxv hTT
    subst hxv
    have p0 : W.cell? ⟨w1.heap.size, 0, none⟩ = some (.slice A' (lastT (bidsC n bs) pre).length c') := hI.cell 0
    have p1 := hI.frozen 0
    have HII := Lib.hid hI
    have HT := Lib.hid hTT
    have HBB := Lib.hid hB
    clear hI hI2 hB hT hTT hsp hlt2
    dsimp only
    gi_wp2
    refine ⟨KeepsOthers.setCell _ _ _, KeepR.set W (.inl (by simp; omega)) _, ⟨Ax, cx, ?_, ?_⟩, HBB.out.setCell (p := ⟨w1.heap.size, 0, none⟩) (by simp; omega) _⟩
    · rw [lastT_snoc]
      exact HII.out.set_ 0 (.slice Ax xl.length cx)
    · rw [lastT_snoc]
      exact own_mono (own_lo HT.out (grownBy_setCell W ⟨w1.heap.size, 0, none⟩ (.slice Ax xl.length cx)) (fun g e => by simp at e; omega)) (by omega)
  case done =>
    rintro D ys W hD hys ⟨⟨A', c', hI, hI2⟩, hB⟩ hK
    have hlen := payTo_len HI.out HWF.out (Nat.le_refl bs.length)
    rw [lastT_all HI.out hys, hlen] at hI hI2
    have p0 : W.cell? ⟨w1.heap.size, 0, none⟩ = some (.slice A' bs.length c') := hI.cell 0
    have HO := Lib.hid hI2
    have HBB := Lib.hid hB
    have HK := Lib.hid hK
    clear hI hI2 hB hK hlen
    go_wp2_with fail
    refine ⟨by simp, .inl ⟨_, _, rfl, run_takeDeferred HK.out, ?_⟩⟩
    refine ⟨.tuple #[.slice A' bs.length c', .int .i64 0], by simp [results, Try.results39, go_sem], A', c', rfl, own_cells HO.out (grownBy_putObj' W D (.deferred none)) (fun r e => by cases e; exact ⟨_, HK.out, rfl⟩), HBB.out.trans (belowK_b (w := w) (Nat.le_refl _) W D _ _ (by omega) HK.out rfl rfl)⟩
  case stop =>
    rintro D c pre W hD hpre2 hf hK
    exact hf.elim
end Go.Proofs.Ytcigobiolbojhaa.Vb

/- CoreStands: the steps, one behind the other. -/
namespace Go.Proofs.Ytcigobiolbojhaa.Vb
open Go.RowKit

def atOf (pre : List (Int × List Int)) : Int := match pre.getLast? with | some x => x.1 | none => -1
def lastOf (pre : List (Int × List Int)) : Int := match pre.getLast? with | some x => sumI x.2 | none => -1
theorem atOf_snoc (pre : List (Int × List Int)) (x : Int × List Int) : atOf (pre ++ [x]) = x.1 := by simp [atOf]
theorem lastOf_snoc (pre : List (Int × List Int)) (x : Int × List Int) : lastOf (pre ++ [x]) = sumI x.2 := by simp [lastOf]

section
variable {n : Int} {bs : List (List Off)}
def zipTo (n : Int) (bs : List (List Off)) (k : Nat) : List (Int × List Int) := (whoTo (bestC n bs) k).zip (rowsTo n bs k)
theorem zipTo_yes {k : Nat} (h : winB (bestC n bs) k = true) : zipTo n bs (k + 1) = zipTo n bs k ++ [((k : Int), payTo n bs (k + 1))] := by
  unfold zipTo
  have hr : rowsTo n bs (k + 1) = rowsTo n bs k ++ [payTo n bs (k + 1)] := by simp [rowsTo, h]
  rw [whoTo_yes h, hr, List.zip_append (by rw [rowsTo_len])]
  rfl
theorem zipTo_no {k : Nat} (h : winB (bestC n bs) k = false) : zipTo n bs (k + 1) = zipTo n bs k := by
  unfold zipTo
  have hr : rowsTo n bs (k + 1) = rowsTo n bs k := by simp [rowsTo, h]
  rw [whoTo_no h, hr]
theorem payTo_no {k : Nat} (h : winB (bestC n bs) k = false) : payTo n bs (k + 1) = payTo n bs k := by
  show payStep n bs (payTo n bs k) k = _
  unfold payStep
  rw [if_neg (by rw [h]; simp)]

theorem sumI_nonneg {l : List Int} (h : ∀ x ∈ l, 0 ≤ x) : 0 ≤ sumI l := by
  induction l with
  | nil => simp [sumI]
  | cons a l ih =>
    have h1 := h a (by simp)
    have h2 := ih (fun x hx => h x (by simp [hx]))
    simp only [sumI]
    omega
theorem pay_sum_nonneg (hi : instE n bs = 0) (hwf : ∀ l ∈ bs, ∀ o ∈ l, o.wf) {p : List Int} (hok : payL p (bidsC n bs) = true) : 0 ≤ sumI p := sumI_nonneg fun x hx => (pay_bd hi hwf hok x hx).1

/-- what holds behind k buyers -/
theorem zip_inv (hi : instE n bs = 0) (hwf : ∀ l ∈ bs, ∀ o ∈ l, o.wf) : ∀ k, k ≤ bs.length →
    (atOf (zipTo n bs k) < k ∧ ((zipTo n bs k = [] ∧ payTo n bs k = bidsC n bs ∧ ∀ j, j < k → winB (bestC n bs) j = false) ∨ (zipTo n bs k ≠ [] ∧ lastOf (zipTo n bs k) = sumI (payTo n bs k)))) ∧
    ∀ pre x, pre ++ [x] <+: zipTo n bs k → FreeP n bs x.2 ∧ atOf pre < x.1 ∧ 0 ≤ x.1 ∧ x.1 < (bs.length : Int) ∧ (pre ≠ [] → sumI x.2 ≤ lastOf pre)
  | 0, _ => ⟨⟨by show (-1 : Int) < 0; decide, .inl ⟨rfl, rfl, fun j h => by omega⟩⟩, fun pre x h => by
      have := h.length_le
      simp [zipTo, whoTo] at this⟩
  | k + 1, hk => by
    obtain ⟨⟨h1, h2⟩, h3⟩ := zip_inv hi hwf k (by omega)
    cases hw : winB (bestC n bs) k with
    | false =>
      rw [zipTo_no hw, payTo_no hw]
      refine ⟨⟨by omega, ?_⟩, h3⟩
      rcases h2 with ⟨a, b, c⟩ | h2
      · refine .inl ⟨a, b, fun j hj => ?_⟩
        by_cases hjk : j = k
        · subst hjk; exact hw
        · exact c j (by omega)
      · exact .inr h2
    | true =>
      rw [zipTo_yes hw]
      have hs := sum_step hi hwf (show k < bs.length by omega)
      refine ⟨⟨by rw [atOf_snoc]; simp only; omega, .inr ⟨by simp, by rw [lastOf_snoc]⟩⟩, fun pre x h => ?_⟩
      rw [List.prefix_concat_iff] at h
      rcases h with h | h
      · have h4 := List.append_inj' h rfl
        obtain rfl := List.singleton_inj.1 h4.2
        obtain rfl := h4.1
        refine ⟨free_to hi hwf (k + 1) hk, h1, by simp only; omega, by simp only; omega, fun hne => ?_⟩
        rcases h2 with ⟨a, _⟩ | ⟨_, h2⟩
        · exact absurd a hne
        · rw [h2]; exact hs
      · exact h3 pre x h
theorem zip_all (hi : instE n bs = 0) : (whoL n bs).zip (rowsL n bs) = zipTo n bs bs.length := by
  unfold whoL rowsL zipTo
  rw [if_pos hi, if_pos hi]
/-- at the end -/
theorem zip_end (hi : instE n bs = 0) (hwf : ∀ l ∈ bs, ∀ o ∈ l, o.wf) : (zipTo n bs bs.length = [] ∧ sumI (payTo n bs bs.length) = 0) ∨ (zipTo n bs bs.length ≠ [] ∧ lastOf (zipTo n bs bs.length) = sumI (payTo n bs bs.length) ∧ 0 ≤ sumI (payTo n bs bs.length)) := by
  have hf := free_to hi hwf bs.length (Nat.le_refl _)
  rcases (zip_inv hi hwf bs.length (Nat.le_refl _)).1.2 with ⟨a, b, c⟩ | ⟨a, b⟩
  · refine .inl ⟨a, ?_⟩
    rw [b]
    have h0 : ∀ x ∈ bidsC n bs, x = 0 := by
      intro x hx
      obtain ⟨i, hi', rfl⟩ := List.getElem_of_mem hx
      have : i < bs.length := by rwa [bidsC_length] at hi'
      exact lose_bid (c i this) (List.getElem?_eq_getElem hi')
    generalize bidsC n bs = l at h0
    clear hf a b c
    induction l with
    | nil => rfl
    | cons x l ih =>
      simp only [sumI]
      rw [h0 x (by simp), ih (fun y hy => h0 y (by simp [hy]))]
      rfl
  · exact .inr ⟨a, b, pay_sum_nonneg hi hwf hf.1⟩
end
end Go.Proofs.Ytcigobiolbojhaa.Vb

/- Law 18's own: large, total. -/
namespace Go.Proofs.Ytcigobiolbojhaa.Vb
open Go.RowKit

def largeB (bs : List (List Off)) : Bool := (bs.take 41).any (fun l => decide (20 < l.length)) || decide (40 < bs.length)
theorem largeB_of {bs : List (List Off)} {k : Nat} {l : List Off} (h : bs[k]? = some l) (hk : k < 41) (hl : 20 < l.length) : largeB bs = true := by
  unfold largeB
  rw [List.any_eq_true.2 ⟨l, List.mem_of_getElem? (i := k) (by rw [List.getElem?_take, if_pos hk]; exact h), by simpa using hl⟩]
  rfl
theorem largeB_none {bs : List (List Off)} (h : ∀ j l, j < min bs.length 41 → bs[j]? = some l → ¬ 20 < l.length) : largeB bs = decide (40 < bs.length) := by
  unfold largeB
  have : (bs.take 41).any (fun l => decide (20 < l.length)) = false := by
    rw [List.any_eq_false]
    intro l hl
    obtain ⟨j, hj, rfl⟩ := List.getElem_of_mem hl
    rw [List.length_take] at hj
    rw [List.getElem_take]
    simpa using h j _ (by omega) (List.getElem?_eq_getElem (by omega))
  rw [this]
  rfl
theorem largeB_small {bs : List (List Off)} (h : largeB bs = false) : bs.length ≤ 40 ∧ ∀ l ∈ bs, l.length ≤ 20 := by
  unfold largeB at h
  rw [Bool.or_eq_false_iff] at h
  obtain ⟨h1, h2⟩ := h
  have h2 : bs.length ≤ 40 := by simpa using h2
  refine ⟨h2, fun l hl => ?_⟩
  rw [List.any_eq_false] at h1
  rw [List.take_of_length_le (by omega)] at h1
  simpa using h1 l hl

set_option maxHeartbeats 800000 in
theorem large_any (n : Int) (bs : List (List Off)) (v : Value) (R : Nat → Prop) (w : World) (hl : Buys w R v bs) :
    Calls Try.prog 36 #[.agg #[.int .i64 n, v]] w fun e w' => e = .returned (.bool (largeB bs)) ∧ Below w.heap.size w w' := by
  obtain ⟨vs, ⟨hlen, A, cap, rfl, hncap, hcap, hcells⟩, hvs⟩ := id hl
  unfold maxLen at hcap
  have hnl : bs.length ≤ 9223372036854775807 := by omega
  have HC := Lib.hid hcells
  have HV := Lib.hid hvs
  clear hl hcells hvs hlen
  go_enter Try.func36, Try.ntmps36
  go_wp2
  go_loop [3] (fun i => ∃ k : Nat, k ≤ min bs.length 41 ∧ i = .int .i64 k ∧ ∀ j l, j < k → bs[j]? = some l → ¬ 20 < l.length) (fun i => bs.length - (intOf i).toNat)
  case atStart => exact ⟨0, Nat.zero_le _, rfl, fun j x hj => by omega⟩
  case round =>
    obtain ⟨k, hk, rfl, hno⟩ := hrel
    have HN := Lib.hid hno
    clear hno
    by_cases hlt : k < bs.length
    · by_cases h41 : k < 41
      · obtain ⟨bb, off, rfl, _, hbb, hcs⟩ := HC.out (by omega)
        obtain ⟨l, ho⟩ : ∃ l, bs[k]? = some l := ⟨_, List.getElem?_eq_getElem hlt⟩
        obtain ⟨u, hu, hol⟩ := HV.out k l ho
        have c0 := cellAlloc (hcs _ _ hu)
        obtain ⟨⟨_, A', cap', rfl, _⟩, _⟩ := hol
        clear hcs hu
        have HO := Lib.hid ho
        clear ho
        by_cases h8 : 20 < l.length
        · have h8' := Lib.hid h8
          go_wp2
          go_ret
          rw [largeB_of HO.out h41 h8'.out]
          exact ⟨rfl, (Below.refl _ _).alloc (Nat.le_refl _) _⟩
        · have h8' := Lib.hid h8
          go_wp2
          go_round
          case rel =>
            refine ⟨k + 1, by omega, by go_num, fun j x hj hx => ?_⟩
            by_cases hjk : j < k
            · exact HN.out j x hjk hx
            · obtain rfl : j = k := by omega
              rw [HO.out] at hx
              cases hx
              exact h8'.out
          case measure => simp [intOf]; omega
      · have hg := largeB_none (bs := bs) (fun j l hj => HN.out j l (by omega))
        have HG := Lib.hid hg
        clear hg
        go_wp2
        go_ret
        refine ⟨ret_bool ?_, (Below.refl _ _).alloc (Nat.le_refl _) _⟩
        rw [HG.out, Bool.eq_iff_iff]
        simp
        omega
    · have hg := largeB_none (bs := bs) (fun j l hj => HN.out j l (by omega))
      have HG := Lib.hid hg
      clear hg
      go_wp2
      go_ret
      refine ⟨ret_bool ?_, (Below.refl _ _).alloc (Nat.le_refl _) _⟩
      rw [HG.out, Bool.eq_iff_iff]
      simp
      omega
end Go.Proofs.Ytcigobiolbojhaa.Vb

/- Law 18's own: small, known. -/
namespace Go.Proofs.Ytcigobiolbojhaa.Vb
open Go.RowKit

theorem same18_true (cs : List Int) (ca cb : Value) (R1 R2 : Nat → Prop) (w : World) (h1 : Sl w R1 ca cs.length 1 (ints cs)) (h2 : Sl w R2 cb cs.length 1 (ints cs)) :
    Calls Try.prog 43 #[ca, cb] w fun e w' => e = .returned (.bool true) ∧ Below w.heap.size w w' := by
  obtain ⟨_, A1, c1, rfl, hn1, hc1, hs1⟩ := h1
  obtain ⟨_, A2, c2, rfl, hn2, hc2, hs2⟩ := h2
  unfold maxLen at hc1 hc2
  have H1 := Lib.hid hs1
  have H2 := Lib.hid hs2
  clear hs1 hs2
  go_enter Try.func43, Try.ntmps43
  go_wp2
  go_loopw [5] (fun i wr => ∃ k : Nat, k ≤ cs.length ∧ i = .int .i64 k ∧ Below w.heap.size w wr) (fun i _ => cs.length - (intOf i).toNat)
  case atStart => exact ⟨0, Nat.zero_le _, rfl, Below.refl _ _⟩
  case round =>
    obtain ⟨k, hk, rfl, hb⟩ := hrel
    by_cases hlt : k < cs.length
    · obtain ⟨c, hc⟩ : ∃ c, cs[k]? = some c := ⟨_, List.getElem?_eq_getElem hlt⟩
      obtain ⟨b1, o1, rfl, _, hb1, hx1⟩ := H1.out (by omega)
      obtain ⟨b2, o2, rfl, _, hb2, hx2⟩ := H2.out (by omega)
      have e1 := (hb.cell hb1).trans (hx1 _ _ (ints_get hc))
      have e2 := (hb.cell hb2).trans (hx2 _ _ (ints_get hc))
      have HB := Lib.hid hb
      clear hx1 hx2 hb hc
      go_wp2_with fail
      go_quiet (fail)
      go_wp2_with fail
      go_roundw
      case rel => exact ⟨k + 1, by omega, by go_num, below_drewN HB.out _⟩
      case measure => simp [intOf]; omega
    · have HB := Lib.hid hb
      clear hb
      go_wp2_with fail
      go_ret
      exact ⟨rfl, HB.out⟩

def bsS : List (List Off) := [[⟨1, 10⟩], [⟨2, 10⟩], [⟨3, 10⟩]]

theorem small_buys {w : World} {g g1 g2 g3 : Nat} {t u : TypeId} (h1 : Blk w g1 t #[.int .u32 1, .int .i64 10]) (h2 : Blk w g2 t #[.int .u32 2, .int .i64 10]) (h3 : Blk w g3 t #[.int .u32 3, .int .i64 10])
    (h : Blk w g u #[.slice (some ⟨g1, 0, none⟩) 1 1, .slice (some ⟨g2, 0, none⟩) 1 1, .slice (some ⟨g3, 0, none⟩) 1 1]) : Buys w (fun _ => True) (.slice (some ⟨g, 0, none⟩) 3 3) bsS := by
  refine ⟨_, Sl.blk (sz := 1) h (by omega) (by unfold maxLen; omega) rfl, fun k l hk => ?_⟩
  rcases k with _ | _ | _ | k
  · obtain rfl : [⟨1, 10⟩] = l := by simpa [bsS] using hk
    exact ⟨_, rfl, Sl.blk (sz := 2) h1 (by omega) (by unfold maxLen; omega) rfl, fun o ho => by simp at ho; subst ho; simp [Off.wf]⟩
  · obtain rfl : [⟨2, 10⟩] = l := by simpa [bsS] using hk
    exact ⟨_, rfl, Sl.blk (sz := 2) h2 (by omega) (by unfold maxLen; omega) rfl, fun o ho => by simp at ho; subst ho; simp [Off.wf]⟩
  · obtain rfl : [⟨3, 10⟩] = l := by simpa [bsS] using hk
    exact ⟨_, rfl, Sl.blk (sz := 2) h3 (by omega) (by unfold maxLen; omega) rfl, fun o ho => by simp at ho; subst ho; simp [Off.wf]⟩
  · simp [bsS] at hk

set_option maxHeartbeats 800000 in
theorem small_any (w : World) :
    Calls Try.prog 92 #[] w fun e w' => ∃ A cap, e = .returned (.agg #[.int .i64 2, .slice A 3 cap]) ∧ Buys w' (fun _ => True) (.slice A 3 cap) bsS ∧ Below w.heap.size w w' := by
  go_enter Try.func92, Try.ntmps92
  go_wp2
  refine bodyPost_ret (v := .agg #[.int .i64 2, .slice (some ⟨w.heap.size + 1 + 1 + 1 + 1, 0, none⟩) 3 3]) (by simp [results, Try.results92, go_sem]) rfl ⟨_, _, rfl, small_buys (((Blk.new' _ _ (by simp)).alloc _).alloc _ |>.alloc _) (((Blk.new' _ _ (by simp)).alloc _).alloc _) ((Blk.new' _ _ (by simp)).alloc _) (Blk.new' _ _ (by simp)), ?_⟩
  exact (((((Below.refl _ _).alloc (Nat.le_refl _) _).alloc (by simp) _).alloc (by simp; omega) _).alloc (by simp; omega) _).alloc (by simp; omega) _

theorem bsS_inst : instE 2 bsS = 0 := by decide
theorem bsS_pay : payTo 2 bsS 3 = [0, 10, 0] := by decide +kernel
theorem bsS_ask0 : askE 2 bsS [0, 0, 0] = 0 := by decide +kernel
theorem bsS_blockB : blockB 2 bsS [0, 0, 0] = true := by decide +kernel
theorem bsS_blockL : blockL 2 bsS [0, 0, 0] = [2] := by decide +kernel
theorem bsS_blockM : blockM 2 bsS [0, 0, 0] = 10 := by decide +kernel
theorem bsS_least : leastV 2 bsS [9, 6, 0] 0 = 4 := by decide +kernel
theorem bsS_leastE : leastE 2 bsS [9, 6, 0] 0 = 0 := by decide +kernel
end Go.Proofs.Ytcigobiolbojhaa.Vb

/- Law 18's own: known. -/
namespace Go.Proofs.Ytcigobiolbojhaa.Vb
open Go.RowKit

set_option maxRecDepth 100000 in
set_option maxHeartbeats 1600000 in
theorem known_any (w : World) : Calls Try.prog 37 #[] w fun e w' => e = .returned (.bool true) ∧ Below w.heap.size w w' := by
  have hz3 : ∀ (W : World) (a b c : Int), Sl (W.alloc (.cells #[.int .i64 a, .int .i64 b, .int .i64 c] 2)) (fun _ => True) (.slice (some ⟨W.heap.size, 0, none⟩) 3 3) [a, b, c].length 1 (ints [a, b, c]) := fun W a b c => Sl.blk (Blk.new W _ _) (by omega) (by unfold maxLen; omega) rfl
  go_enter Try.func37, Try.ntmps37
  go_wp2_with fail
  refine (small_any w).mono ?_
  rintro e w1 ⟨T1, k1, rfl, ht1, hb1⟩
  have HT1 := Lib.hid ht1
  have HB1 := Lib.hid hb1
  clear hb1 ht1
  go_wp2_with fail
  refine (corePay_ok 2 bsS _ _ _ HT1.out bsS_inst).mono ?_
  rintro e w2 ⟨AP, kP, rfl, hown, hb2⟩
  have hown : w2.ownsRow w1.heap.size 2 1 (.slice AP 3 kP) 3 (ints [0, 10, 0]) := by rw [← bsS_pay]; exact hown
  have HP2 := Lib.hid hown
  have HB2 := Lib.hid (HB1.out.trans (hb2.mono HB1.out.size))
  clear hb2 hown
  go_wp2_with fail
  refine (small_any w2).mono ?_
  rintro e w3 ⟨T3, k3, rfl, ht3, hb3⟩
  have HT3 := Lib.hid ht3
  have HP3 := Lib.hid (own_grow HP2.out hb3)
  have HB3 := Lib.hid (HB2.out.trans (hb3.mono HB2.out.size))
  clear hb3 ht3
  go_wp2_with fail
  refine (coreBlocks_ok 2 bsS _ _ _ [0, 0, 0] _ _ (HT3.out.alloc _) (hz3 w3 0 0 0) bsS_ask0).mono ?_
  rintro e w4 ⟨A4, k4, rfl, hown4, hb4⟩
  rw [bsS_blockL] at hown4 ⊢
  rw [bsS_blockM, bsS_blockB, bsS_ask0]
  obtain ⟨g, rfl, _, _, _, _, _⟩ := own_some hown4 (by decide)
  have HO4 := Lib.hid hown4
  have HP4 := Lib.hid (own_grow (own_alloc HP3.out _) hb4)
  have HB4 := Lib.hid ((HB3.out.alloc HB3.out.size _).trans (hb4.mono (by have := HB3.out.size; simp; omega)))
  clear hb4 hown4
  go_wp2_with fail
  obtain ⟨w5, hw5⟩ : ∃ V, V = w4.alloc (.cells #[.slice (some ⟨g, 0, none⟩) 1 k4, .int .i64 10] 85) := ⟨_, rfl⟩
  have HQ5 := Lib.hid (show Blk w5 w4.heap.size 85 #[.slice (some ⟨g, 0, none⟩) 1 k4, .int .i64 10] from by rw [hw5]; exact Blk.new w4 _ _)
  have HO5 := Lib.hid (show w5.ownsRow (w3.alloc (.cells #[.int .i64 0, .int .i64 0, .int .i64 0] 2)).heap.size 3 1 (.slice (some ⟨g, 0, none⟩) 1 k4) 1 (ints [2]) from by rw [hw5]; exact own_alloc HO4.out _)
  have HP5 := Lib.hid (show w5.ownsRow w1.heap.size 2 1 (.slice AP 3 kP) 3 (ints [0, 10, 0]) from by rw [hw5]; exact own_alloc HP4.out _)
  have HB5 := Lib.hid (show Below w.heap.size w w5 from by rw [hw5]; exact HB4.out.alloc HB4.out.size _)
  rw [← hw5]
  clear hw5
  refine (small_any w5).mono ?_
  rintro e w6 ⟨T6, k6, rfl, ht6, hb6⟩
  have HT6 := Lib.hid ht6
  have HQ6 := Lib.hid (HQ5.out.grow hb6)
  have HO6 := Lib.hid (own_grow HO5.out hb6)
  have HP6 := Lib.hid (own_grow HP5.out hb6)
  have HB6 := Lib.hid (HB5.out.trans (hb6.mono HB5.out.size))
  clear hb6 ht6
  go_wp2_with fail
  refine (coreLeast_any 2 bsS _ _ _ [9, 6, 0] _ 0 _ (HT6.out.alloc _) (hz3 w6 9 6 0)).mono ?_
  rintro e w7 ⟨rfl, hb7⟩
  rw [bsS_least, bsS_leastE]
  have hbs := (Below.refl w6.heap.size w6).alloc (Nat.le_refl _) (.cells #[.int .i64 9, .int .i64 6, .int .i64 0] 2)
  have hQ7 := (HQ6.out.grow hbs).grow hb7
  have hO7 := own_grow (own_grow HO6.out hbs) hb7
  have hP7 := own_grow (own_grow HP6.out hbs) hb7
  have hB7 := (HB6.out.trans (hbs.mono HB6.out.size)).trans (hb7.mono (by have := HB6.out.size; simp; omega))
  have hal := (Below.refl w7.heap.size w7).alloc (Nat.le_refl _) (.cells #[.int .i64 0, .int .i64 10, .int .i64 0] 2)
  have HQ7 := Lib.hid (hQ7.grow hal)
  have HO7 := Lib.hid (own_grow hO7 hal)
  have HP7 := Lib.hid (own_grow hP7 hal)
  have HB7 := Lib.hid (hB7.trans (hal.mono hB7.size))
  clear hbs hQ7 hO7 hP7 hB7 hal hb7
  go_wp2_with (go_at_call 43; refine (same18_true [0, 10, 0] _ _ _ _ _ (Sl.of_own HP7.out) (hz3 w7 0 10 0)).mono ?_; rintro e w8 ⟨rfl, hb8⟩; obtain ⟨q0, q1, o0⟩ : w8.cell? ⟨w4.heap.size, 0, none⟩ = some (.slice (some ⟨g, 0, none⟩) 1 k4) ∧ w8.cell? ⟨w4.heap.size, 1, none⟩ = some (.int .i64 10) ∧ w8.cell? ⟨g, 0, none⟩ = some (.int .i64 2) := ⟨(HQ7.out.grow hb8).cell 0, (HQ7.out.grow hb8).cell 1, (own_grow HO7.out hb8).cellAt 0 (by decide)⟩; have HB8 := Lib.hid (HB7.out.trans (hb8.mono HB7.out.size)); clear hb8)
  go_ret
  exact ⟨rfl, HB8.out⟩
end Go.Proofs.Ytcigobiolbojhaa.Vb

/- Law 18's own: steps. -/
namespace Go.Proofs.Ytcigobiolbojhaa.Vb
open Go.RowKit Go.Shelf
attribute [local go_sem] Oper.semAt_some

theorem eql_seq_nil (fn : Fn) (fi ca : Array Value) (W : World) : (binOp .eql 78 (.func fn fi ca) .nilFunc).run Try.prog W = .ok (.bool false) W := by kernel_rfl

theorem quiet_left_in {P : Program} {f : FuncId} {args : Array Value} {w : World} {n r l : Nat} {v : Value}
    (h : Calls P f args (w.drewN n) fun e w' => e = .returned v ∧ w.drewN n = w') : CallsIn (Fence.wide.inRound l) r P f args (w.drewN n) fun e w'' => e = .returned v ∧ ∃ m, w'' = w.drewN m :=
  CallsIn.inRound l (callsIn_wide.2 (quiet_left h))
theorem wp_noPanic {P : Program} {c : Code} {Q : Exit → Act → World → Prop} {a : Act} {w : World} (h : c.wp P (fun e a w => match e with | .panic _ => False | e => Q e a w) a w) : c.wp P Q a w :=
  wp_mono h fun e a w h => by
    cases e with
    | panic c => exact h.elim
    | _ => exact h
theorem keepsO_of_below {A B : World} (h : Below A.heap.size A B) : KeepsOthers A B := ⟨h.size, fun k o hk _ => (h.block k (Array.getElem?_eq_some_iff.1 hk).1).trans hk⟩
/-- between two steps -/
structure StepI (b0 g : Nat) (n : Int) (v : Value) (pre : List (Int × List Int × Value)) (W : World) : Prop where
  x : Blk W b0 24 #[.int .i64 n, v]
  r : Blk W (b0 + 1) 4 #[.bool false]
  l : Blk W g 2 #[.int .i64 (lastOf (tells pre))]
  a : Blk W (g + 1) 3 #[.int .i64 (atOf (tells pre))]
theorem stepI_own (b0 g : Nat) (n : Int) (v : Value) : Own (StepI b0 g n v) := fun _ _ _ _ h hg hr => ⟨h.x.cells hg hr, h.r.cells hg hr, h.l.cells hg hr, h.a.cells hg hr⟩

set_option maxRecDepth 100000 in
set_option maxHeartbeats 4000000 in
theorem steps_walk (n : Int) (bs : List (List Off)) (v vp : Value) (R Rp : Nat → Prop) (w : World) (hl : Buys w R v bs) (hi : instE n bs = 0) (hp : Sl w Rp vp (payTo n bs bs.length).length 1 (ints (payTo n bs bs.length))) :
    Calls Try.prog 49 #[.agg #[.int .i64 n, v], vp] w fun e w' => e = .returned (.bool true) ∧ Below w.heap.size w w' := by
  obtain ⟨_, ⟨_, A, cap, rfl, _⟩, _⟩ := id hl
  obtain ⟨_, AP, capP, rfl, _, _, _⟩ := id hp
  have HB := Lib.hid hl
  have HI := Lib.hid hi
  have HP := Lib.hid hp
  have HWF := Lib.hid (Buys.wf hl)
  have hl32 := (instE_zero hi).2.2.1
  have heq := eql_seq_nil
  clear hl hi hp
  refine (callsIn_wide (n := 3)).1 (callsIn_of_wp_marks Try.func49 rfl trivial ((wpIn_wide (n := 3)).2 (wp_noPanic ?_)))
  simp only [Try.ntmps49, List.size_toArray, List.length_cons, List.length_nil, Nat.reduceAdd, Nat.reduceSub, Array.replicate_succ, Array.replicate_zero, List.push_toArray, List.append_toArray, List.nil_append, List.cons_append]
  go_wp2_with fail
  refine (coreSteps_ok n bs _ R _ ((HB.out.alloc _).alloc _) HI.out).mono ?_
  rintro e w1 ⟨b4, b3, rfl, hsh, hb1⟩
  obtain ⟨hX, hR, hs1, hbw⟩ := two_blk' hb1
  have hsh' : Shared w1 (w.heap.size + 2) b4 b3 (whoL n bs) (rowsL n bs) := by simpa using hsh
  have HX := Lib.hid hX
  have HR := Lib.hid hR
  have HSH := Lib.hid hsh'
  have HB1 := Lib.hid hbw
  clear hb1 hsh hsh' hX hR hbw
  go_wp2_with fail
  refine (wpIn_wide (n := 3)).1 ?_
  obtain ⟨w2, hw2⟩ : ∃ V, V = (w1.alloc (.cells #[.int .i64 (-1)] 2)).alloc (.cells #[.int .i64 (-1)] 3) := ⟨_, rfl⟩
  have hI0 : StepI w.heap.size w1.heap.size n (.slice A bs.length cap) [] w2 := by
    rw [hw2]
    exact ⟨(HX.out.alloc _).alloc _, (HR.out.alloc _).alloc _, (Blk.new w1 _ _).alloc _, Blk.new' _ _ (by simp)⟩
  have hB2 : Below w.heap.size w w2 := by rw [hw2]; exact (HB1.out.alloc HB1.out.size _).alloc (by have := HB1.out.size; simp; omega) _
  have hK2 : KeepR (w.heap.size + 2) w1.heap.size w1 w2 := by rw [hw2]; exact KeepR.of_below (((Below.refl _ _).alloc (Nat.le_refl _) _).alloc (by simp) _)
  have hs2 : w2.heap.size = w1.heap.size + 2 := by rw [hw2]; simp
  rw [← hw2]
  have HI0 := Lib.hid hI0
  have HB2 := Lib.hid hB2
  have HK2 := Lib.hid hK2
  clear hw2 hI0 hB2 hK2
  refine' wpIn_rangeFunc_V (F := Fence.wide) (n := 3) rfl (by omega) (gf := 98) (lb := #[.pointer (some ⟨b4, 0, none⟩), .pointer (some ⟨b3, 0, none⟩)]) rfl trivial (enters_of Try.func98 (by kernel_rfl) rfl)
    (shared_stops Fence.wide 2 trivial rfl (by omega) HSH.out (by have := whoL_len n bs; omega) (rowsL_len n bs) (fun r hr => by rw [rowsTo_rows HI.out HWF.out hr]; omega) HK2.out) keepR_t (keepR_b (by omega)) (Below.refl _ _) (fun _ => rfl) (told_own _ _)
    (fun pre W => StepI w.heap.size w1.heap.size n (.slice A bs.length cap) pre W ∧ Below w.heap.size w W)
    (fun _ _ _ => False)
    (OwnFrom.and (Own.from (stepI_own _ _ _ _) _) (ownFrom_below (Nat.le_refl _) (by omega)))
    (fun c => fun _ _ _ _ h _ _ => h)
    ⟨HI0.out, HB2.out⟩ _ ?assign ?body ?done ?stop
  case assign =>
    intro l x W K hK
    gi_wp2
    exact hK
  case body =>
    rintro l pre x W ⟨hI, hB⟩ hT hsp hlt2
    have hTT : W.ownsRow (w2.heap.size + 2) 2 1 x.2.2 x.2.1.length (ints x.2.1) := hT
    obtain ⟨xa, xl, xv⟩ := x
    obtain ⟨Ax, cx, hxv⟩ := own_form hTT
    dsimp only at hxv hTT
    subst hxv
    have hz := (zip_inv HI.out HWF.out bs.length (Nat.le_refl _)).2 (tells pre) (xa, xl) (by rw [zip_all HI.out] at hsp; simpa [tells] using hsp)
    obtain ⟨hfree, hat, hx0, hx1, hlast⟩ := hz
    dsimp only at hfree hat hx0 hx1 hlast
    have hask : askE n bs xl = 0 := by unfold askE; rw [if_pos HI.out, if_pos hfree.1]
    have hbk : blockB n bs xl = false := free_blocked HI.out hfree
    have hxlen := pay_len hfree.1
    rw [hxlen] at hTT ⊢
    have HXL := Lib.hid hxlen
    have hsum0 := pay_sum_nonneg HI.out HWF.out hfree.1
    have hpb := pay_bd HI.out HWF.out hfree.1
    obtain ⟨lv, hlv⟩ : ∃ z, z = lastOf (tells pre) := ⟨_, rfl⟩
    obtain ⟨av, hav⟩ : ∃ z, z = atOf (tells pre) := ⟨_, rfl⟩
    have hor : lv < 0 ∨ sumI xl ≤ lv := by
      by_cases hne : tells pre = []
      · left; rw [hlv, hne]; decide
      · right; rw [hlv]; exact hlast hne
    have p0 : W.cell? ⟨w.heap.size, 0, none⟩ = some (.int .i64 n) := hI.x.cell 0
    have p1 : W.cell? ⟨w.heap.size, 1, none⟩ = some (.slice A bs.length cap) := hI.x.cell 1
    have HII := Lib.hid hI
    have HT := Lib.hid hTT
    have HBB := Lib.hid hB
    have HASK := Lib.hid hask
    have HBK := Lib.hid hbk
    have HPB := Lib.hid hpb
    have HLV := Lib.hid hlv
    have HAV := Lib.hid hav
    have HSP := Lib.hid hsp
    rw [← hav] at hat
    clear hI hB hT hTT hsp hlt2 hask hbk hpb hlv hav hlast hfree hxlen
    dsimp only
    have hd : 1 ≤ 3 - 1 - 1 := by omega
    have hslx : Sl W (fun _ => True) (.slice Ax bs.length cx) xl.length 1 (ints xl) := by rw [HXL.out]; exact (Sl.of_own HT.out).any
    have HSLX := Lib.hid hslx
    clear hslx
    gi_wp2
    refine ⟨trivial, (CallsIn.inRound l (callsIn_wide.2 (coreBlocks_ok n bs _ R _ xl (.slice Ax bs.length cx) W (HB.out.grow HBB.out) HSLX.out HASK.out))).mono ?_⟩
    rintro e W2 ⟨A4, k4, rfl, _, hb4⟩
    rw [HASK.out, HBK.out]
    obtain ⟨W3, hW3⟩ : ∃ V, V = W2.alloc (.cells #[.slice A4 (blockL n bs xl).length k4, .int .i64 (blockM n bs xl)] 85) := ⟨_, rfl⟩
    have hg : Below W.heap.size W W3 := by rw [hW3]; exact hb4.alloc hb4.size _
    have c0 : W3.cell? ⟨w1.heap.size, 0, none⟩ = some (.int .i64 lv) := by rw [HLV.out]; exact (HII.out.l.grow hg).cell 0
    have c1 : W3.cell? ⟨w1.heap.size + 1, 0, none⟩ = some (.int .i64 av) := by rw [HAV.out]; exact (HII.out.a.grow hg).cell 0
    have HG := Lib.hid hg
    clear hb4 hg p0 p1
    have hle : decide (xa ≤ av) = false := by simp; omega
    have hfn : Fence.wide.fn 102 := trivial
    have hmx : Try.prog.follows .mixedOrders = true := by kernel_rfl
    have htot : ∀ V, Below W3.heap.size W3 V → Calls Try.prog 102 #[.slice Ax bs.length cx] V fun e w' => e = .returned (.int .i64 (sumI xl)) ∧ V = w' := fun V hV => lawTotal_any xl _ (fun _ => True) _ ((HSLX.out.grow HG.out).grow hV) (fun x hx => by have := HPB.out x hx; omega) (by have := HXL.out; omega)
    have HTOT := Lib.hid htot
    clear htot
    have f0 : W3.frozen? ⟨w1.heap.size, 0, none⟩ = false := (HII.out.l.grow HG.out).frozen 0
    have f1 : W3.frozen? ⟨w1.heap.size + 1, 0, none⟩ = false := (HII.out.a.grow HG.out).frozen 0
    have hend : KeepsOthers W ((W3.drew.setCell ⟨w1.heap.size + 1, 0, none⟩ (.int .i64 xa)).setCell ⟨w1.heap.size, 0, none⟩ (.int .i64 (sumI xl))) ∧ KeepR (w.heap.size + 2) w1.heap.size W ((W3.drew.setCell ⟨w1.heap.size + 1, 0, none⟩ (.int .i64 xa)).setCell ⟨w1.heap.size, 0, none⟩ (.int .i64 (sumI xl))) ∧
        StepI w.heap.size w1.heap.size n (.slice A bs.length cap) (pre ++ [(xa, xl, .slice Ax bs.length cx)]) ((W3.drew.setCell ⟨w1.heap.size + 1, 0, none⟩ (.int .i64 xa)).setCell ⟨w1.heap.size, 0, none⟩ (.int .i64 (sumI xl))) ∧
        Below w.heap.size w ((W3.drew.setCell ⟨w1.heap.size + 1, 0, none⟩ (.int .i64 xa)).setCell ⟨w1.heap.size, 0, none⟩ (.int .i64 (sumI xl))) := by
      have hwl := HII.out.l.lt
      have htl : tells (pre ++ [(xa, xl, .slice Ax bs.length cx)]) = tells pre ++ [(xa, xl)] := by simp [tells]
      have hx3 := HII.out.x.grow HG.out
      have hr3 := HII.out.r.grow HG.out
      have hl3 := HII.out.l.grow HG.out
      have ha3 := HII.out.a.grow HG.out
      refine ⟨((keepsO_of_below HG.out).trans (KeepsOthers.drew _)).trans ((KeepsOthers.setCell _ _ _).trans (KeepsOthers.setCell _ _ _)), ?_, ⟨?_, ?_, ?_, ?_⟩, ?_⟩
      · exact ((KeepR.of_below ((HG.out.drew).mono (by omega))).trans (KeepR.set _ (p := ⟨w1.heap.size + 1, 0, none⟩) (.inr (by simp)) _)).trans (KeepR.set _ (p := ⟨w1.heap.size, 0, none⟩) (.inr (by simp)) _)
      · exact (hx3.drew.far (p := ⟨w1.heap.size + 1, 0, none⟩) (by simp; omega) _).far (p := ⟨w1.heap.size, 0, none⟩) (by simp; omega) _
      · exact (hr3.drew.far (p := ⟨w1.heap.size + 1, 0, none⟩) (by simp; omega) _).far (p := ⟨w1.heap.size, 0, none⟩) (by simp; omega) _
      · rw [htl, lastOf_snoc]
        exact (hl3.drew.far (p := ⟨w1.heap.size + 1, 0, none⟩) (by simp) _).set_ 0 (.int .i64 (sumI xl))
      · rw [htl, atOf_snoc]
        exact (ha3.drew.set_ 0 (.int .i64 xa)).far (p := ⟨w1.heap.size, 0, none⟩) (by simp) _
      · exact (((HBB.out.trans (HG.out.mono HBB.out.size)).drew).setCell (p := ⟨w1.heap.size + 1, 0, none⟩) (by simp; omega) _).setCell (p := ⟨w1.heap.size, 0, none⟩) (by simp; omega) _
    have HEND := Lib.hid hend
    clear hend
    gi_wp2
    rw [← hW3]
    clear hW3
    by_cases hlv0 : 0 ≤ lv
    · have hge : decide (0 ≤ lv) = true := by simpa using hlv0
      have hgt : decide (lv < sumI xl) = false := by simp; omega
      gi_region_with_o (gi_at_call 102; refine (CallsIn.inRound l (callsIn_wide.2 (HTOT.out _ (Below.refl _ _).drew))).mono ?_; rintro e w' ⟨rfl, rfl⟩)
      all_goals gi_wp2
      all_goals refine (CallsIn.inRound l (callsIn_wide.2 (HTOT.out _ (Below.refl _ _).drew))).mono ?_
      all_goals rintro e w' ⟨rfl, rfl⟩
      all_goals gi_wp2
      all_goals exact HEND.out
    · have hge : decide (0 ≤ lv) = false := by simpa using hlv0
      gi_region_with_o (fail)
      all_goals gi_wp2
      all_goals refine (CallsIn.inRound l (callsIn_wide.2 (HTOT.out _ (Below.refl _ _).drew))).mono ?_
      all_goals rintro e w' ⟨rfl, rfl⟩
      all_goals gi_wp2
      all_goals exact HEND.out
  case done =>
    rintro D ys W hD hys ⟨hI, hB⟩ hK
    rw [zip_all HI.out] at hys
    have p0 : W.cell? ⟨w1.heap.size, 0, none⟩ = some (.int .i64 (lastOf (tells ys))) := hI.l.cell 0
    have p1 : W.cell? ⟨w.heap.size + 1, 0, none⟩ = some (.bool false) := hI.r.cell 0
    have p2 := hI.r.frozen 0
    have hend := zip_end HI.out HWF.out
    rw [← hys] at hend
    have hok := (free_to HI.out HWF.out bs.length (Nat.le_refl _)).1
    have htot : ∀ V, Below W.heap.size W V → Calls Try.prog 102 #[.slice AP (payTo n bs bs.length).length capP] V fun e w' => e = .returned (.int .i64 (sumI (payTo n bs bs.length))) ∧ V = w' := fun V hV => lawTotal_any (payTo n bs bs.length) _ Rp _ ((HP.out.grow hB).grow hV) (fun x hx => by have := pay_bd HI.out HWF.out hok x hx; omega) (by have := pay_len hok; omega)
    have HTOT := Lib.hid htot
    have HK := Lib.hid hK
    have HBB := Lib.hid hB
    have HII := Lib.hid hI
    have hmx : Try.prog.follows .mixedOrders = true := by kernel_rfl
    have hfn : Fence.wide.fn 102 := trivial
    clear hI hB hK hys hok htot
    have hdd := ((KeepsOthers.setCell W ⟨w.heap.size + 1, 0, none⟩ (.bool true)).trans (KeepsOthers.drew _)).same D _ HK.out rfl
    have hc5 := cell_kept (((HII.out.r.set_ 0 (.bool true)).drew).cell 0) (grownBy_putObj' _ D (.deferred none)) (fun r e => by cases e; exact ⟨_, hdd, rfl⟩)
    have hfin : Ending.returned (.bool true) = .returned (.bool true) ∧ Below w.heap.size w (((W.setCell ⟨w.heap.size + 1, 0, none⟩ (.bool true)).drew).putObj D (.deferred none)) :=
      ⟨rfl, (HBB.out.setCell (p := ⟨w.heap.size + 1, 0, none⟩) (by simp) _).drew.trans (belowK_b (w := w) (Nat.le_refl _) _ D _ _ (by omega) hdd rfl rfl)⟩
    have HDD := Lib.hid hdd
    have HLT := Lib.hid HII.out.l.lt
    have HC5 := Lib.hid hc5
    have HFIN := Lib.hid hfin
    clear hdd hc5 hfin
    have HSUM := Lib.hid hend
    rcases hend with ⟨hnil, hz⟩ | ⟨hne, hl, hz⟩
    · have hlv : lastOf (tells ys) = -1 := by rw [hnil]; rfl
      rw [hlv] at p0
      have heq0 : (sumI (payTo n bs bs.length) == 0) = true := by rw [hz]; rfl
      clear hlv hnil hz
      go_wp2_with fail
      refine wp_region_F (Below W.heap.size W) [13] (by kernel_rfl) ((Below.refl _ _).drew) (fun hS => ?_)
      refine wpAnyF_take (i := 0) (oi := { dst := some 50, op := Go.Op.load 2 (Go.Operand.tmp 6), type := 2, pos := "outright.go:76", after := #[], guard := none }) (v := ?_) rfl (by kernel_rfl) (by kernel_rfl) (by kernel_rfl) (by kernel_rfl) (fun _ _ _ h => h) (Or.inl ⟨by rfl, ?_⟩) hS ?_
      rotate_left
      · intro w' hSw; have q1 := (hSw.cell (p := ⟨w1.heap.size, 0, none⟩) HLT.out).trans p0; go_simp; try with_reducible rfl
      try simp only [Act.put, List.setIfInBounds_toArray, List.set_cons_zero, List.set_cons_succ]
      refine wpAnyF_take (i := 1) (oi := { dst := some 51, op := Go.Op.binOp Go.BinOp.lss 2 (Go.Operand.tmp 50) (Go.Operand.const (Go.Value.int Go.IntKind.i64 0)) 2, type := 4, pos := "outright.go:76", after := #[{ on := 0, ground := Go.Ground.data }], guard := none }) (v := ?_) rfl (by kernel_rfl) (by kernel_rfl) (by kernel_rfl) (by kernel_rfl) (fun _ _ _ h => h) (Or.inl ⟨by rfl, ?_⟩) hS ?_
      rotate_left
      · intro w' hSw; have q1 := (hSw.cell (p := ⟨w1.heap.size, 0, none⟩) HLT.out).trans p0; go_simp; try with_reducible rfl
      try simp only [Act.put, List.setIfInBounds_toArray, List.set_cons_zero, List.set_cons_succ]
      refine wpAnyF_take (i := 2) (oi := { dst := some 52, op := Go.Op.move (Go.Operand.tmp 51), type := 4, pos := "outright.go:76", after := #[{ on := 1, ground := Go.Ground.data }], guard := none }) (v := ?_) rfl (by kernel_rfl) (by kernel_rfl) (by kernel_rfl) (by kernel_rfl) (fun _ _ _ h => h) (Or.inl ⟨by rfl, ?_⟩) hS ?_
      rotate_left
      · intro w' hSw; have q1 := (hSw.cell (p := ⟨w1.heap.size, 0, none⟩) HLT.out).trans p0; go_simp; try with_reducible rfl
      try simp only [Act.put, List.setIfInBounds_toArray, List.set_cons_zero, List.set_cons_succ]
      refine wpAnyF_take (i := 3) (oi := { dst := some 53, op := Go.Op.move (Go.Operand.tmp 1), type := 34, pos := "outright.go:76", after := #[{ on := 2, ground := Go.Ground.guard }], guard := some (2, true) }) (v := ?_) rfl (by kernel_rfl) (by kernel_rfl) (by kernel_rfl) (by kernel_rfl) (fun _ _ _ h => h) (Or.inl ⟨by rfl, ?_⟩) hS ?_
      rotate_left
      · intro w' hSw; have q1 := (hSw.cell (p := ⟨w1.heap.size, 0, none⟩) HLT.out).trans p0; go_simp; try with_reducible rfl
      try simp only [Act.put, List.setIfInBounds_toArray, List.set_cons_zero, List.set_cons_succ]
      refine wpAnyF_ready (rs := [4]) (by kernel_rfl) (by simp) ?_
      refine AllReadyF.cons (o := { dst := some 54, op := Go.Op.call { callee := Go.Callee.value (Go.Operand.func 102), args := #[Go.Operand.tmp 53], argTypes := #[34] }, type := 2, pos := "outright.go:76", after := #[{ on := 3, ground := Go.Ground.data }, { on := 2, ground := Go.Ground.chain }, { on := 2, ground := Go.Ground.guard }], guard := some (2, true) }) rfl (by rfl) (fun K hK => ?_) ?_
      · go_simp
        refine (HTOT.out _ hS).mono ?_
        rintro e w' ⟨rfl, rfl⟩
        refine hK.out _ _ ?_ (fun hS => ?_)
        · exact hS
        clear hK K
        try simp only [Act.put, List.setIfInBounds_toArray, List.set_cons_zero, List.set_cons_succ]
        refine wpAnyF_take (i := 5) (oi := { dst := some 55, op := Go.Op.binOp Go.BinOp.eql 2 (Go.Operand.tmp 54) (Go.Operand.const (Go.Value.int Go.IntKind.i64 0)) 2, type := 4, pos := "outright.go:76", after := #[{ on := 4, ground := Go.Ground.data }, { on := 2, ground := Go.Ground.guard }], guard := some (2, true) }) (v := ?_) rfl (by kernel_rfl) (by kernel_rfl) (by kernel_rfl) (by kernel_rfl) (fun _ _ _ h => h) (Or.inl ⟨by rfl, ?_⟩) hS ?_
        rotate_left
        · intro w' hSw; have q1 := (hSw.cell (p := ⟨w1.heap.size, 0, none⟩) HLT.out).trans p0; go_simp; try with_reducible rfl
        try simp only [Act.put, List.setIfInBounds_toArray, List.set_cons_zero, List.set_cons_succ]
        refine wpAnyF_take (i := 6) (oi := { dst := some 56, op := Go.Op.pick (Go.Operand.tmp 52) (Go.Operand.tmp 55) (Go.Operand.const (Go.Value.bool false)), type := 4, pos := "outright.go:76", after := #[{ on := 2, ground := Go.Ground.data }, { on := 5, ground := Go.Ground.data }], guard := none }) (v := ?_) rfl (by kernel_rfl) (by kernel_rfl) (by kernel_rfl) (by kernel_rfl) (fun _ _ _ h => h) (Or.inl ⟨by rfl, ?_⟩) hS ?_
        rotate_left
        · intro w' hSw; have q1 := (hSw.cell (p := ⟨w1.heap.size, 0, none⟩) HLT.out).trans p0; go_simp; try with_reducible rfl
        try simp only [Act.put, List.setIfInBounds_toArray, List.set_cons_zero, List.set_cons_succ]
        refine wpAnyF_take (i := 7) (oi := { dst := some 57, op := Go.Op.move (Go.Operand.tmp 56), type := 4, pos := "outright.go:76", after := #[{ on := 6, ground := Go.Ground.data }, { on := 4, ground := Go.Ground.chain }], guard := none }) (v := ?_) rfl (by kernel_rfl) (by kernel_rfl) (by kernel_rfl) (by kernel_rfl) (fun _ _ _ h => h) (Or.inl ⟨by rfl, ?_⟩) hS ?_
        rotate_left
        · intro w' hSw; have q1 := (hSw.cell (p := ⟨w1.heap.size, 0, none⟩) HLT.out).trans p0; go_simp; try with_reducible rfl
        try simp only [Act.put, List.setIfInBounds_toArray, List.set_cons_zero, List.set_cons_succ]
        refine wpAnyF_take (i := 8) (oi := { dst := some 58, op := Go.Op.load 2 (Go.Operand.tmp 6), type := 2, pos := "outright.go:76", after := #[{ on := 7, ground := Go.Ground.guard }], guard := some (7, false) }) (v := undef) rfl (by kernel_rfl) (by kernel_rfl) (by kernel_rfl) (by kernel_rfl) (fun _ _ _ h => h) (Or.inr ⟨by rfl, rfl⟩) hS ?_
        try simp only [Act.put, List.setIfInBounds_toArray, List.set_cons_zero, List.set_cons_succ]
        refine wpAnyF_take (i := 9) (oi := { dst := some 59, op := Go.Op.move (Go.Operand.tmp 1), type := 34, pos := "outright.go:76", after := #[{ on := 7, ground := Go.Ground.guard }], guard := some (7, false) }) (v := undef) rfl (by kernel_rfl) (by kernel_rfl) (by kernel_rfl) (by kernel_rfl) (fun _ _ _ h => h) (Or.inr ⟨by rfl, rfl⟩) hS ?_
        try simp only [Act.put, List.setIfInBounds_toArray, List.set_cons_zero, List.set_cons_succ]
        refine wpAnyF_take (i := 10) (oi := { dst := some 60, op := Go.Op.call { callee := Go.Callee.value (Go.Operand.func 102), args := #[Go.Operand.tmp 59], argTypes := #[34] }, type := 2, pos := "outright.go:76", after := #[{ on := 9, ground := Go.Ground.data }, { on := 7, ground := Go.Ground.chain }, { on := 7, ground := Go.Ground.guard }], guard := some (7, false) }) (v := undef) rfl (by kernel_rfl) (by kernel_rfl) (by kernel_rfl) (by kernel_rfl) (fun _ _ _ h => h) (Or.inr ⟨by rfl, rfl⟩) hS ?_
        try simp only [Act.put, List.setIfInBounds_toArray, List.set_cons_zero, List.set_cons_succ]
        refine wpAnyF_take (i := 11) (oi := { dst := some 61, op := Go.Op.binOp Go.BinOp.eql 2 (Go.Operand.tmp 58) (Go.Operand.tmp 60) 2, type := 4, pos := "outright.go:76", after := #[{ on := 8, ground := Go.Ground.data }, { on := 10, ground := Go.Ground.data }, { on := 7, ground := Go.Ground.guard }], guard := some (7, false) }) (v := undef) rfl (by kernel_rfl) (by kernel_rfl) (by kernel_rfl) (by kernel_rfl) (fun _ _ _ h => h) (Or.inr ⟨by rfl, rfl⟩) hS ?_
        try simp only [Act.put, List.setIfInBounds_toArray, List.set_cons_zero, List.set_cons_succ]
        refine wpAnyF_take (i := 12) (oi := { dst := some 62, op := Go.Op.pick (Go.Operand.tmp 57) (Go.Operand.const (Go.Value.bool true)) (Go.Operand.tmp 61), type := 4, pos := "outright.go:76", after := #[{ on := 7, ground := Go.Ground.data }, { on := 11, ground := Go.Ground.data }], guard := none }) (v := ?_) rfl (by kernel_rfl) (by kernel_rfl) (by kernel_rfl) (by kernel_rfl) (fun _ _ _ h => h) (Or.inl ⟨by rfl, ?_⟩) hS ?_
        rotate_left
        · intro w' hSw; have q1 := (hSw.cell (p := ⟨w1.heap.size, 0, none⟩) HLT.out).trans p0; go_simp; try with_reducible rfl
        try simp only [Act.put, List.setIfInBounds_toArray, List.set_cons_zero, List.set_cons_succ]
        refine wpAnyF_ready (rs := [13]) (by kernel_rfl) (by simp) ?_
        refine AllReadyF.fin (o := { dst := none, op := Go.Op.store 4 (Go.Operand.tmp 4) (Go.Operand.tmp 62), type := 0, pos := "outright.go:76", after := #[{ on := 12, ground := Go.Ground.data }, { on := 10, ground := Go.Ground.chain }, { on := 0, ground := Go.Ground.phase }, { on := 1, ground := Go.Ground.phase }, { on := 2, ground := Go.Ground.phase }, { on := 3, ground := Go.Ground.phase }, { on := 4, ground := Go.Ground.phase }, { on := 5, ground := Go.Ground.phase }, { on := 6, ground := Go.Ground.phase }, { on := 7, ground := Go.Ground.phase }, { on := 8, ground := Go.Ground.phase }, { on := 9, ground := Go.Ground.phase }, { on := 10, ground := Go.Ground.phase }, { on := 11, ground := Go.Ground.phase }, { on := 12, ground := Go.Ground.phase }], guard := none }) rfl (by rfl) (fun K hK => ?_) ?_
        · have r1 : W.drew.cell? ⟨w.heap.size + 1, 0, none⟩ = some (.bool false) := p1
          have r2 : W.drew.frozen? ⟨w.heap.size + 1, 0, none⟩ = false := p2
          go_simp
          refine hK.out _ _ ?_
          clear hK K
          try simp only [Act.put, List.setIfInBounds_toArray, List.set_cons_zero, List.set_cons_succ]
          refine wpAnyF_done (by kernel_rfl) ?_ _
          go_wp2_with fail
          refine ⟨by simp, .inl ⟨_, _, rfl, run_takeDeferred HDD.out, ?_⟩⟩
          exact ⟨.bool true, by simp [results, Try.results49, go_sem, HC5.out], rfl, HFIN.out.2⟩
        exact AllReadyF.nil
      exact AllReadyF.nil
    · rw [hl] at p0
      have hlt : decide (sumI (payTo n bs bs.length) < 0) = false := by simp; omega
      clear hne hl hz
      go_wp2_with fail
      refine wp_region_F (Below W.heap.size W) [13] (by kernel_rfl) ((Below.refl _ _).drew) (fun hS => ?_)
      refine wpAnyF_take (i := 0) (oi := { dst := some 50, op := Go.Op.load 2 (Go.Operand.tmp 6), type := 2, pos := "outright.go:76", after := #[], guard := none }) (v := ?_) rfl (by kernel_rfl) (by kernel_rfl) (by kernel_rfl) (by kernel_rfl) (fun _ _ _ h => h) (Or.inl ⟨by rfl, ?_⟩) hS ?_
      rotate_left
      · intro w' hSw; have q1 := (hSw.cell (p := ⟨w1.heap.size, 0, none⟩) HLT.out).trans p0; go_simp; try with_reducible rfl
      try simp only [Act.put, List.setIfInBounds_toArray, List.set_cons_zero, List.set_cons_succ]
      refine wpAnyF_take (i := 1) (oi := { dst := some 51, op := Go.Op.binOp Go.BinOp.lss 2 (Go.Operand.tmp 50) (Go.Operand.const (Go.Value.int Go.IntKind.i64 0)) 2, type := 4, pos := "outright.go:76", after := #[{ on := 0, ground := Go.Ground.data }], guard := none }) (v := ?_) rfl (by kernel_rfl) (by kernel_rfl) (by kernel_rfl) (by kernel_rfl) (fun _ _ _ h => h) (Or.inl ⟨by rfl, ?_⟩) hS ?_
      rotate_left
      · intro w' hSw; have q1 := (hSw.cell (p := ⟨w1.heap.size, 0, none⟩) HLT.out).trans p0; go_simp; try with_reducible rfl
      try simp only [Act.put, List.setIfInBounds_toArray, List.set_cons_zero, List.set_cons_succ]
      refine wpAnyF_take (i := 2) (oi := { dst := some 52, op := Go.Op.move (Go.Operand.tmp 51), type := 4, pos := "outright.go:76", after := #[{ on := 1, ground := Go.Ground.data }], guard := none }) (v := ?_) rfl (by kernel_rfl) (by kernel_rfl) (by kernel_rfl) (by kernel_rfl) (fun _ _ _ h => h) (Or.inl ⟨by rfl, ?_⟩) hS ?_
      rotate_left
      · intro w' hSw; have q1 := (hSw.cell (p := ⟨w1.heap.size, 0, none⟩) HLT.out).trans p0; go_simp; try with_reducible rfl
      try simp only [Act.put, List.setIfInBounds_toArray, List.set_cons_zero, List.set_cons_succ]
      refine wpAnyF_take (i := 3) (oi := { dst := some 53, op := Go.Op.move (Go.Operand.tmp 1), type := 34, pos := "outright.go:76", after := #[{ on := 2, ground := Go.Ground.guard }], guard := some (2, true) }) (v := undef) rfl (by kernel_rfl) (by kernel_rfl) (by kernel_rfl) (by kernel_rfl) (fun _ _ _ h => h) (Or.inr ⟨by rfl, rfl⟩) hS ?_
      try simp only [Act.put, List.setIfInBounds_toArray, List.set_cons_zero, List.set_cons_succ]
      refine wpAnyF_take (i := 4) (oi := { dst := some 54, op := Go.Op.call { callee := Go.Callee.value (Go.Operand.func 102), args := #[Go.Operand.tmp 53], argTypes := #[34] }, type := 2, pos := "outright.go:76", after := #[{ on := 3, ground := Go.Ground.data }, { on := 2, ground := Go.Ground.chain }, { on := 2, ground := Go.Ground.guard }], guard := some (2, true) }) (v := undef) rfl (by kernel_rfl) (by kernel_rfl) (by kernel_rfl) (by kernel_rfl) (fun _ _ _ h => h) (Or.inr ⟨by rfl, rfl⟩) hS ?_
      try simp only [Act.put, List.setIfInBounds_toArray, List.set_cons_zero, List.set_cons_succ]
      refine wpAnyF_take (i := 5) (oi := { dst := some 55, op := Go.Op.binOp Go.BinOp.eql 2 (Go.Operand.tmp 54) (Go.Operand.const (Go.Value.int Go.IntKind.i64 0)) 2, type := 4, pos := "outright.go:76", after := #[{ on := 4, ground := Go.Ground.data }, { on := 2, ground := Go.Ground.guard }], guard := some (2, true) }) (v := undef) rfl (by kernel_rfl) (by kernel_rfl) (by kernel_rfl) (by kernel_rfl) (fun _ _ _ h => h) (Or.inr ⟨by rfl, rfl⟩) hS ?_
      try simp only [Act.put, List.setIfInBounds_toArray, List.set_cons_zero, List.set_cons_succ]
      refine wpAnyF_take (i := 6) (oi := { dst := some 56, op := Go.Op.pick (Go.Operand.tmp 52) (Go.Operand.tmp 55) (Go.Operand.const (Go.Value.bool false)), type := 4, pos := "outright.go:76", after := #[{ on := 2, ground := Go.Ground.data }, { on := 5, ground := Go.Ground.data }], guard := none }) (v := ?_) rfl (by kernel_rfl) (by kernel_rfl) (by kernel_rfl) (by kernel_rfl) (fun _ _ _ h => h) (Or.inl ⟨by rfl, ?_⟩) hS ?_
      rotate_left
      · intro w' hSw; have q1 := (hSw.cell (p := ⟨w1.heap.size, 0, none⟩) HLT.out).trans p0; go_simp; try with_reducible rfl
      try simp only [Act.put, List.setIfInBounds_toArray, List.set_cons_zero, List.set_cons_succ]
      refine wpAnyF_take (i := 7) (oi := { dst := some 57, op := Go.Op.move (Go.Operand.tmp 56), type := 4, pos := "outright.go:76", after := #[{ on := 6, ground := Go.Ground.data }, { on := 4, ground := Go.Ground.chain }], guard := none }) (v := ?_) rfl (by kernel_rfl) (by kernel_rfl) (by kernel_rfl) (by kernel_rfl) (fun _ _ _ h => h) (Or.inl ⟨by rfl, ?_⟩) hS ?_
      rotate_left
      · intro w' hSw; have q1 := (hSw.cell (p := ⟨w1.heap.size, 0, none⟩) HLT.out).trans p0; go_simp; try with_reducible rfl
      try simp only [Act.put, List.setIfInBounds_toArray, List.set_cons_zero, List.set_cons_succ]
      refine wpAnyF_take (i := 8) (oi := { dst := some 58, op := Go.Op.load 2 (Go.Operand.tmp 6), type := 2, pos := "outright.go:76", after := #[{ on := 7, ground := Go.Ground.guard }], guard := some (7, false) }) (v := ?_) rfl (by kernel_rfl) (by kernel_rfl) (by kernel_rfl) (by kernel_rfl) (fun _ _ _ h => h) (Or.inl ⟨by rfl, ?_⟩) hS ?_
      rotate_left
      · intro w' hSw; have q1 := (hSw.cell (p := ⟨w1.heap.size, 0, none⟩) HLT.out).trans p0; go_simp; try with_reducible rfl
      try simp only [Act.put, List.setIfInBounds_toArray, List.set_cons_zero, List.set_cons_succ]
      refine wpAnyF_take (i := 9) (oi := { dst := some 59, op := Go.Op.move (Go.Operand.tmp 1), type := 34, pos := "outright.go:76", after := #[{ on := 7, ground := Go.Ground.guard }], guard := some (7, false) }) (v := ?_) rfl (by kernel_rfl) (by kernel_rfl) (by kernel_rfl) (by kernel_rfl) (fun _ _ _ h => h) (Or.inl ⟨by rfl, ?_⟩) hS ?_
      rotate_left
      · intro w' hSw; have q1 := (hSw.cell (p := ⟨w1.heap.size, 0, none⟩) HLT.out).trans p0; go_simp; try with_reducible rfl
      try simp only [Act.put, List.setIfInBounds_toArray, List.set_cons_zero, List.set_cons_succ]
      refine wpAnyF_ready (rs := [10]) (by kernel_rfl) (by simp) ?_
      refine AllReadyF.cons (o := { dst := some 60, op := Go.Op.call { callee := Go.Callee.value (Go.Operand.func 102), args := #[Go.Operand.tmp 59], argTypes := #[34] }, type := 2, pos := "outright.go:76", after := #[{ on := 9, ground := Go.Ground.data }, { on := 7, ground := Go.Ground.chain }, { on := 7, ground := Go.Ground.guard }], guard := some (7, false) }) rfl (by rfl) (fun K hK => ?_) ?_
      · go_simp
        refine (HTOT.out _ hS).mono ?_
        rintro e w' ⟨rfl, rfl⟩
        refine hK.out _ _ ?_ (fun hS => ?_)
        · exact hS
        clear hK K
        try simp only [Act.put, List.setIfInBounds_toArray, List.set_cons_zero, List.set_cons_succ]
        refine wpAnyF_take (i := 11) (oi := { dst := some 61, op := Go.Op.binOp Go.BinOp.eql 2 (Go.Operand.tmp 58) (Go.Operand.tmp 60) 2, type := 4, pos := "outright.go:76", after := #[{ on := 8, ground := Go.Ground.data }, { on := 10, ground := Go.Ground.data }, { on := 7, ground := Go.Ground.guard }], guard := some (7, false) }) (v := ?_) rfl (by kernel_rfl) (by kernel_rfl) (by kernel_rfl) (by kernel_rfl) (fun _ _ _ h => h) (Or.inl ⟨by rfl, ?_⟩) hS ?_
        rotate_left
        · intro w' hSw; have q1 := (hSw.cell (p := ⟨w1.heap.size, 0, none⟩) HLT.out).trans p0; go_simp; try with_reducible rfl
        try simp only [Act.put, List.setIfInBounds_toArray, List.set_cons_zero, List.set_cons_succ]
        refine wpAnyF_take (i := 12) (oi := { dst := some 62, op := Go.Op.pick (Go.Operand.tmp 57) (Go.Operand.const (Go.Value.bool true)) (Go.Operand.tmp 61), type := 4, pos := "outright.go:76", after := #[{ on := 7, ground := Go.Ground.data }, { on := 11, ground := Go.Ground.data }], guard := none }) (v := ?_) rfl (by kernel_rfl) (by kernel_rfl) (by kernel_rfl) (by kernel_rfl) (fun _ _ _ h => h) (Or.inl ⟨by rfl, ?_⟩) hS ?_
        rotate_left
        · intro w' hSw; have q1 := (hSw.cell (p := ⟨w1.heap.size, 0, none⟩) HLT.out).trans p0; go_simp; try with_reducible rfl
        try simp only [Act.put, List.setIfInBounds_toArray, List.set_cons_zero, List.set_cons_succ]
        refine wpAnyF_ready (rs := [13]) (by kernel_rfl) (by simp) ?_
        refine AllReadyF.fin (o := { dst := none, op := Go.Op.store 4 (Go.Operand.tmp 4) (Go.Operand.tmp 62), type := 0, pos := "outright.go:76", after := #[{ on := 12, ground := Go.Ground.data }, { on := 10, ground := Go.Ground.chain }, { on := 0, ground := Go.Ground.phase }, { on := 1, ground := Go.Ground.phase }, { on := 2, ground := Go.Ground.phase }, { on := 3, ground := Go.Ground.phase }, { on := 4, ground := Go.Ground.phase }, { on := 5, ground := Go.Ground.phase }, { on := 6, ground := Go.Ground.phase }, { on := 7, ground := Go.Ground.phase }, { on := 8, ground := Go.Ground.phase }, { on := 9, ground := Go.Ground.phase }, { on := 10, ground := Go.Ground.phase }, { on := 11, ground := Go.Ground.phase }, { on := 12, ground := Go.Ground.phase }], guard := none }) rfl (by rfl) (fun K hK => ?_) ?_
        · have r1 : W.drew.cell? ⟨w.heap.size + 1, 0, none⟩ = some (.bool false) := p1
          have r2 : W.drew.frozen? ⟨w.heap.size + 1, 0, none⟩ = false := p2
          go_simp
          refine hK.out _ _ ?_
          clear hK K
          try simp only [Act.put, List.setIfInBounds_toArray, List.set_cons_zero, List.set_cons_succ]
          refine wpAnyF_done (by kernel_rfl) ?_ _
          go_wp2_with fail
          refine ⟨by simp, .inl ⟨_, _, rfl, run_takeDeferred HDD.out, ?_⟩⟩
          exact ⟨.bool true, by simp [results, Try.results49, go_sem, HC5.out], rfl, HFIN.out.2⟩
        exact AllReadyF.nil
      exact AllReadyF.nil
  case stop =>
    rintro D c pre W hD hpre2 hf hK
    exact hf.elim
end Go.Proofs.Ytcigobiolbojhaa.Vb

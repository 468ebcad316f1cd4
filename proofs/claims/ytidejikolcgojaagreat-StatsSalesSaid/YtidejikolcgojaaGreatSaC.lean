/- Stats: Of. -/
import Derived.Test.YtidejikolcgojaaGreatSaB
namespace Go.Proofs.YtidejikolcgojaaGreat.St
open Go.RowKit Go.Shelf Go.Maps
open Go.Proofs.YtidejikolcgojaaGreat.Vb Go.Proofs.YtidejikolcgojaaGreat.Ac
attribute [local go_sem] Oper.semAt_some

/-- coins, first and last tick behind one more sale -/
def ofS (k : Nat) (p : Int × Int × Int) (s : Sale) : Int × Int × Int :=
  (IntKind.i64.wrap (p.1 + s.coins), if k = 0 ∨ s.tick < p.2.1 then s.tick else p.2.1, if k = 0 ∨ p.2.2 < s.tick then s.tick else p.2.2)
def ofK (l : List Sale) : Nat → Int × Int × Int
  | 0 => (0, 0, 0)
  | k + 1 => match l[k]? with | some s => ofS k (ofK l k) s | none => ofK l k
theorem ofK_step {l : List Sale} {k : Nat} {s : Sale} (h : l[k]? = some s) : ofK l (k + 1) = ofS k (ofK l k) s := by
  show (match l[k]? with | some s => ofS k (ofK l k) s | none => ofK l k) = _
  rw [h]
/-- what takings lie as -/
abbrev tak (n lots bid : Int) (p : Int × Int × Int) : Array Value := #[.int .i64 n, .int .i64 lots, .int .i64 bid, .int .i64 p.1, .int .i64 p.2.1, .int .i64 p.2.2]
/-- what sales come to -/
def ofV (l : List Sale) : Array Value := tak l.length (sumsM Sale.lot l).length (sumsM Sale.bidder l).length (ofK l l.length)
set_option maxRecDepth 100000 in
set_option maxHeartbeats 8000000 in
theorem Of_any {l : List Sale} {v : Value} {R : Nat → Prop} {w : World} (h : Sals w R v l) (hle : l.length ≤ 1000) :
    Calls Tryz.prog 34 #[v] w fun e w' => e = .returned (.agg (ofV l)) ∧ Below w.heap.size w w' := by
  obtain ⟨A, cap, rfl, hnc, hcap⟩ := h.form
  have HL := Lib.hid h
  obtain ⟨U, hU⟩ : ∃ U, U = (w.alloc (.cells #[.int .i64 0, .int .i64 0, .int .i64 0, .int .i64 0, .int .i64 0, .int .i64 0] 56)).alloc (.cells #[.int .i64 (l.length : Int), .int .i64 0, .int .i64 0, .int .i64 0, .int .i64 0, .int .i64 0] 56) := ⟨_, rfl⟩
  have HB := Lib.hid (show Below w.heap.size w U by rw [hU]; exact ((Below.refl _ _).alloc (Nat.le_refl _) _).alloc (by simp) _)
  have HR := Lib.hid (show Blk U w.heap.size 56 (tak 0 0 0 (0, 0, 0)) by rw [hU]; exact (Blk.new w _ _).alloc _)
  have HT := Lib.hid (show Blk U (w.heap.size + 1) 56 (tak l.length 0 0 (ofK l 0)) by rw [hU]; exact Blk.new' _ _ (by simp))
  clear h
  refine (callsIn_wide (n := 3)).1 (callsIn_of_wp_marks Tryz.func34 rfl trivial ((wpIn_wide (n := 3)).2 ?_))
  simp only [Tryz.ntmps34, List.size_toArray, List.length_cons, List.length_nil, Nat.reduceAdd, Nat.reduceSub, Array.replicate_succ, Array.replicate_zero, List.push_toArray, List.append_toArray, List.nil_append, List.cons_append]
  go_wp2_with fail
  rw [← hU]
  clear hU
  have e4 : (0 : Int) ≤ (l.length : Int) := by omega
  go_loopw [11] (fun i wr => ∃ k : Nat, k ≤ l.length ∧ i = .int .i64 k ∧ Blk wr (w.heap.size + 1) 56 (tak l.length 0 0 (ofK l k)) ∧ Blk wr w.heap.size 56 (tak 0 0 0 (0, 0, 0)) ∧ Below w.heap.size w wr) (fun i _ => l.length - (intOf i).toNat)
  case atStart => exact ⟨0, Nat.zero_le _, rfl, HT.out, HR.out, HB.out⟩
  case round =>
    obtain ⟨k, hk, rfl, ht, hr, hb⟩ := hrel
    have HT := Lib.hid ht
    have HR := Lib.hid hr
    have HB := Lib.hid hb
    by_cases hlt : k < l.length
    · obtain ⟨s, hs⟩ : ∃ s, l[k]? = some s := ⟨_, List.getElem?_eq_getElem hlt⟩
      have hst := ofK_step hs
      obtain ⟨p, hp⟩ : ∃ p, p = ofK l k := ⟨_, rfl⟩
      rw [← hp] at hst ht
      obtain ⟨bq, off, rfl, _, hbq, hc⟩ := (HL.out.grow hb).at_ hs
      have c0 : wr.cell? ⟨bq, off + k * 7, none⟩ = some (.int .i64 s.number) := hc 0 _ rfl
      have c1 : wr.cell? ⟨bq, off + k * 7 + 1, none⟩ = some (.int .i64 s.lot) := hc 1 _ rfl
      have c2 : wr.cell? ⟨bq, off + k * 7 + 2, none⟩ = some (.int .i64 s.bidder) := hc 2 _ rfl
      have c3 : wr.cell? ⟨bq, off + k * 7 + 3, none⟩ = some (.int .i64 s.coins) := hc 3 _ rfl
      have c4 : wr.cell? ⟨bq, off + k * 7 + 4, none⟩ = some (.int .u32 s.goods) := hc 4 _ rfl
      have c5 : wr.cell? ⟨bq, off + k * 7 + 5, none⟩ = some (.int .i64 s.count) := hc 5 _ rfl
      have c6 : wr.cell? ⟨bq, off + k * 7 + 6, none⟩ = some (.int .i64 s.tick) := hc 6 _ rfl
      have e1 : (0 : Int) ≤ (k : Int) := by omega
      have e2 : (k : Int) < (l.length : Int) := by omega
      obtain ⟨pc, pf, pl⟩ := p
      obtain ⟨sn, sl, sb, sc, sg, sct, st⟩ := s
      dsimp only [ofS] at c0 c1 c2 c3 c4 c5 c6 hst ht
      obtain ⟨cw, hcw⟩ : ∃ c, IntKind.i64.wrap (pc + sc) = c := ⟨_, rfl⟩
      rw [hcw] at hst
      have HST := Lib.hid hst
      have ltT : w.heap.size + 1 < wr.heap.size := ht.lt
      have x3 : wr.cell? ⟨w.heap.size + 1, 3, none⟩ = some (.int .i64 pc) := ht.cell 3
      have x4 : wr.cell? ⟨w.heap.size + 1, 4, none⟩ = some (.int .i64 pf) := ht.cell 4
      have x5 : wr.cell? ⟨w.heap.size + 1, 5, none⟩ = some (.int .i64 pl) := ht.cell 5
      have z3 : wr.frozen? ⟨w.heap.size + 1, 3, none⟩ = false := ht.frozen 3
      have z4 : wr.frozen? ⟨w.heap.size + 1, 4, none⟩ = false := ht.frozen 4
      have z5 : wr.frozen? ⟨w.heap.size + 1, 5, none⟩ = false := ht.frozen 5
      have HTB := Lib.hid ht
      clear hs hc hp ht hr hb hst
      by_cases hz : k = 0
      · subst hz
        simp only [Nat.zero_mul, Nat.add_zero] at c0 c1 c2 c3 c4 c5 c6
        have HE := Lib.hid (show ofK l (0 + 1) = (cw, st, st) by rw [HST.out, if_pos (.inl rfl), if_pos (.inl rfl)])
        go_wp2_with fail
        go_roundw
        case rel => exact ⟨0 + 1, by omega, by go_num, by rw [HE.out]; exact ((((HTB.out).set_ 3 (.int .i64 (cw))).set_ 4 (.int .i64 st)).set_ 5 (.int .i64 st)).alloc _, ((((HR.out).far (p := ⟨w.heap.size + 1, 3, none⟩) (by show w.heap.size ≠ w.heap.size + 1; omega) _).far (p := ⟨w.heap.size + 1, 4, none⟩) (by show w.heap.size ≠ w.heap.size + 1; omega) _).far (p := ⟨w.heap.size + 1, 5, none⟩) (by show w.heap.size ≠ w.heap.size + 1; omega) _).alloc _, ((((HB.out).setCell (p := ⟨w.heap.size + 1, 3, none⟩) (by show w.heap.size ≤ w.heap.size + 1; omega) _).setCell (p := ⟨w.heap.size + 1, 4, none⟩) (by show w.heap.size ≤ w.heap.size + 1; omega) _).setCell (p := ⟨w.heap.size + 1, 5, none⟩) (by show w.heap.size ≤ w.heap.size + 1; omega) _).alloc (by simp; have := HB.out.size; omega) _⟩
        case measure => simp [intOf]; omega
      · have d1 : ((k : Int) == 0) = false := by simp; omega
        by_cases hf : st < pf
        · have d2 : decide (st < pf) = true := by simpa using hf
          by_cases hl : pl < st
          · have d3 : decide (pl < st) = true := by simpa using hl
            have HE := Lib.hid (show ofK l (k + 1) = (cw, st, st) by rw [HST.out, if_pos (.inr hf), if_pos (.inr hl)])
            clear hz hf hl
            go_wp2_with fail
            go_roundw
            case rel => exact ⟨k + 1, by omega, by go_num, by rw [HE.out]; exact ((((HTB.out).set_ 3 (.int .i64 (cw))).set_ 4 (.int .i64 st)).set_ 5 (.int .i64 st)).alloc _, ((((HR.out).far (p := ⟨w.heap.size + 1, 3, none⟩) (by show w.heap.size ≠ w.heap.size + 1; omega) _).far (p := ⟨w.heap.size + 1, 4, none⟩) (by show w.heap.size ≠ w.heap.size + 1; omega) _).far (p := ⟨w.heap.size + 1, 5, none⟩) (by show w.heap.size ≠ w.heap.size + 1; omega) _).alloc _, ((((HB.out).setCell (p := ⟨w.heap.size + 1, 3, none⟩) (by show w.heap.size ≤ w.heap.size + 1; omega) _).setCell (p := ⟨w.heap.size + 1, 4, none⟩) (by show w.heap.size ≤ w.heap.size + 1; omega) _).setCell (p := ⟨w.heap.size + 1, 5, none⟩) (by show w.heap.size ≤ w.heap.size + 1; omega) _).alloc (by simp; have := HB.out.size; omega) _⟩
            case measure => simp [intOf]; omega
          · have d3 : decide (pl < st) = false := by simpa using hl
            have HE := Lib.hid (show ofK l (k + 1) = (cw, st, pl) by rw [HST.out, if_pos (.inr hf), if_neg (fun h => h.elim hz hl)])
            clear hz hf hl
            go_wp2_with fail
            go_roundw
            case rel => exact ⟨k + 1, by omega, by go_num, by rw [HE.out]; exact (((HTB.out).set_ 3 (.int .i64 (cw))).set_ 4 (.int .i64 st)).alloc _, (((HR.out).far (p := ⟨w.heap.size + 1, 3, none⟩) (by show w.heap.size ≠ w.heap.size + 1; omega) _).far (p := ⟨w.heap.size + 1, 4, none⟩) (by show w.heap.size ≠ w.heap.size + 1; omega) _).alloc _, (((HB.out).setCell (p := ⟨w.heap.size + 1, 3, none⟩) (by show w.heap.size ≤ w.heap.size + 1; omega) _).setCell (p := ⟨w.heap.size + 1, 4, none⟩) (by show w.heap.size ≤ w.heap.size + 1; omega) _).alloc (by simp; have := HB.out.size; omega) _⟩
            case measure => simp [intOf]; omega
        · have d2 : decide (st < pf) = false := by simpa using hf
          by_cases hl : pl < st
          · have d3 : decide (pl < st) = true := by simpa using hl
            have HE := Lib.hid (show ofK l (k + 1) = (cw, pf, st) by rw [HST.out, if_neg (fun h => h.elim hz hf), if_pos (.inr hl)])
            clear hz hf hl
            go_wp2_with fail
            go_roundw
            case rel => exact ⟨k + 1, by omega, by go_num, by rw [HE.out]; exact (((HTB.out).set_ 3 (.int .i64 (cw))).set_ 5 (.int .i64 st)).alloc _, (((HR.out).far (p := ⟨w.heap.size + 1, 3, none⟩) (by show w.heap.size ≠ w.heap.size + 1; omega) _).far (p := ⟨w.heap.size + 1, 5, none⟩) (by show w.heap.size ≠ w.heap.size + 1; omega) _).alloc _, (((HB.out).setCell (p := ⟨w.heap.size + 1, 3, none⟩) (by show w.heap.size ≤ w.heap.size + 1; omega) _).setCell (p := ⟨w.heap.size + 1, 5, none⟩) (by show w.heap.size ≤ w.heap.size + 1; omega) _).alloc (by simp; have := HB.out.size; omega) _⟩
            case measure => simp [intOf]; omega
          · have d3 : decide (pl < st) = false := by simpa using hl
            have HE := Lib.hid (show ofK l (k + 1) = (cw, pf, pl) by rw [HST.out, if_neg (fun h => h.elim hz hf), if_neg (fun h => h.elim hz hl)])
            clear hz hf hl
            go_wp2_with fail
            go_roundw
            case rel => exact ⟨k + 1, by omega, by go_num, by rw [HE.out]; exact ((HTB.out).set_ 3 (.int .i64 (cw))).alloc _, ((HR.out).far (p := ⟨w.heap.size + 1, 3, none⟩) (by show w.heap.size ≠ w.heap.size + 1; omega) _).alloc _, ((HB.out).setCell (p := ⟨w.heap.size + 1, 3, none⟩) (by show w.heap.size ≤ w.heap.size + 1; omega) _).alloc (by simp; have := HB.out.size; omega) _⟩
            case measure => simp [intOf]; omega
    · obtain rfl : k = l.length := by omega
      obtain ⟨p, hp⟩ : ∃ p, p = ofK l l.length := ⟨_, rfl⟩
      rw [← hp] at ht HT
      have hsz : w.heap.size + 2 ≤ wr.heap.size := by have := ht.lt; omega
      obtain ⟨hr1, hr2, hr3⟩ := sumsM_all Sale.lot l (fun s hs => (HL.out.2 s hs).lot)
      obtain ⟨hq1, hq2, hq3⟩ := sumsM_all Sale.bidder l (fun s hs => (HL.out.2 s hs).bidder)
      have HM1 := Lib.hid (And.intro hr1 hr3)
      have HM2 := Lib.hid (And.intro hq1 hq3)
      have HOV := Lib.hid (show ofV l = tak l.length (sumsM Sale.lot l).length (sumsM Sale.bidder l).length p by rw [hp]; rfl)
      obtain ⟨M1, hM1⟩ : ∃ M, M = sumsM Sale.lot l := ⟨_, rfl⟩
      obtain ⟨M2, hM2⟩ : ∃ M, M = sumsM Sale.bidder l := ⟨_, rfl⟩
      rw [← hM1] at HM1 HOV hr2
      rw [← hM2] at HM2 HOV hq2
      have HE1 := Lib.hid hM1
      have HE2 := Lib.hid hM2
      clear ht hr hb hp hr1 hr3 hq1 hq3 hM1 hM2
      go_wp2_with fail
      refine (ByLot_any (HL.out.grow HB.out) hle).mono ?_
      rintro e w1 ⟨rfl, hby, hb1, hz1⟩
      rw [← HE1.out] at hby
      obtain ⟨n1, hg1, hm1⟩ := hby
      have HG1 := Lib.hid hg1
      have HMM1 := Lib.hid hm1
      have HT1 := Lib.hid (HT.out.grow hb1)
      have HR1 := Lib.hid (HR.out.grow hb1)
      have HB1 := Lib.hid (HB.out.trans (hb1.mono HB.out.size))
      clear hg1 hm1 hb1
      unfold byV
      go_wp2_with fail
      refine (wpIn_wide (n := 3)).1 ?_
      refine' wpIn_rangeFunc_X (F := Fence.wide) (n := 3) rfl (by omega) (gf := 89) (lb := #[.pointer (some ⟨wr.heap.size + 1, 0, none⟩)]) rfl trivial (enters_of Tryz.func89 (by kernel_rfl) rfl)
        (by1_stops 2 (by omega) (wr.heap.size + 1) wr.heap.size n1 M1 HM1.out.1 (by omega) (fun p hp => (HM1.out.2 p hp).1) w1 HG1.out HMM1.out) (by rintro b (rfl | rfl) <;> omega) (Below.refl _ _) (fun _ => rfl)
        (fun _ pre W => (Blk W (w.heap.size + 1) 56 (tak l.length pre.length 0 p) ∧ Blk W w.heap.size 56 (tak 0 0 0 (0, 0, 0))) ∧ Below w.heap.size w W)
        (fun _ _ _ _ => False)
        (fun _ => OwnFrom.and (Own.from (fun _ _ _ _ h hg hr => ⟨h.1.cells hg hr, h.2.cells hg hr⟩) _) (ownFrom_below (Nat.le_refl _) HB1.out.size))
        (fun _ _ => fun _ _ _ _ h _ _ => h)
        (fun W0 hW0 => ⟨⟨HT1.out.grow hW0, HR1.out.grow hW0⟩, HB1.out.trans (hW0.mono HB1.out.size)⟩) _ ?assign ?body ?done ?stop
      case assign =>
        intro l' x W K hK
        gi_wp2
        exact hK
      case body =>
        rintro hi l' pre x W _ ⟨⟨hI, hI2⟩, hB⟩ hsp hlt
        have p0 : W.cell? ⟨w.heap.size + 1, 1, none⟩ = some (.int .i64 (pre.length : Int)) := hI.cell 1
        have p1 : W.frozen? ⟨w.heap.size + 1, 1, none⟩ = false := hI.frozen 1
        have hwr : IntKind.i64.wrap ((pre.length : Int) + 1) = (pre.length : Int) + 1 := IntWalk.i64_in _ (by omega)
        have HI := Lib.hid hI
        have HI2 := Lib.hid hI2
        have HBB := Lib.hid hB
        clear hI hI2 hB hsp
        gi_wp2
        refine ⟨KeepsOthers.setCell _ _ _, KeepX.set W (.inl (by show w.heap.size + 1 < _; omega)) (by show ¬ (w.heap.size + 1 = _ ∨ w.heap.size + 1 = _); omega) _, ⟨?_, HI2.out.far (p := ⟨w.heap.size + 1, 1, none⟩) (by show w.heap.size ≠ w.heap.size + 1; omega) _⟩, HBB.out.setCell (p := ⟨w.heap.size + 1, 1, none⟩) (by show w.heap.size ≤ w.heap.size + 1; omega) _⟩
        rw [List.length_append, List.length_singleton]
        exact HI.out.set_ 1 (.int .i64 ((pre.length : Int) + 1))
      case stop =>
        rintro hi D c pre W hD hpre2 hf hK
        exact hf.elim
      case done =>
        rintro hi D ys W hD hys ⟨⟨hI, hI2⟩, hB⟩ hK
        subst hys
        have hDl := (Array.getElem?_eq_some_iff.1 hK).1
        have HI := Lib.hid hI
        have HI2 := Lib.hid hI2
        have HBB := Lib.hid hB
        have HK := Lib.hid hK
        have hD' : wr.heap.size + 1 < D := by omega
        have hszW := hI.lt
        clear hI hI2 hB hK
        go_wp2_with fail
        refine (ByBidder_any (HL.out.grow HBB.out) hle).mono ?_
        rintro e w2 ⟨rfl, hby, hb2, hz2⟩
        rw [← HE2.out] at hby
        obtain ⟨n2, hg2, hm2⟩ := hby
        have HG2 := Lib.hid hg2
        have HMM2 := Lib.hid hm2
        have HT2 := Lib.hid (HI.out.grow hb2)
        have HR2 := Lib.hid (HI2.out.grow hb2)
        have HB2 := Lib.hid (HBB.out.trans (hb2.mono HBB.out.size))
        have HK2 := Lib.hid ((hb2.block D hDl).trans HK.out)
        have hs2 := hb2.size
        clear hg2 hm2 hb2
        unfold byV
        go_wp2_with fail
        refine (wpIn_wide (n := 3)).1 ?_
        refine' wpIn_rangeFunc_X (F := Fence.wide) (n := 3) rfl (by omega) (gf := 89) (lb := #[.pointer (some ⟨W.heap.size + 1, 0, none⟩)]) rfl trivial (enters_of Tryz.func89 (by kernel_rfl) rfl)
          (by1_stops 2 (by omega) (W.heap.size + 1) W.heap.size n2 M2 HM2.out.1 (by omega) (fun p hp => (HM2.out.2 p hp).1) w2 HG2.out HMM2.out) (by rintro b (rfl | rfl) <;> omega) (Below.refl _ _) (fun _ => rfl)
          (fun _ pre W => ((Blk W (w.heap.size + 1) 56 (tak l.length ys.length pre.length p) ∧ Blk W w.heap.size 56 (tak 0 0 0 (0, 0, 0))) ∧ W.heap[D]? = some (.deferred (some []))) ∧ Below w.heap.size w W)
          (fun _ _ _ _ => False)
          (fun _ => OwnFrom.and (OwnFrom.and (Own.from (fun _ _ _ _ h hg hr => ⟨h.1.cells hg hr, h.2.cells hg hr⟩) _) (fun _ A B row h hg hr => (hg.block D (Array.getElem?_eq_some_iff.1 h).1 (fun e => by have := (hr D e.symm).1; omega)).trans h)) (ownFrom_below (Nat.le_refl _) HB2.out.size))
          (fun _ _ => fun _ _ _ _ h _ _ => h)
          (fun W0 hW0 => ⟨⟨⟨HT2.out.grow hW0, HR2.out.grow hW0⟩, (hW0.block D (by omega)).trans HK2.out⟩, HB2.out.trans (hW0.mono HB2.out.size)⟩) _ ?assign ?body ?done ?stop
        case assign =>
          intro l' x W K hK
          gi_wp2
          exact hK
        case body =>
          rintro hi' l' pre x W' _ ⟨⟨⟨hI, hI2⟩, hDD⟩, hB⟩ hsp hlt
          have p0 : W'.cell? ⟨w.heap.size + 1, 2, none⟩ = some (.int .i64 (pre.length : Int)) := hI.cell 2
          have p1 : W'.frozen? ⟨w.heap.size + 1, 2, none⟩ = false := hI.frozen 2
          have hwr : IntKind.i64.wrap ((pre.length : Int) + 1) = (pre.length : Int) + 1 := IntWalk.i64_in _ (by omega)
          have HI := Lib.hid hI
          have HI2 := Lib.hid hI2
          have HDD := Lib.hid hDD
          have HBB := Lib.hid hB
          clear hI hI2 hB hsp hDD
          gi_wp2
          refine ⟨KeepsOthers.setCell _ _ _, KeepX.set W' (.inl (by show w.heap.size + 1 < _; omega)) (by show ¬ (w.heap.size + 1 = _ ∨ w.heap.size + 1 = _); omega) _, ⟨⟨?_, HI2.out.far (p := ⟨w.heap.size + 1, 2, none⟩) (by show w.heap.size ≠ w.heap.size + 1; omega) _⟩, (Below.heap_setCell W' ⟨w.heap.size + 1, 2, none⟩ _ D (by show D ≠ w.heap.size + 1; omega)).trans HDD.out⟩, HBB.out.setCell (p := ⟨w.heap.size + 1, 2, none⟩) (by show w.heap.size ≤ w.heap.size + 1; omega) _⟩
          rw [List.length_append, List.length_singleton]
          exact HI.out.set_ 2 (.int .i64 ((pre.length : Int) + 1))
        case stop =>
          rintro hi' D' c pre W' hD2 hpre2 hf hK
          exact hf.elim
        case done =>
          rintro hi' D2 ys2 W' hD2 hys2 ⟨⟨⟨hI, hI2⟩, hDD⟩, hB⟩ hK
          subst hys2
          have p0 : W'.cell? ⟨w.heap.size + 1, 0, none⟩ = some (.int .i64 (l.length : Int)) := hI.cell 0
          have p1 : W'.cell? ⟨w.heap.size + 1, 1, none⟩ = some (.int .i64 (ys.length : Int)) := hI.cell 1
          have p2 : W'.cell? ⟨w.heap.size + 1, 2, none⟩ = some (.int .i64 (ys2.length : Int)) := hI.cell 2
          have p3 : W'.cell? ⟨w.heap.size + 1, 3, none⟩ = some (.int .i64 p.1) := hI.cell 3
          have p4 : W'.cell? ⟨w.heap.size + 1, 4, none⟩ = some (.int .i64 p.2.1) := hI.cell 4
          have p5 : W'.cell? ⟨w.heap.size + 1, 5, none⟩ = some (.int .i64 p.2.2) := hI.cell 5
          have f0 : W'.frozen? ⟨w.heap.size, 0, none⟩ = false := hI2.frozen 0
          have f1 : W'.frozen? ⟨w.heap.size, 1, none⟩ = false := hI2.frozen 1
          have f2 : W'.frozen? ⟨w.heap.size, 2, none⟩ = false := hI2.frozen 2
          have f3 : W'.frozen? ⟨w.heap.size, 3, none⟩ = false := hI2.frozen 3
          have f4 : W'.frozen? ⟨w.heap.size, 4, none⟩ = false := hI2.frozen 4
          have f5 : W'.frozen? ⟨w.heap.size, 5, none⟩ = false := hI2.frozen 5
          have g0 : W'.cell? ⟨w.heap.size, 0, none⟩ = some (.int .i64 0) := hI2.cell 0
          have g1 : W'.cell? ⟨w.heap.size, 1, none⟩ = some (.int .i64 0) := hI2.cell 1
          have g2 : W'.cell? ⟨w.heap.size, 2, none⟩ = some (.int .i64 0) := hI2.cell 2
          have g3 : W'.cell? ⟨w.heap.size, 3, none⟩ = some (.int .i64 0) := hI2.cell 3
          have g4 : W'.cell? ⟨w.heap.size, 4, none⟩ = some (.int .i64 0) := hI2.cell 4
          have g5 : W'.cell? ⟨w.heap.size, 5, none⟩ = some (.int .i64 0) := hI2.cell 5
          have HI2 := Lib.hid hI2
          have HDD := Lib.hid hDD
          have HBB := Lib.hid hB
          have HK := Lib.hid hK
          clear hI hI2 hDD hB hK
          go_wp2_with fail
          obtain ⟨S, hS⟩ : ∃ S, S = (((((W'.setCell ⟨w.heap.size, 0, none⟩ (.int .i64 l.length)).setCell ⟨w.heap.size, 1, none⟩ (.int .i64 ys.length)).setCell ⟨w.heap.size, 2, none⟩ (.int .i64 ys2.length)).setCell ⟨w.heap.size, 3, none⟩ (.int .i64 p.1)).setCell ⟨w.heap.size, 4, none⟩ (.int .i64 p.2.1)).setCell ⟨w.heap.size, 5, none⟩ (.int .i64 p.2.2) := ⟨_, rfl⟩
          have hSB : Blk S w.heap.size 56 (ofV l) := by
            rw [hS, HOV.out]
            exact (((((HI2.out.set_ 0 (.int .i64 l.length)).set_ 1 (.int .i64 ys.length)).set_ 2 (.int .i64 ys2.length)).set_ 3 (.int .i64 p.1)).set_ 4 (.int .i64 p.2.1)).set_ 5 (.int .i64 p.2.2)
          have hSK : KeepsOthers W' S := by
            rw [hS]
            exact (((((KeepsOthers.setCell _ _ _).trans (KeepsOthers.setCell _ _ _)).trans (KeepsOthers.setCell _ _ _)).trans (KeepsOthers.setCell _ _ _)).trans (KeepsOthers.setCell _ _ _)).trans (KeepsOthers.setCell _ _ _)
          have hSW : Below w.heap.size w S := by
            rw [hS]
            exact (((((HBB.out.setCell (p := ⟨w.heap.size, 0, none⟩) (Nat.le_refl _) _).setCell (p := ⟨w.heap.size, 1, none⟩) (Nat.le_refl _) _).setCell (p := ⟨w.heap.size, 2, none⟩) (Nat.le_refl _) _).setCell (p := ⟨w.heap.size, 3, none⟩) (Nat.le_refl _) _).setCell (p := ⟨w.heap.size, 4, none⟩) (Nat.le_refl _) _).setCell (p := ⟨w.heap.size, 5, none⟩) (Nat.le_refl _) _
          rw [← hS]
          have hK2 := hSK.same D2 _ HK.out rfl
          have hK1 := hSK.same D _ HDD.out rfl
          have HSB := Lib.hid hSB
          have HSW := Lib.hid hSW
          clear hS hSK hSB hSW g0 g1 g2 g3 g4 g5 f0 f1 f2 f3 f4 f5 p0 p1 p2 p3 p4 p5
          refine ⟨by simp, .inl ⟨_, _, rfl, run_takeDeferred hK2, ?_⟩⟩
          have hDD2 : D ≠ D2 := by omega
          have hK3 : (S.putObj D2 (.deferred none)).heap[D]? = some (.deferred (some [])) := (World.putObj_heap_other hDD2).trans hK1
          refine ⟨by simp, .inl ⟨_, _, rfl, run_takeDeferred hK3, ?_⟩⟩
          have HT2 : Blk ((S.putObj D2 (.deferred none)).putObj D (.deferred none)) w.heap.size 56 (ofV l) := by
            have h1 := HSB.out
            have hw := h1.lt
            exact ((World.putObj_heap_other (by omega)).trans (World.putObj_heap_other (by omega))).trans h1
          have hBT : Below w.heap.size w ((S.putObj D2 (.deferred none)).putObj D (.deferred none)) :=
            (HSW.out.trans (belowK_b (w := w) (Nat.le_refl _) S D2 _ _ (by omega) hK2 rfl rfl)).trans (belowK_b (w := w) (Nat.le_refl _) _ D _ _ (by omega) hK3 rfl rfl)
          rw [HOV.out] at HT2 ⊢
          have j0 := HT2.cell 0
          have j1 := HT2.cell 1
          have j2 := HT2.cell 2
          have j3 := HT2.cell 3
          have j4 := HT2.cell 4
          have j5 := HT2.cell 5
          simp only [tak] at j0 j1 j2 j3 j4 j5 ⊢
          generalize (S.putObj D2 (.deferred none)).putObj D (.deferred none) = T at j0 j1 j2 j3 j4 j5 hBT ⊢
          exact ⟨_, by simp [results, Tryz.results34, go_sem, j0, j1, j2, j3, j4, j5], rfl, hBT⟩
end Go.Proofs.YtidejikolcgojaaGreat.St

/- Stats: sales lent; coins, ticks as rows. -/
import Derived.Test.YtidejikolcgojaaGreatSxD
import Derived.Test.YtidejikolcgojaaGreatSbC
namespace Go.Proofs.YtidejikolcgojaaGreat.St
open Go.RowKit Go.Shelf
open Go.Proofs.YtidejikolcgojaaGreat.Vb Go.Proofs.YtidejikolcgojaaGreat.Ac

theorem et_sale : ElemT Tryz.prog 53 66 7 56 := elemT_of Tryz.underlying53 (by omega) (z := .agg #[.int .i64 0, .int .i64 0, .int .i64 0, .int .i64 0, .int .u32 0, .int .i64 0, .int .i64 0]) (by kernel_rfl) rfl
abbrev SaleT : TypeId := 66
def markS : Sale := ⟨0, 0, 0, 771, 0, 0, 0⟩
theorem scells_append (l r : List Sale) : scells (l ++ r) = scells l ++ scells r := by simp [scells]
theorem scells_one (l : List Sale) : ∀ u ∈ scells l, u.oneCell' = true := by
  intro u hu
  unfold scells at hu
  obtain ⟨s, _, hs⟩ := List.mem_flatMap.1 hu
  simp [scell] at hs
  rcases hs with rfl | rfl | rfl | rfl | rfl | rfl | rfl <;> rfl
theorem own_someS {w : World} {lo n c sz : Nat} {e : TypeId} {A : Option Addr} {xs : List Value} (h : w.ownsRow lo e sz (.slice A (n + 1) c) (n + 1) xs) : ∃ g, A = some ⟨g, 0, none⟩ := by
  rcases h.2 with ⟨hx, h0⟩ | ⟨g', cp, cur, hv, _⟩
  · cases hx
  · injection hv with hA _ _
    subst hA
    exact ⟨g', rfl⟩
/-- sales lent: in memory of its own, with a mark behind; from the place k on as they were -/
structure LentC (w : World) (lo g cap : Nat) (l : List Sale) (k : Nat) : Prop where
  lo : lo ≤ g
  cap1 : l.length + 1 ≤ cap
  cap2 : cap ≤ maxLen
  blk : ∃ cs, Blk w g SaleT cs ∧ ∀ j u, k * 7 ≤ j → (scells (l ++ [markS]))[j]? = some u → cs[j]? = some u
theorem LentC.lt {w : World} {lo g cap k : Nat} {l : List Sale} (h : LentC w lo g cap l k) : g < w.heap.size := by
  obtain ⟨cs, h1, _⟩ := h.blk
  exact h1.lt
theorem LentC.cell {w : World} {lo g cap k : Nat} {l : List Sale} (h : LentC w lo g cap l k) (j : Nat) (u : Value) (hj : k * 7 ≤ j) (hu : (scells (l ++ [markS]))[j]? = some u) : w.cell? ⟨g, j, none⟩ = some u := by
  obtain ⟨cs, h1, h2⟩ := h.blk
  exact (h1.cell j).trans (h2 j u hj hu)
theorem LentC.fro {w : World} {lo g cap k : Nat} {l : List Sale} (h : LentC w lo g cap l k) (j : Nat) : w.frozen? ⟨g, j, none⟩ = false := by
  obtain ⟨cs, h1, _⟩ := h.blk
  exact h1.frozen j
theorem LentC.grow {w w' : World} {lo g cap k : Nat} {l : List Sale} (h : LentC w lo g cap l k) (hb : Below w.heap.size w w') : LentC w' lo g cap l k := by
  obtain ⟨cs, h1, h2⟩ := h.blk
  exact ⟨h.lo, h.cap1, h.cap2, cs, h1.grow hb, h2⟩
theorem LentC.mono {w : World} {lo g cap k k' : Nat} {l : List Sale} (h : LentC w lo g cap l k) (hk : k ≤ k') : LentC w lo g cap l k' := by
  obtain ⟨cs, h1, h2⟩ := h.blk
  exact ⟨h.lo, h.cap1, h.cap2, cs, h1, fun j u hj => h2 j u (Nat.le_trans (Nat.mul_le_mul_right 7 hk) hj)⟩
theorem LentC.set {w : World} {lo g cap k : Nat} {l : List Sale} (h : LentC w lo g cap l k) {j : Nat} (hj : j < k * 7) (v : Value) : LentC (w.setCell ⟨g, j, none⟩ v) lo g cap l k := by
  obtain ⟨cs, h1, h2⟩ := h.blk
  refine ⟨h.lo, h.cap1, h.cap2, _, h1.set_ j v, fun i u hi hu => ?_⟩
  rw [Array.getElem?_setIfInBounds_ne (by omega)]
  exact h2 i u hi hu
theorem LentC.drewN {w : World} {lo g cap k : Nat} {l : List Sale} (h : LentC w lo g cap l k) (n : Nat) : LentC (w.drewN n) lo g cap l k := h.grow (below_drewN (Below.refl _ _) _)
theorem LentC.sals {w : World} {lo g cap : Nat} {l : List Sale} (h : LentC w lo g cap l 0) (hok : ∀ s ∈ l, s.Ok) : Sals w (fun _ => True) (.slice (some ⟨g, 0, none⟩) l.length cap) l :=
  ⟨⟨scells_length l, _, _, rfl, by have := h.cap1; omega, h.cap2, fun _ => ⟨g, 0, rfl, trivial, h.lt, fun j u hu => by
    rw [Nat.zero_add]
    refine h.cell j u (by omega) ?_
    rw [scells_append, List.getElem?_append_left (List.getElem?_eq_some_iff.1 hu).1]
    exact hu⟩⟩, hok⟩
theorem lentC_of {w : World} {lo g n c : Nat} {l : List Sale} (h : w.ownsRow lo SaleT 7 (.slice (some ⟨g, 0, none⟩) (n + 1) c) (n + 1) (scells l ++ scell markS)) (hn : l.length = n := by rfl) : LentC w lo g c l 0 := by
  obtain ⟨h1, h2, h3, h4⟩ := ownP_form h
  rcases h.2 with ⟨h0, _⟩ | ⟨g', cp, cur, hv, hb, hg, h5, h6, h7, h8⟩
  · cases h0
  · injection hv with hA _ hc
    injection hA with hA
    injection hA with hA _
    subst hA hc
    refine ⟨h2, by omega, h4, cur, hg, fun j u _ hu => ?_⟩
    rw [scells_append] at hu
    have hj := (List.getElem?_eq_some_iff.1 hu).1
    rw [List.length_append, scells_length] at hj
    have hj2 : j < (n + 1) * 7 := by simp [scells, scell, markS] at hj; omega
    rw [← Array.getElem?_toList]
    have h9 : (cur.toList.take ((n + 1) * 7))[j]? = some u := by rw [h8]; exact hu
    rw [List.getElem?_take, if_pos hj2] at h9
    exact h9
set_option maxRecDepth 100000 in
set_option maxHeartbeats 4000000 in
theorem lentSales_any {l : List Sale} {v : Value} {R : Nat → Prop} {w : World} (h : Sals w R v l) (hle : l.length ≤ 1000) :
    Calls Tryz.prog 33 #[v] w fun e w' => ∃ g cap, e = .returned (.slice (some ⟨g, 0, none⟩) l.length cap) ∧ LentC w' w.heap.size g cap l 0 ∧ Below w.heap.size w w' := by
  obtain ⟨A, cap, rfl, hnc, hcap⟩ := h.form
  have HL := Lib.hid h
  have e1 : (0 : Int) ≤ (l.length : Int) := by omega
  clear h
  go_enter Tryz.func33, Tryz.ntmps33
  go_wp2_with (first
    | (at_builtin; (refine wpList_app _ rfl (.const (.slice none 0 0)) (.tmp 3) et_sale rfl w.heap.size (.slice none 0 0) 0 [] rfl (World.ownsRow_nil _ _ _ _) R _ l.length (scells l) rfl HL.out.1 (scells_one l) (by omega) (by unfold maxLen; omega) (Nat.le_refl _) ?_; intro A1 c1 w1 hown hg _; rw [Nat.zero_add] at hown ⊢; rw [List.nil_append] at hown; have HO1 := Lib.hid hown; have HB1 := Lib.hid ((Below.refl w.heap.size w).grown hg (Nat.le_refl _) (fun r e => by cases e)); have hs1 := HB1.out.size; clear hown hg))
    | (at_builtin; go_must (refine wpList_app _ rfl (.tmp 4) (.tmp 6) et_sale rfl w.heap.size (.slice A1 l.length c1) l.length (scells l) rfl (own_grow HO1.out ((Below.refl w1.heap.size w1).alloc (Nat.le_refl _) (.cells #[.int .i64 0, .int .i64 0, .int .i64 0, .int .i64 771, .int .u32 0, .int .i64 0, .int .i64 0] SaleT))) (fun _ => True) (.slice (some ⟨w1.heap.size, 0, none⟩) 1 1) 1 (scell markS) rfl ((Sl.new w1 #[.int .i64 0, .int .i64 0, .int .i64 0, .int .i64 771, .int .u32 0, .int .i64 0, .int .i64 0] SaleT 1 7 (by unfold maxLen; omega) rfl).mono fun _ _ _ => trivial) (by simp [Value.oneCell', scell]) (by omega) (by unfold maxLen; omega) (by simp; omega) ?_; intro A2 c2 w2 hown hg _; have HB2 := Lib.hid ((HB1.out.alloc hs1 (.cells #[.int .i64 0, .int .i64 0, .int .i64 0, .int .i64 771, .int .u32 0, .int .i64 0, .int .i64 0] SaleT)).grown hg (by first | (simp; done) | (simp; omega)) (fun r e => (HO1.out.lt r e).1)); obtain ⟨g2, rfl⟩ := own_someS hown; obtain ⟨hf1, hf2, hf3, hf4⟩ := ownP_form hown; have HO2 := Lib.hid hown; have e2 : l.length ≤ c2 := (by omega); have e3 : (l.length : Int) ≤ (c2 : Int) := (by omega); have e4 : ¬ c2 = 0 := (by omega); have HF := Lib.hid (And.intro hf1 (And.intro hf2 (And.intro hf3 hf4))); clear hown hg hf1 hf2 hf3 hf4)))
  go_ret
  exact ⟨g2, c2, rfl, lentC_of HO2.out, HB2.out⟩

/-- a number of each sale as a row -/
def rowS (f : Sale → Int) (l : List Sale) : List Nat := l.map fun s => floatOfInt .f64 (f s)
theorem rowS_length (f : Sale → Int) (l : List Sale) : (rowS f l).length = l.length := List.length_map ..
theorem rowS_snoc {f : Sale → Int} {l : List Sale} {k : Nat} {s : Sale} (h : l[k]? = some s) : rowS f (l.take (k + 1)) = rowS f (l.take k) ++ [floatOfInt .f64 (f s)] := by
  unfold rowS
  rw [List.take_add_one, h]
  simp
set_option maxRecDepth 100000 in
set_option maxHeartbeats 4000000 in
theorem rows_any {l : List Sale} {v : Value} {R : Nat → Prop} {w : World} (h : Sals w R v l) (hle : l.length ≤ 1000) (f : Sale → Int) (gf : Nat) (hg : ∀ (W : World) (s : Sale), Calls Tryz.prog gf #[saleV s] W fun e W' => e = .returned (.int .i64 (f s)) ∧ Below W.heap.size W W') (eg : ∀ args W, (callFunc gf args).run Tryz.prog W = .ok (.enter gf args) W) :
    Calls Tryz.prog 73 #[v, .func (.func gf) #[] #[]] w fun e w' => ∃ A' c', e = .returned (.slice A' l.length c') ∧ OwnL w' w.heap.size (.slice A' l.length c') (rowS f l) ∧ Below w.heap.size w w' := by
  obtain ⟨A, cap, rfl, hnc, hcap⟩ := h.form
  have HL := Lib.hid h
  have HG := Lib.hid hg
  obtain ⟨U, hU⟩ : ∃ U, U = w.alloc (.cells #[] 27) := ⟨_, rfl⟩
  have HB := Lib.hid (show Below w.heap.size w U by rw [hU]; exact (Below.refl _ _).alloc (Nat.le_refl _) _)
  have HE0 := Lib.hid (show U.ownsRow w.heap.size 27 1 (.slice (some ⟨w.heap.size, 0, none⟩) 0 0) 0 [] by rw [hU]; exact own_empty w (Nat.le_refl _) _ _)
  clear h hg
  go_enter Tryz.func73, Tryz.ntmps73
  go_wp2_with fail
  rw [← hU]
  clear hU
  have e4 : (0 : Int) ≤ (l.length : Int) := by omega
  go_loopw [5, 11] (fun o i wr => ∃ k : Nat, k ≤ l.length ∧ i = .int .i64 k ∧ OwnL wr w.heap.size o (rowS f (l.take k)) ∧ Below w.heap.size w wr) (fun _ i _ => l.length - (intOf i).toNat)
  case atStart => exact ⟨0, Nat.zero_le _, rfl, ⟨HE0.out, fun x hx => by cases hx⟩, HB.out⟩
  case round =>
    obtain ⟨k, hk, rfl, ho, hb⟩ := hrel
    have HBR := Lib.hid hb
    have HO := Lib.hid ho
    obtain ⟨B1, c1, rfl⟩ := ownL_form ho
    have hrl : (rowS f (l.take k)).length = k := by rw [rowS_length, List.length_take]; omega
    rw [hrl] at HO ⊢
    have HRL := Lib.hid hrl
    have hsz := hb.size
    clear ho hrl
    by_cases hlt : k < l.length
    · obtain ⟨s, hs⟩ : ∃ s, l[k]? = some s := ⟨_, List.getElem?_eq_getElem hlt⟩
      have HSN := Lib.hid (rowS_snoc (f := f) hs)
      obtain ⟨bq, off, rfl, _, hbq, hc⟩ := (HL.out.grow hb).at_ hs
      have c0 : wr.cell? ⟨bq, off + k * 7, none⟩ = some (.int .i64 s.number) := hc 0 _ rfl
      have c1' : wr.cell? ⟨bq, off + k * 7 + 1, none⟩ = some (.int .i64 s.lot) := hc 1 _ rfl
      have c2 : wr.cell? ⟨bq, off + k * 7 + 2, none⟩ = some (.int .i64 s.bidder) := hc 2 _ rfl
      have c3 : wr.cell? ⟨bq, off + k * 7 + 3, none⟩ = some (.int .i64 s.coins) := hc 3 _ rfl
      have c4 : wr.cell? ⟨bq, off + k * 7 + 4, none⟩ = some (.int .u32 s.goods) := hc 4 _ rfl
      have c5 : wr.cell? ⟨bq, off + k * 7 + 5, none⟩ = some (.int .i64 s.count) := hc 5 _ rfl
      have c6 : wr.cell? ⟨bq, off + k * 7 + 6, none⟩ = some (.int .i64 s.tick) := hc 6 _ rfl
      obtain ⟨V, hV⟩ : ∃ V, V = wr.alloc (.cells #[.int .i64 s.number, .int .i64 s.lot, .int .i64 s.bidder, .int .i64 s.coins, .int .u32 s.goods, .int .i64 s.count, .int .i64 s.tick] 66) := ⟨_, rfl⟩
      have hwV : Below wr.heap.size wr V := by rw [hV]; exact (Below.refl _ _).alloc (Nat.le_refl _) _
      have HBV := Lib.hid (hb.trans (hwV.mono hb.size))
      have HOV := Lib.hid (HO.out.grow hwV)
      have hsV : Blk V wr.heap.size 66 #[.int .i64 s.number, .int .i64 s.lot, .int .i64 s.bidder, .int .i64 s.coins, .int .u32 s.goods, .int .i64 s.count, .int .i64 s.tick] := by rw [hV]; exact Blk.new _ _ _
      have y0 : V.cell? ⟨wr.heap.size, 0, none⟩ = some (.int .i64 s.number) := hsV.cell 0
      have y1 : V.cell? ⟨wr.heap.size, 1, none⟩ = some (.int .i64 s.lot) := hsV.cell 1
      have y2 : V.cell? ⟨wr.heap.size, 2, none⟩ = some (.int .i64 s.bidder) := hsV.cell 2
      have y3 : V.cell? ⟨wr.heap.size, 3, none⟩ = some (.int .i64 s.coins) := hsV.cell 3
      have y4 : V.cell? ⟨wr.heap.size, 4, none⟩ = some (.int .u32 s.goods) := hsV.cell 4
      have y5 : V.cell? ⟨wr.heap.size, 5, none⟩ = some (.int .i64 s.count) := hsV.cell 5
      have y6 : V.cell? ⟨wr.heap.size, 6, none⟩ = some (.int .i64 s.tick) := hsV.cell 6
      have e1 : (0 : Int) ≤ (k : Int) := by omega
      have e2 : (k : Int) < (l.length : Int) := by omega
      have hszV := hwV.size
      have HGS := Lib.hid (fun W => HG.out W s)
      obtain ⟨fs, hfs⟩ : ∃ z, z = f s := ⟨_, rfl⟩
      rw [← hfs] at HSN HGS
      obtain ⟨ps, hps⟩ : ∃ z, z = rowS f (l.take k) := ⟨_, rfl⟩
      rw [← hps] at HO HOV HSN HRL
      obtain ⟨sn, sl, sb, sc, sg, sct, st⟩ := s
      dsimp only at c0 c1' c2 c3 c4 c5 c6 y0 y1 y2 y3 y4 y5 y6 hV HGS
      clear hs hc hb hsV hwV hfs hps
      go_wp2_with fail
      rw [← hV]
      clear hV c0 c1' c2 c3 c4 c5 c6
      go_wp2_with fail
      refine (HGS.out _).mono ?_
      rintro e w4 ⟨rfl, hb4⟩
      have HB4 := Lib.hid (HBV.out.trans (hb4.mono HBV.out.size))
      have HO4 := Lib.hid (HOV.out.grow hb4)
      have hs4 := HB4.out.size
      clear hb4 y0 y1 y2 y3 y4 y5 y6
      go_wp2_with (at_builtin; go_must (have HSL := Lib.hid (show Sl (w4.alloc (.cells #[.float .f64 (floatOfInt .f64 fs)] 27)) (fun _ => True) (.slice (some ⟨w4.heap.size, 0, none⟩) 1 1) 1 1 [.float .f64 (floatOfInt .f64 fs)] from (Sl.new w4 #[.float .f64 (floatOfInt .f64 fs)] 27 1 1 (by unfold maxLen; omega) rfl).mono fun _ _ _ => trivial); refine wpList_app _ rfl (.tmp 15) (.tmp 20) et_f64 rfl w.heap.size (.slice B1 k c1) k (flts ps) rfl (own_grow (by have h := HO4.out.1; rw [HRL.out] at h; exact h) ((Below.refl w4.heap.size w4).alloc (Nat.le_refl _) (.cells #[.float .f64 (floatOfInt .f64 fs)] 27))) _ _ 1 _ rfl HSL.out (by simp [Value.oneCell']) (by omega) (by unfold maxLen; omega) (by simp; omega) ?_; intro A5 c5 w5 hown5 hg5 _; have HB5 := Lib.hid ((HB4.out.alloc (by omega) (.cells #[.float .f64 (floatOfInt .f64 fs)] 27)).grown hg5 (by simp; omega) (fun r e => (HO4.out.1.lt r e).1)); have HO5 := Lib.hid hown5; clear hown5 hg5))
      go_wp2_with fail
      go_roundw
      case rel => exact ⟨k + 1, by omega, by go_num, by rw [HSN.out]; exact ownL_app HO.out.2 (isF_int fs).1 (by rw [HRL.out]; exact HO5.out), HB5.out⟩
      case measure => simp [intOf]; omega
    · obtain rfl : k = l.length := by omega
      rw [List.take_length] at HO
      go_wp2_with fail
      go_ret
      exact ⟨B1, c1, rfl, HO.out, HBR.out⟩
theorem fCoins_any (W : World) (s : Sale) : Calls Tryz.prog 74 #[saleV s] W fun e W' => e = .returned (.int .i64 s.coins) ∧ Below W.heap.size W W' := by
  go_enter Tryz.func74, Tryz.ntmps74
  go_wp2
  go_ret
  exact ⟨rfl, (Below.refl _ _).alloc (Nat.le_refl _) _⟩
theorem fTicks_any (W : World) (s : Sale) : Calls Tryz.prog 75 #[saleV s] W fun e W' => e = .returned (.int .i64 s.tick) ∧ Below W.heap.size W W' := by
  go_enter Tryz.func75, Tryz.ntmps75
  go_wp2
  go_ret
  exact ⟨rfl, (Below.refl _ _).alloc (Nat.le_refl _) _⟩
set_option maxRecDepth 100000 in
theorem Coins_any {l : List Sale} {v : Value} {R : Nat → Prop} {w : World} (h : Sals w R v l) (hle : l.length ≤ 1000) :
    Calls Tryz.prog 38 #[v] w fun e w' => ∃ A' c', e = .returned (.slice A' l.length c') ∧ OwnL w' w.heap.size (.slice A' l.length c') (rowS Sale.coins l) ∧ Below w.heap.size w w' := by
  obtain ⟨A, cap, rfl, hnc, hcap⟩ := h.form
  have HL := Lib.hid h
  clear h
  go_enter Tryz.func38, Tryz.ntmps38
  go_wp2_with fail
  refine (rows_any HL.out hle Sale.coins 74 (fun W s => fCoins_any W s) (enters_of Tryz.func74 (by kernel_rfl) rfl)).mono ?_
  rintro e w1 ⟨A1, c1, rfl, ho, hb⟩
  have H := Lib.hid (And.intro ho hb)
  clear ho hb
  go_wp2_with fail
  go_ret
  exact ⟨A1, c1, rfl, H.out⟩
set_option maxRecDepth 100000 in
theorem Ticks_any {l : List Sale} {v : Value} {R : Nat → Prop} {w : World} (h : Sals w R v l) (hle : l.length ≤ 1000) :
    Calls Tryz.prog 39 #[v] w fun e w' => ∃ A' c', e = .returned (.slice A' l.length c') ∧ OwnL w' w.heap.size (.slice A' l.length c') (rowS Sale.tick l) ∧ Below w.heap.size w w' := by
  obtain ⟨A, cap, rfl, hnc, hcap⟩ := h.form
  have HL := Lib.hid h
  clear h
  go_enter Tryz.func39, Tryz.ntmps39
  go_wp2_with fail
  refine (rows_any HL.out hle Sale.tick 75 (fun W s => fTicks_any W s) (enters_of Tryz.func75 (by kernel_rfl) rfl)).mono ?_
  rintro e w1 ⟨A1, c1, rfl, ho, hb⟩
  have H := Lib.hid (And.intro ho hb)
  clear ho hb
  go_wp2_with fail
  go_ret
  exact ⟨A1, c1, rfl, H.out⟩
end Go.Proofs.YtidejikolcgojaaGreat.St

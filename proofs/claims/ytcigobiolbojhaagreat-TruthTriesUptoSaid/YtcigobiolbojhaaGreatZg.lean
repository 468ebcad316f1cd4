/- Joined by program: Pay18 Tru4 Tru5 Tru6. -/
import Derived.Test.YtcigobiolbojhaaGreatZf
import Derived.Laws.EntriesVeiled
/- core.Pay. -/
namespace Go.Proofs.YtcigobiolbojhaaGreat.Vb
open Go.RowKit Go.Shelf
attribute [local go_sem] Oper.semAt_some

theorem shared_stops (F : Fence) (nn : Nat) (hf : F.fn 84) (hro : F.round = none) (hn : 1 ≤ nn) {w0 w : World} {lo b4 b3 : Nat} {who : List Int} {rows : List (List Int)} (h : Shared w0 lo b4 b3 who rows) (hm : who.length ≤ 40) (hrl : rows.length = who.length) (hrow : ∀ r ∈ rows, r.length ≤ 40) (hb : KeepR lo w0.heap.size w0 w) :
    SeqStopsV F nn Tryz.prog 84 #[.pointer (some ⟨b4, 0, none⟩), .pointer (some ⟨b3, 0, none⟩)] (fun x : Int × List Int × Value => #[Value.int .i64 x.1, x.2.2]) (KeepR lo w0.heap.size) (fun b x W => Told x b W) (fun ys => tells ys = who.zip rows) (fun pre => tells pre <+: who.zip rows) who.length w := fun l J Jx W hW hJ _ hY h0 => by
  obtain ⟨Aw, cw, Aa, ca, vs, h1, h2, h3, h4, h5, h6, h7⟩ := h
  have hk : KeepR lo w0.heap.size w0 W := hb.trans ⟨hW.size, fun i _ hi => hW.block i (by have := hb.size; omega)⟩
  have hR : ∀ {v : Value} {m sz : Nat} {xs : List Value}, Sl w0 (lo ≤ ·) v m sz xs → Sl W (fun b => lo ≤ b ∧ b < w0.heap.size) v m sz xs := fun hs => hk.sl (hs.mono fun b hlt hb => ⟨hb, hlt⟩)
  exact steps2_in F nn hf hro hn l b4 b3 lo w0.heap.size who.length cw ca Aw Aa who rows vs hm rfl hrl hrow h5.lt h2 J Jx W hk.size hJ hY ((hk.cell (p := ⟨b4, 0, none⟩) h1 h3.lt).trans (h3.cell 0)) ((hk.cell (p := ⟨b3, 0, none⟩) h2 h5.lt).trans (h5.cell 0)) (hR h4) (hR h6)
    (fun j r hj => let ⟨u, hu, hs⟩ := h7 j r hj; ⟨u, hu, hR hs⟩) h0
theorem whoL_len (n : Int) (bs : List (List Off)) : (whoL n bs).length ≤ bs.length := by
  unfold whoL
  split
  · exact whoTo_len _ _
  · simp
theorem rowsTo_rows {n : Int} {bs : List (List Off)} (hi : instE n bs = 0) (hwf : ∀ l ∈ bs, ∀ o ∈ l, o.wf) {r : List Int} (h : r ∈ rowsL n bs) : r.length = bs.length := by
  unfold rowsL at h
  rw [if_pos hi] at h
  obtain ⟨j, hj, rfl⟩ := rowsTo_mem h
  exact payTo_len hi hwf hj
/-- the last of the rows is what is paid -/
theorem rowsTo_last (n : Int) (bs : List (List Off)) : ∀ k, (rowsTo n bs k).getLastD (bidsC n bs) = payTo n bs k
  | 0 => rfl
  | k + 1 => by
    unfold rowsTo
    split
    · simp
    · rename_i hw
      rw [rowsTo_last n bs k]
      show _ = payStep n bs (payTo n bs k) k
      unfold payStep
      rw [if_neg hw]

theorem keepR_t {lo hi : Nat} {A B C : World} (h : KeepR lo hi A B) (k : KeepR lo hi B C) : KeepR lo hi A C := h.trans k
theorem keepR_b {lo hi : Nat} {w : World} (hn : hi ≤ w.heap.size) (W : World) (l : Nat) (o o' : Obj) (hl : w.heap.size ≤ l) (_ : W.heap[l]? = some o) (_ : o.isCells = false) (_ : o.isWalk = false) : KeepR lo hi W (W.putObj l o') :=
  ⟨by simp, fun i _ h2 => World.putObj_heap_other (by omega)⟩
theorem ownFrom_keepR {β : Type} {lo hi B : Nat} {w₀ : World} (hB : hi ≤ w₀.heap.size) (hB' : hi ≤ B) : OwnFrom B (fun (_ : β) W => KeepR lo hi w₀ W) :=
  fun _ X Y row hs hg hr => ⟨Nat.le_trans hs.size hg.size, fun i h1 h2 => (hg.block i (by have := hs.size; omega) (fun e => by have := (hr i e.symm).1; omega)).trans (hs.same i h1 h2)⟩
theorem KeepR.set {lo hi : Nat} (W : World) {p : Addr} (hp : p.block < lo ∨ hi ≤ p.block) (u : Value) : KeepR lo hi W (W.setCell p u) :=
  ⟨by simp [World.setCell], fun i h1 h2 => Below.heap_setCell W p u i (by omega)⟩
theorem KeepR.of_below {lo hi : Nat} {A B : World} (h : Below hi A B) : KeepR lo hi A B := ⟨h.size, fun i _ hi => h.block i hi⟩
/-- a row of cells abides what turns no cells -/
theorem own_cells {W W' : World} {row : Option Nat} {b : Nat} {e : TypeId} {sz n : Nat} {v : Value} {xs : List Value} (h : W.ownsRow b e sz v n xs) (hg : W.grownBy W' row) (hr : ∀ r, row = some r → ∃ o : Obj, W.heap[r]? = some o ∧ o.isCells = false) : W'.ownsRow b e sz v n xs := by
  refine own_far h hg fun r e he => ?_
  obtain ⟨o, ho, hc⟩ := hr r e
  obtain ⟨_, h | ⟨g, cap, cur, hv, hgb, hcur, _⟩⟩ := h
  · rw [h.1] at he; cases he
  · rw [hv] at he
    injection he with he
    simp only at he
    subst he
    rw [ho] at hcur
    cases hcur
    cases hc
theorem Blk.cells {W W' : World} {row : Option Nat} {g : Nat} {t : TypeId} {cs : Array Value} (h : Blk W g t cs) (hg : W.grownBy W' row) (hr : ∀ r, row = some r → ∃ o : Obj, W.heap[r]? = some o ∧ o.isCells = false) : Blk W' g t cs :=
  h.grown hg fun e => by
    obtain ⟨o, ho, hc⟩ := hr g e.symm
    unfold Blk at h
    rw [h] at ho
    cases ho
    cases hc
theorem own_base {w : World} {b b' : Nat} {e : TypeId} {sz n : Nat} {v : Value} {xs : List Value} (h : w.ownsRow b e sz v n xs) (hb : b' ≤ b) : w.ownsRow b' e sz v n xs := by
  obtain ⟨h1, h | ⟨g, cap, cur, hv, hgb, hrest⟩⟩ := h
  · exact ⟨h1, .inl h⟩
  · exact ⟨h1, .inr ⟨g, cap, cur, hv, Nat.le_trans hb hgb, hrest⟩⟩

/-- what was told last -/
def lastT (d : List Int) (xs : List (Int × List Int × Value)) : List Int := ((tells xs).map (·.2)).getLastD d
theorem lastT_snoc (d : List Int) (xs : List (Int × List Int × Value)) (x : Int × List Int × Value) : lastT d (xs ++ [x]) = x.2.1 := by
  simp [lastT, tells]
theorem lastT_all {n : Int} {bs : List (List Off)} (hi : instE n bs = 0) {xs : List (Int × List Int × Value)} (h : tells xs = (whoL n bs).zip (rowsL n bs)) : lastT (bidsC n bs) xs = payTo n bs bs.length := by
  unfold lastT
  rw [h, ← List.unzip_snd, List.unzip_zip (by rw [rowsL_len])]
  unfold rowsL
  rw [if_pos hi]
  exact rowsTo_last _ _ _

/-- between two turns: what is told last lies at g -/
def PayI (lo g : Nat) (d : List Int) (xs : List (Int × List Int × Value)) (W : World) : Prop :=
  ∃ A' c', Blk W g 37 #[.slice A' (lastT d xs).length c'] ∧ W.ownsRow lo 2 1 (.slice A' (lastT d xs).length c') (lastT d xs).length (ints (lastT d xs))
theorem payI_own (lo g : Nat) (d : List Int) : Own (PayI lo g d) := fun _ _ _ _ ⟨A', c', h1, h2⟩ hg hr => ⟨A', c', h1.cells hg hr, own_cells h2 hg hr⟩

set_option maxHeartbeats 800000 in
theorem corePay_err (n : Int) (bs : List (List Off)) (v : Value) (R : Nat → Prop) (w : World) (hl : Buys w R v bs) (hi : instE n bs ≠ 0) :
    Calls Tryz.prog 49 #[.agg #[.int .i64 n, v]] w fun e w' => e = .returned (.tuple #[.slice none 0 0, .int .i64 (instE n bs)]) ∧ Below w.heap.size w w' := by
  obtain ⟨_, ⟨_, A, cap, rfl, _⟩, _⟩ := id hl
  have HB := Lib.hid hl
  have HI := Lib.hid hi
  have hne : (instE n bs != 0) = true := by simpa using hi
  clear hl hi
  refine (callsIn_wide (n := 3)).1 (callsIn_of_wp_marks Tryz.func49 rfl trivial ((wpIn_wide (n := 3)).2 ?_))
  simp only [Tryz.ntmps49, List.size_toArray, List.length_cons, List.length_nil, Nat.reduceAdd, Nat.reduceSub, Array.replicate_succ, Array.replicate_zero, List.push_toArray, List.append_toArray, List.nil_append, List.cons_append]
  go_wp2_with fail
  refine (of_err n bs _ R _ (HB.out.alloc _) HI.out).mono ?_
  rintro e w1 ⟨rfl, hb1⟩
  have HB1 := Lib.hid (one_blk' hb1).2.2
  clear hb1
  go_wp2_with fail
  exact ⟨.tuple #[.slice none 0 0, .int .i64 (instE n bs)], by simp [results, Tryz.results49, go_sem], rfl, HB1.out⟩

set_option maxRecDepth 100000 in
set_option maxHeartbeats 4000000 in
theorem corePay_ok (n : Int) (bs : List (List Off)) (v : Value) (R : Nat → Prop) (w : World) (hl : Buys w R v bs) (hi : instE n bs = 0) :
    Calls Tryz.prog 49 #[.agg #[.int .i64 n, v]] w fun e w' => ∃ A' c', e = .returned (.tuple #[.slice A' bs.length c', .int .i64 0]) ∧ w'.ownsRow w.heap.size 2 1 (.slice A' bs.length c') bs.length (ints (payTo n bs bs.length)) ∧ Below w.heap.size w w' := by
  obtain ⟨_, ⟨_, A, cap, rfl, _⟩, _⟩ := id hl
  have HB := Lib.hid hl
  have HI := Lib.hid hi
  have HWF := Lib.hid (Buys.wf hl)
  have hl32 := (instE_zero hi).2.2.1
  clear hl hi
  refine (callsIn_wide (n := 3)).1 (callsIn_of_wp_marks Tryz.func49 rfl trivial ((wpIn_wide (n := 3)).2 ?_))
  simp only [Tryz.ntmps49, List.size_toArray, List.length_cons, List.length_nil, Nat.reduceAdd, Nat.reduceSub, Array.replicate_succ, Array.replicate_zero, List.push_toArray, List.append_toArray, List.nil_append, List.cons_append]
  go_wp2_with fail
  refine (of_ok n bs _ R _ (HB.out.alloc _) HI.out).mono ?_
  rintro e w1 ⟨g, A1, c1, rfl, hw1, hb1⟩
  have HX1 := Lib.hid (one_blk' hb1).1
  have HB1 := Lib.hid (one_blk' hb1).2.2
  have hs1 := (one_blk' hb1).2.1
  have HW1 := Lib.hid hw1
  have hcb := hw1.cb
  have hx1 : w1.cell? ⟨w.heap.size, 0, none⟩ = some (.int .i64 n) := (one_blk' hb1).1.cell 0
  have hx2 : w1.cell? ⟨w.heap.size, 1, none⟩ = some (.slice A bs.length cap) := (one_blk' hb1).1.cell 1
  clear hw1 hb1
  have hx1a := cellAlloc hx1 (.cells #[.slice A1 bs.length c1] 37)
  have hx2a := cellAlloc hx2 (.cells #[.slice A1 bs.length c1] 37)
  go_wp2_with fail
  obtain ⟨W2, hW2⟩ : ∃ W, W = w1.alloc (.cells #[.slice A1 bs.length c1] 37) := ⟨_, rfl⟩
  have HO2 := Lib.hid (show Blk W2 w1.heap.size 37 #[.slice A1 bs.length c1] from by rw [hW2]; exact Blk.new w1 _ _)
  have HW2 := Lib.hid (show W2.ownsRow (w.heap.size + 1) 2 1 (.slice A1 bs.length c1) bs.length (ints (bidsC n bs)) from by rw [hW2]; exact own_alloc (by simpa using HW1.out.2.2) _)
  have HB2 := Lib.hid (show Below w.heap.size w W2 from by rw [hW2]; exact HB1.out.alloc (by omega) _)
  have hs2 : W2.heap.size = w1.heap.size + 1 := by rw [hW2]; simp
  rw [← hW2]
  clear hW2 hx1 hx2 hx1a hx2a
  refine (coreSteps_ok n bs _ R _ (HB.out.grow HB2.out) HI.out).mono ?_
  rintro e w3 ⟨b4, b3, rfl, hsh, hb3⟩
  have HO3 := Lib.hid (HO2.out.grow hb3)
  have HW3 := Lib.hid (own_grow HW2.out hb3)
  have HB3 := Lib.hid (HB2.out.trans (hb3.mono HB2.out.size))
  have HSH := Lib.hid hsh
  have hs3 := hb3.size
  clear hb3 hsh
  go_wp2_with fail
  refine (wpIn_wide (n := 3)).1 ?_
  refine' wpIn_rangeFunc_V (F := Fence.wide) (n := 3) rfl (by omega) (gf := 84) (lb := #[.pointer (some ⟨b4, 0, none⟩), .pointer (some ⟨b3, 0, none⟩)]) rfl trivial (enters_of Tryz.func84 (by kernel_rfl) rfl)
    (shared_stops Fence.wide 2 trivial rfl (by omega) HSH.out (by have := whoL_len n bs; omega) (rowsL_len n bs) (fun r hr => by rw [rowsTo_rows HI.out HWF.out hr]; omega) (KeepR.refl _ _ _)) keepR_t (keepR_b (Nat.le_refl _)) (Below.refl _ _) (fun _ => rfl) (told_own _ _)
    (fun pre W => PayI w.heap.size w1.heap.size (bidsC n bs) pre W ∧ Below w.heap.size w W)
    (fun _ _ _ => False)
    (OwnFrom.and (Own.from (payI_own _ _ _) _) (ownFrom_below (Nat.le_refl _) (by omega)))
    (fun c => fun _ _ _ _ h _ _ => h)
    ⟨⟨A1, c1, ?b1, ?b2⟩, HB3.out⟩ _ ?assign ?body ?done ?stop
  case b1 => rw [show (lastT (bidsC n bs) []).length = bs.length from bidsC_length n bs]; exact HO3.out
  case b2 => rw [show (lastT (bidsC n bs) []).length = bs.length from bidsC_length n bs]; exact own_mono HW3.out (by omega)
  case assign =>
    intro l x W K hK
    gi_wp2
    exact hK
  case body =>
    rintro l pre x W ⟨⟨A', c', hI, hI2⟩, hB⟩ hT hsp hlt2
    have hTT : W.ownsRow (w3.heap.size + 2) 2 1 x.2.2 x.2.1.length (ints x.2.1) := hT
    obtain ⟨xa, xl, xv⟩ := x
    obtain ⟨Ax, cx, hxv⟩ := own_form hTT
    dsimp only at hxv hTT
    subst hxv
    have p0 : W.cell? ⟨w1.heap.size, 0, none⟩ = some (.slice A' (lastT (bidsC n bs) pre).length c') := hI.cell 0
    have p1 := hI.frozen 0
    have HII := Lib.hid hI
    have HT := Lib.hid hTT
    have HBB := Lib.hid hB
    clear hI hI2 hB hT hTT hsp hlt2
    dsimp only
    gi_wp2
    refine ⟨KeepsOthers.setCell _ _ _, KeepR.set W (.inl (by simp; omega)) _, ⟨Ax, cx, ?_, ?_⟩, HBB.out.setCell (p := ⟨w1.heap.size, 0, none⟩) (by simp; omega) _⟩
    · rw [lastT_snoc]
      exact HII.out.set_ 0 (.slice Ax xl.length cx)
    · rw [lastT_snoc]
      exact own_mono (own_lo HT.out (grownBy_setCell W ⟨w1.heap.size, 0, none⟩ (.slice Ax xl.length cx)) (fun g e => by simp at e; omega)) (by omega)
  case done =>
    rintro D ys W hD hys ⟨⟨A', c', hI, hI2⟩, hB⟩ hK
    have hlen := payTo_len HI.out HWF.out (Nat.le_refl bs.length)
    rw [lastT_all HI.out hys, hlen] at hI hI2
    have p0 : W.cell? ⟨w1.heap.size, 0, none⟩ = some (.slice A' bs.length c') := hI.cell 0
    have HO := Lib.hid hI2
    have HBB := Lib.hid hB
    have HK := Lib.hid hK
    clear hI hI2 hB hK hlen
    go_wp2_with fail
    refine ⟨by simp, .inl ⟨_, _, rfl, run_takeDeferred HK.out, ?_⟩⟩
    refine ⟨.tuple #[.slice A' bs.length c', .int .i64 0], by simp [results, Tryz.results49, go_sem], A', c', rfl, own_cells HO.out (grownBy_putObj' W D (.deferred none)) (fun r e => by cases e; exact ⟨_, HK.out, rfl⟩), HBB.out.trans (belowK_b (w := w) (Nat.le_refl _) W D _ _ (by omega) HK.out rfl rfl)⟩
  case stop =>
    rintro D c pre W hD hpre2 hf hK
    exact hf.elim
end Go.Proofs.YtcigobiolbojhaaGreat.Vb

/- truth.pays, its function literal; truth.asked's function: what a buyer gains by some offers. -/
namespace Go.Proofs.YtcigobiolbojhaaGreat.Vb
open Go.RowKit

def payF (r : Int) : Value := if r = 1 then .func (.func 48) #[] #[] else if r = 2 then .func (.func 49) #[] #[] else .nilFunc
theorem pays_any (r : Int) (hr : -9223372036854775808 ≤ r ∧ r ≤ 9223372036854775807) (w : World) : Calls Tryz.prog 27 #[.int .i64 r] w fun e w' => e = .returned (payF r) ∧ w = w' := by
  by_cases h1 : r = 1
  · subst h1
    go_enter Tryz.func27, Tryz.ntmps27
    go_wp2_with fail
    go_ret
    exact ⟨rfl, rfl⟩
  · by_cases h2 : r = 2
    · subst h2
      go_enter Tryz.func27, Tryz.ntmps27
      go_wp2_with fail
      go_ret
      exact ⟨rfl, rfl⟩
    · have hp : payF r = .nilFunc := by unfold payF; rw [if_neg h1, if_neg h2]
      have e1 : (r == 1) = false := by simpa using h1
      have e2 : (r == 2) = false := by simpa using h2
      rw [hp]
      clear hp
      go_enter Tryz.func27, Tryz.ntmps27
      go_wp2_with fail
      go_ret
      exact ⟨rfl, rfl⟩

set_option maxHeartbeats 800000 in
theorem pays1_ok (n : Int) (bs : List (List Off)) (v : Value) (R : Nat → Prop) (w : World) (hl : Buys w R v bs) (hi : instE n bs = 0) :
    Calls Tryz.prog 48 #[.agg #[.int .i64 n, v]] w fun e w' => ∃ A' c', e = .returned (.tuple #[.slice A' bs.length c', .int .i64 0]) ∧ w'.ownsRow w.heap.size 2 1 (.slice A' bs.length c') bs.length (ints (paysC n bs)) ∧ Below w.heap.size w w' := by
  obtain ⟨_, ⟨_, A, cap, rfl, _⟩, _⟩ := id hl
  have HB := Lib.hid hl
  have HI := Lib.hid hi
  clear hl hi
  go_enter Tryz.func48, Tryz.ntmps48
  go_wp2_with fail
  refine (costs_ok n bs _ R _ (HB.out.alloc _) HI.out).mono ?_
  rintro e w1 ⟨A1, c1, A2, c2, rfl, ho1, ho2, hb1⟩
  have HO2 := Lib.hid (own_mono ho2 (show w.heap.size ≤ (w.alloc (.cells #[.int .i64 n, .slice A bs.length cap] 24)).heap.size by simp))
  have HB1 := Lib.hid (((Below.refl _ _).alloc (Nat.le_refl _) _).trans (hb1.mono (B' := w.heap.size) (by simp)))
  clear ho1 ho2 hb1
  go_wp2_with fail
  exact bodyPost_ret (v := .tuple #[.slice A2 bs.length c2, .int .i64 0]) (by simp [results, Tryz.results48, go_sem]) rfl ⟨_, _, rfl, own_alloc HO2.out _, HB1.out.alloc HB1.out.size _⟩

def payR (r : Int) (n : Int) (bs : List (List Off)) : List Int := if r = 1 then paysC n bs else payTo n bs bs.length
/-- what buyer k gains by the offers l -/
def byV (n : Int) (bs : List (List Off)) (k : Nat) (r : Int) (tr l : List Off) : Int :=
  if (bestC n (bs.set k l))[k]?.getD 0 < 0 then 0 else gainV tr ((l[((bestC n (bs.set k l))[k]?.getD 0).toNat]?.map (·.g)).getD 0) ((payR r n (bs.set k l))[k]?.getD 0)

/-- what a function that asked told holds -/
structure AskC (W : World) (R0 : Nat → Prop) (b5 b6 b12 b8 : Nat) (n : Int) (bs : List (List Off)) (k : Nat) (r : Int) (tr : List Off) (vb vt : Value) : Prop where
  x : Blk W b5 24 #[.int .i64 n, vb]
  b : Blk W b6 3 #[.int .i64 k]
  p : Blk W b12 71 #[payF r]
  t : Blk W b8 26 #[vt]
  hx : Buys W R0 vb bs
  ht : Offs W R0 vt tr
  l5 : R0 b5
  l6 : R0 b6
  l12 : R0 b12
  l8 : R0 b8
theorem AskC.grow {W W' : World} {lo : Nat → Prop} {b5 b6 b12 b8 : Nat} {n : Int} {bs : List (List Off)} {k : Nat} {r : Int} {tr : List Off} {vb vt : Value} (h : AskC W lo b5 b6 b12 b8 n bs k r tr vb vt) (hb : Below W.heap.size W W') : AskC W' lo b5 b6 b12 b8 n bs k r tr vb vt :=
  ⟨h.x.grow hb, h.b.grow hb, h.p.grow hb, h.t.grow hb, h.hx.grow hb, h.ht.grow hb, h.l5, h.l6, h.l12, h.l8⟩

theorem Blk.keep {W W' : World} {g : Nat} {t : TypeId} {cs : Array Value} (h : Blk W g t cs) (hk : W'.heap[g]? = W.heap[g]?) : Blk W' g t cs := hk.trans h
theorem Buys.keep {W W' : World} {R : Nat → Prop} {v : Value} {bs : List (List Off)} (h : Buys W R v bs) (hs : W.heap.size ≤ W'.heap.size) (hk : ∀ b, b < W.heap.size → R b → W'.heap[b]? = W.heap[b]?) : Buys W' R v bs := by
  obtain ⟨vs, h1, h2⟩ := h
  exact ⟨vs, h1.keep hs hk, fun k l hkl => by
    obtain ⟨u, hu, ho⟩ := h2 k l hkl
    exact ⟨u, hu, ho.1.keep hs hk, ho.2⟩⟩
theorem Buys.sized {W : World} {R : Nat → Prop} {v : Value} {bs : List (List Off)} (h : Buys W R v bs) : Buys W (fun b => R b ∧ b < W.heap.size) v bs := h.mono fun _ hlt hr => ⟨hr, hlt⟩
theorem AskC.keep {W W' : World} {R0 : Nat → Prop} {b5 b6 b12 b8 : Nat} {n : Int} {bs : List (List Off)} {k : Nat} {r : Int} {tr : List Off} {vb vt : Value} (h : AskC W R0 b5 b6 b12 b8 n bs k r tr vb vt) (hs : W.heap.size ≤ W'.heap.size) (hk : ∀ b, b < W.heap.size → R0 b → W'.heap[b]? = W.heap[b]?) : AskC W' R0 b5 b6 b12 b8 n bs k r tr vb vt :=
  ⟨h.x.keep (hk _ h.x.lt h.l5), h.b.keep (hk _ h.b.lt h.l6), h.p.keep (hk _ h.p.lt h.l12), h.t.keep (hk _ h.t.lt h.l8), h.hx.keep hs hk, ⟨h.ht.1.keep hs hk, h.ht.2⟩, h.l5, h.l6, h.l12, h.l8⟩
theorem AskC.mono {W : World} {R0 R1 : Nat → Prop} {b5 b6 b12 b8 : Nat} {n : Int} {bs : List (List Off)} {k : Nat} {r : Int} {tr : List Off} {vb vt : Value} (h : AskC W R0 b5 b6 b12 b8 n bs k r tr vb vt) (hR : ∀ b, b < W.heap.size → R0 b → R1 b) : AskC W R1 b5 b6 b12 b8 n bs k r tr vb vt :=
  ⟨h.x, h.b, h.p, h.t, h.hx.mono hR, h.ht.mono hR, hR _ h.x.lt h.l5, hR _ h.b.lt h.l6, hR _ h.p.lt h.l12, hR _ h.t.lt h.l8⟩

theorem checkE_len {n : Int} {l : List Off} (h : checkE n l = 0) : l.length ≤ 8 := by
  unfold checkE at h
  split at h
  · omega
  · split at h
    · omega
    · omega

set_option maxRecDepth 100000 in
set_option maxHeartbeats 3200000 in
theorem asked1_any (lo : Nat → Prop) (b5 b6 b12 b8 : Nat) (n : Int) (bs : List (List Off)) (k : Nat) (r : Int) (tr l : List Off) (vb vt vl : Value) (R : Nat → Prop) (w : World) (hA : AskC w lo b5 b6 b12 b8 n bs k r tr vb vt)
    (hr : r = 1 ∨ r = 2) (hi : instE n bs = 0) (hk : k < bs.length) (hl : Offs w R vl l) (hc : checkE n l = 0) :
    Calls Tryz.prog 31 #[vl, .pointer (some ⟨b5, 0, none⟩), .pointer (some ⟨b6, 0, none⟩), .pointer (some ⟨b12, 0, none⟩), .pointer (some ⟨b8, 0, none⟩)] w fun e w' => e = .returned (.int .i64 (byV n bs k r tr l)) ∧ Below w.heap.size w w' := by
  have HA := Lib.hid hA
  have HL := Lib.hid hl
  have hwe : withE n bs (k : Int) l = 0 := by rw [withE_in hi hk]; exact hc
  have hl8 := checkE_len hc
  have hys : instE n (bs.set k l) = 0 := instE_set hi hl8 hc
  obtain ⟨y, hy⟩ : ∃ y, y = bs.set k l := ⟨_, rfl⟩
  have hyl : y.length = bs.length := by rw [hy]; simp
  have hyk : y[k]? = some l := by rw [hy]; simp [hk]
  have hb32 : bs.length ≤ 32 := (instE_zero hi).2.2.1
  obtain ⟨c, hcc⟩ : ∃ c, (bestC n y)[k]? = some c := ⟨_, List.getElem?_eq_getElem (by rw [bestC_len, hyl]; exact hk)⟩
  have hyw : ∀ x ∈ y, ∀ o ∈ x, o.wf := by
    intro x hx o ho
    rw [hy] at hx
    rcases List.mem_or_eq_of_mem_set hx with h | h
    · exact hA.hx.wf x h o ho
    · subst h
      exact hl.2 o ho
  obtain ⟨p, hpp⟩ : ∃ p, (payR r n y)[k]? = some p := by
    have : (payR r n y).length = y.length := by
      unfold payR
      split
      · exact paysC_length n y
      · exact payTo_len (hy ▸ hys) hyw (Nat.le_refl _)
    exact ⟨_, List.getElem?_eq_getElem (by rw [this, hyl]; exact hk)⟩
  have hval : byV n bs k r tr l = if c < 0 then 0 else gainV tr ((l[c.toNat]?.map (·.g)).getD 0) p := by
    unfold byV
    rw [← hy, hcc, hpp]
    rfl
  obtain ⟨ans, hans⟩ : ∃ z, z = byV n bs k r tr l := ⟨_, rfl⟩
  rw [← hans]
  rw [hval] at hans
  have HANS := Lib.hid hans
  clear hans
  have hcg : c = -1 ∨ ∃ (j : Nat) (o : Off), c = (j : Int) ∧ l[j]? = some o := by
    rcases choose_get _ _ _ _ hcc with h | ⟨j, l', o, h1, h2, h3⟩
    · exact .inl h
    · rw [hyk] at h2
      injection h2 with h2
      subst h2
      exact .inr ⟨j, o, h1, h3⟩
  have HY := Lib.hid hy
  have HYI := Lib.hid (hy ▸ hys : instE n y = 0)
  have HWE := Lib.hid hwe
  have HYL := Lib.hid hyl
  have HC := Lib.hid hcc
  have HPP := Lib.hid hpp
  obtain ⟨_, ⟨_, Ab, capb, rfl, _⟩, _⟩ := id hA.hx
  obtain ⟨⟨_, At, capt, rfl, _⟩, _⟩ := id hA.ht
  obtain ⟨⟨_, Al, capl, rfl, _⟩, hlwf⟩ := id hl
  obtain ⟨x0, x1, xb, xp, xt⟩ : w.cell? ⟨b5, 0, none⟩ = some (.int .i64 n) ∧ w.cell? ⟨b5, 1, none⟩ = some (.slice Ab bs.length capb) ∧ w.cell? ⟨b6, 0, none⟩ = some (.int .i64 k) ∧ w.cell? ⟨b12, 0, none⟩ = some (payF r) ∧ w.cell? ⟨b8, 0, none⟩ = some (.slice At tr.length capt) :=
    ⟨hA.x.cell 0, hA.x.cell 1, hA.b.cell 0, hA.p.cell 0, hA.t.cell 0⟩
  have HWF := Lib.hid hlwf
  clear hA hl hwe hys hy hyk hyl hcc hpp hval hi hc hyw hlwf
  have e0 : (0 : Int) ≤ (k : Int) := by omega
  have e1 : (k : Int) < (bs.length : Int) := by omega
  go_enter Tryz.func31, Tryz.ntmps31
  go_wp2_with fail
  refine (with_ok n bs (k : Int) l _ _ _ R w HA.out.hx HL.out HWE.out).mono ?_
  rintro e w1 ⟨A1, c1, rfl, hob1, hb1⟩
  have HA1 := Lib.hid (HA.out.grow hb1)
  rw [Int.toNat_natCast, ← HY.out] at hob1
  have HY1 := Lib.hid hob1.buys
  have HB1 := Lib.hid hb1
  clear hob1 hb1 x0 x1 xb xp xt
  go_wp2_with fail
  have hbz1 := (HY1.out.alloc (.cells #[.int .i64 n, .slice A1 bs.length c1] 24)).any
  have hz1 := Blk.new w1 24 #[.int .i64 n, .slice A1 bs.length c1]
  have ha1 := HA1.out.grow ((Below.refl w1.heap.size w1).alloc (Nat.le_refl _) (.cells #[.int .i64 n, .slice A1 bs.length c1] 24))
  have hbb1 := HB1.out.alloc HB1.out.size (.cells #[.int .i64 n, .slice A1 bs.length c1] 24)
  obtain ⟨z1, hz⟩ : ∃ V, V = w1.alloc (.cells #[.int .i64 n, .slice A1 bs.length c1] 24) := ⟨_, rfl⟩
  rw [← hz] at hbz1 hz1 ha1 hbb1 ⊢
  have HBZ := Lib.hid hbz1
  have HZ1 := Lib.hid hz1
  have HAZ := Lib.hid ha1
  have HBB := Lib.hid hbb1
  clear hz hbz1 hz1 ha1 hbb1
  refine (costs_ok n y _ _ z1 HBZ.out HYI.out).mono ?_
  rintro e w2 ⟨A2, c2, A3, c3, rfl, ho2, ho3, hb2⟩
  rw [HYL.out] at ho2 ho3 ⊢
  obtain ⟨T, hT⟩ : ∃ T, T = W y (allOf n) := ⟨_, rfl⟩
  rw [← hT]
  have hal2 := hb2.alloc hb2.size (.cells #[.slice A2 bs.length c2, .int .i64 T, .slice A3 bs.length c3] 81)
  have hq2 := Blk.new w2 81 #[.slice A2 bs.length c2, .int .i64 T, .slice A3 bs.length c3]
  have hbest := Sl.of_own (own_alloc ho2 (.cells #[.slice A2 bs.length c2, .int .i64 T, .slice A3 bs.length c3] 81))
  have xp : (w2.alloc (.cells #[.slice A2 bs.length c2, .int .i64 T, .slice A3 bs.length c3] 81)).cell? ⟨b12, 0, none⟩ = some (payF r) := (HAZ.out.grow hal2).p.cell 0
  have xz0 : (w2.alloc (.cells #[.slice A2 bs.length c2, .int .i64 T, .slice A3 bs.length c3] 81)).cell? ⟨w1.heap.size, 0, none⟩ = some (.int .i64 n) := (HZ1.out.grow hal2).cell 0
  have xz1 : (w2.alloc (.cells #[.slice A2 bs.length c2, .int .i64 T, .slice A3 bs.length c3] 81)).cell? ⟨w1.heap.size, 1, none⟩ = some (.slice A1 bs.length c1) := (HZ1.out.grow hal2).cell 1
  clear hT
  have HAL2 := Lib.hid hal2
  have HQ2 := Lib.hid hq2
  have HBE := Lib.hid hbest
  clear ho2 ho3 hb2 hal2 hq2 hbest
  rcases hr with rfl | rfl
  · have hpf : payF 1 = .func (.func 48) #[] #[] := rfl
    have hpp1 : (paysC n y)[k]? = some p := by
      have h := HPP.out
      unfold payR at h
      rwa [if_pos rfl] at h
    obtain ⟨ps, hps⟩ : ∃ z, z = paysC n y := ⟨_, rfl⟩
    rw [← hps] at hpp1
    have HPS := Lib.hid hps
    have HPP1 := Lib.hid hpp1
    rw [hpf] at xp
    clear hpp1 hps hpf
    go_wp2_with fail
    obtain ⟨z2, hz2⟩ : ∃ V, V = w2.alloc (.cells #[.slice A2 bs.length c2, .int .i64 T, .slice A3 bs.length c3] 81) := ⟨_, rfl⟩
    have HZ2 := Lib.hid hz2
    rw [← hz2]
    have HBZ2 := Lib.hid (show Buys z2 (fun _ => True) (.slice A1 bs.length c1) y from by rw [HZ2.out]; exact HBZ.out.grow HAL2.out)
    refine (pays1_ok n y _ _ z2 HBZ2.out HYI.out).mono ?_
    rintro e w3 ⟨A4, c4, rfl, ho4, hb4⟩
    rw [← HPS.out, HYL.out] at ho4
    rw [HYL.out]
    have hq3 : Blk w3 w2.heap.size 81 #[.slice A2 bs.length c2, .int .i64 T, .slice A3 bs.length c3] := (show Blk z2 w2.heap.size 81 #[.slice A2 bs.length c2, .int .i64 T, .slice A3 bs.length c3] from by rw [HZ2.out]; exact HQ2.out).grow hb4
    have ha3 := (show AskC z2 lo b5 b6 b12 b8 n bs k 1 tr (.slice Ab bs.length capb) (.slice At tr.length capt) from by rw [HZ2.out]; exact HAZ.out.grow HAL2.out).grow hb4
    have hbe3 := (show Sl z2 _ (.slice A2 bs.length c2) bs.length 1 (ints (bestC n y)) from by rw [HZ2.out]; exact HBE.out).grow hb4
    have hbb3 : Below w.heap.size w w3 := (show Below w.heap.size w z2 from by rw [HZ2.out]; exact HBB.out.trans (HAL2.out.mono HBB.out.size)).trans (hb4.mono (by rw [HZ2.out]; exact (HBB.out.trans (HAL2.out.mono HBB.out.size)).size))
    have xq : w3.cell? ⟨w2.heap.size, 0, none⟩ = some (.slice A2 bs.length c2) := hq3.cell 0
    have xb : w3.cell? ⟨b6, 0, none⟩ = some (.int .i64 k) := ha3.b.cell 0
    have xt : w3.cell? ⟨b8, 0, none⟩ = some (.slice At tr.length capt) := ha3.t.cell 0
    have hxt := World.block_lt_of_cell? _ _ xt
    have hxb := World.block_lt_of_cell? _ _ xb
    obtain ⟨g2, of2, c', rfl, hg2, hc', xc⟩ := hbe3.int_at hk
    rw [HC.out] at hc'
    injection hc' with hc'
    subst hc'
    obtain ⟨g4, of4, p', rfl, hg4, hp', xp4⟩ := (Sl.of_own ho4).int_at hk
    rw [HPP1.out] at hp'
    injection hp' with hp'
    subst hp'
    have HA3 := Lib.hid ha3
    have HBB3 := Lib.hid hbb3
    clear ho4 hb4 hq3 ha3 hbe3 hbb3 xp xz0 xz1 hz2
    rcases hcg with rfl | ⟨j, o, rfl, hj⟩
    · have HAN2 := Lib.hid (show ans = 0 from by rw [HANS.out, if_pos (by decide)])
      go_wp2_with fail
      go_ret
      exact ⟨by rw [HAN2.out]; rfl, HBB3.out⟩
    · obtain ⟨gl, ofl, rfl, hgl, l0, l1⟩ := (HL.out.grow HBB3.out).at_ hj
      have hwo := HWF.out o (List.mem_of_getElem? hj)
      unfold Off.wf at hwo
      have hgv : (if (j : Int) < 0 then (0 : Int) else gainV tr ((l[((j : Nat) : Int).toNat]?.map (·.g)).getD 0) p) = gainV tr o.g p := by
        rw [if_neg (by omega), Int.toNat_natCast, hj]
        rfl
      have HAN2 := Lib.hid (show ans = gainV tr o.g p from by rw [HANS.out, hgv])
      have hjl : j < l.length := (List.getElem?_eq_some_iff.1 hj).1
      have f1 : (j : Int) < (l.length : Int) := by omega
      have f0 : (0 : Int) ≤ (j : Int) := by omega
      have f2 : ((j : Int) < 0) = False := by simp
      obtain ⟨og, oc⟩ := o
      simp only at l0 l1 hwo ⊢
      obtain ⟨gv, hgvv⟩ : ∃ z, z = gainV tr og p := ⟨_, rfl⟩
      have HGV := Lib.hid hgvv
      clear hgv hj hgvv
      go_wp2_with fail
      refine wp_region_F (Below w3.heap.size w3) [] (by kernel_rfl) ((Below.refl _ _).drew) (fun hS => ?_)
      refine wpAnyF_take (i := 0) (oi := { dst := some 39, op := Go.Op.load 26 (Go.Operand.tmp 4), type := 26, pos := "truth.go:114", after := #[], guard := none }) (v := ?_) rfl (by kernel_rfl) (by kernel_rfl) (by kernel_rfl) (by kernel_rfl) (fun _ _ _ h => h) (Or.inl ⟨by rfl, ?_⟩) hS ?_
      rotate_left
      · intro w' hSw; have q1 := (hSw.cell (p := ⟨b8, 0, none⟩) hxt).trans xt; have q2 := (hSw.cell (p := ⟨b6, 0, none⟩) hxb).trans xb; have q3 := (hSw.cell (p := ⟨gl, ofl + j * 2, none⟩) hgl).trans l0; have q4 := (hSw.cell (p := ⟨g4, of4 + k, none⟩) hg4).trans xp4; go_simp; try with_reducible rfl
      try simp only [Act.put, List.setIfInBounds_toArray, List.set_cons_zero, List.set_cons_succ]
      refine wpAnyF_take (i := 1) (oi := { dst := some 40, op := Go.Op.move (Go.Operand.tmp 0), type := 26, pos := "truth.go:114", after := #[], guard := none }) (v := ?_) rfl (by kernel_rfl) (by kernel_rfl) (by kernel_rfl) (by kernel_rfl) (fun _ _ _ h => h) (Or.inl ⟨by rfl, ?_⟩) hS ?_
      rotate_left
      · intro w' hSw; have q1 := (hSw.cell (p := ⟨b8, 0, none⟩) hxt).trans xt; have q2 := (hSw.cell (p := ⟨b6, 0, none⟩) hxb).trans xb; have q3 := (hSw.cell (p := ⟨gl, ofl + j * 2, none⟩) hgl).trans l0; have q4 := (hSw.cell (p := ⟨g4, of4 + k, none⟩) hg4).trans xp4; go_simp; try with_reducible rfl
      try simp only [Act.put, List.setIfInBounds_toArray, List.set_cons_zero, List.set_cons_succ]
      refine wpAnyF_take (i := 2) (oi := { dst := some 41, op := Go.Op.move (Go.Operand.tmp 13), type := 3, pos := "truth.go:114", after := #[], guard := none }) (v := ?_) rfl (by kernel_rfl) (by kernel_rfl) (by kernel_rfl) (by kernel_rfl) (fun _ _ _ h => h) (Or.inl ⟨by rfl, ?_⟩) hS ?_
      rotate_left
      · intro w' hSw; have q1 := (hSw.cell (p := ⟨b8, 0, none⟩) hxt).trans xt; have q2 := (hSw.cell (p := ⟨b6, 0, none⟩) hxb).trans xb; have q3 := (hSw.cell (p := ⟨gl, ofl + j * 2, none⟩) hgl).trans l0; have q4 := (hSw.cell (p := ⟨g4, of4 + k, none⟩) hg4).trans xp4; go_simp; try with_reducible rfl
      try simp only [Act.put, List.setIfInBounds_toArray, List.set_cons_zero, List.set_cons_succ]
      refine wpAnyF_take (i := 3) (oi := { dst := some 42, op := Go.Op.indexAddr 26 (Go.Operand.tmp 40) (Go.Operand.tmp 41), type := 0, pos := "truth.go:114", after := #[{ on := 1, ground := Go.Ground.data }, { on := 2, ground := Go.Ground.data }], guard := none }) (v := ?_) rfl (by kernel_rfl) (by kernel_rfl) (by kernel_rfl) (by kernel_rfl) (fun _ _ _ h => h) (Or.inl ⟨by rfl, ?_⟩) hS ?_
      rotate_left
      · intro w' hSw; have q1 := (hSw.cell (p := ⟨b8, 0, none⟩) hxt).trans xt; have q2 := (hSw.cell (p := ⟨b6, 0, none⟩) hxb).trans xb; have q3 := (hSw.cell (p := ⟨gl, ofl + j * 2, none⟩) hgl).trans l0; have q4 := (hSw.cell (p := ⟨g4, of4 + k, none⟩) hg4).trans xp4; go_simp; try with_reducible rfl
      try simp only [Act.put, List.setIfInBounds_toArray, List.set_cons_zero, List.set_cons_succ]
      refine wpAnyF_take (i := 4) (oi := { dst := some 43, op := Go.Op.fieldAddr 53 (Go.Operand.tmp 42) 0, type := 0, pos := "truth.go:114", after := #[{ on := 3, ground := Go.Ground.data }], guard := none }) (v := ?_) rfl (by kernel_rfl) (by kernel_rfl) (by kernel_rfl) (by kernel_rfl) (fun _ _ _ h => h) (Or.inl ⟨by rfl, ?_⟩) hS ?_
      rotate_left
      · intro w' hSw; have q1 := (hSw.cell (p := ⟨b8, 0, none⟩) hxt).trans xt; have q2 := (hSw.cell (p := ⟨b6, 0, none⟩) hxb).trans xb; have q3 := (hSw.cell (p := ⟨gl, ofl + j * 2, none⟩) hgl).trans l0; have q4 := (hSw.cell (p := ⟨g4, of4 + k, none⟩) hg4).trans xp4; go_simp; try with_reducible rfl
      try simp only [Act.put, List.setIfInBounds_toArray, List.set_cons_zero, List.set_cons_succ]
      refine wpAnyF_take (i := 5) (oi := { dst := some 44, op := Go.Op.load 51 (Go.Operand.tmp 43), type := 51, pos := "truth.go:114", after := #[{ on := 4, ground := Go.Ground.data }], guard := none }) (v := ?_) rfl (by kernel_rfl) (by kernel_rfl) (by kernel_rfl) (by kernel_rfl) (fun _ _ _ h => h) (Or.inl ⟨by rfl, ?_⟩) hS ?_
      rotate_left
      · intro w' hSw; have q1 := (hSw.cell (p := ⟨b8, 0, none⟩) hxt).trans xt; have q2 := (hSw.cell (p := ⟨b6, 0, none⟩) hxb).trans xb; have q3 := (hSw.cell (p := ⟨gl, ofl + j * 2, none⟩) hgl).trans l0; have q4 := (hSw.cell (p := ⟨g4, of4 + k, none⟩) hg4).trans xp4; go_simp; try with_reducible rfl
      try simp only [Act.put, List.setIfInBounds_toArray, List.set_cons_zero, List.set_cons_succ]
      refine wpAnyF_take (i := 6) (oi := { dst := some 45, op := Go.Op.move (Go.Operand.tmp 11), type := 37, pos := "truth.go:114", after := #[], guard := none }) (v := ?_) rfl (by kernel_rfl) (by kernel_rfl) (by kernel_rfl) (by kernel_rfl) (fun _ _ _ h => h) (Or.inl ⟨by rfl, ?_⟩) hS ?_
      rotate_left
      · intro w' hSw; have q1 := (hSw.cell (p := ⟨b8, 0, none⟩) hxt).trans xt; have q2 := (hSw.cell (p := ⟨b6, 0, none⟩) hxb).trans xb; have q3 := (hSw.cell (p := ⟨gl, ofl + j * 2, none⟩) hgl).trans l0; have q4 := (hSw.cell (p := ⟨g4, of4 + k, none⟩) hg4).trans xp4; go_simp; try with_reducible rfl
      try simp only [Act.put, List.setIfInBounds_toArray, List.set_cons_zero, List.set_cons_succ]
      refine wpAnyF_take (i := 7) (oi := { dst := some 46, op := Go.Op.load 3 (Go.Operand.tmp 2), type := 3, pos := "truth.go:114", after := #[], guard := none }) (v := ?_) rfl (by kernel_rfl) (by kernel_rfl) (by kernel_rfl) (by kernel_rfl) (fun _ _ _ h => h) (Or.inl ⟨by rfl, ?_⟩) hS ?_
      rotate_left
      · intro w' hSw; have q1 := (hSw.cell (p := ⟨b8, 0, none⟩) hxt).trans xt; have q2 := (hSw.cell (p := ⟨b6, 0, none⟩) hxb).trans xb; have q3 := (hSw.cell (p := ⟨gl, ofl + j * 2, none⟩) hgl).trans l0; have q4 := (hSw.cell (p := ⟨g4, of4 + k, none⟩) hg4).trans xp4; go_simp; try with_reducible rfl
      try simp only [Act.put, List.setIfInBounds_toArray, List.set_cons_zero, List.set_cons_succ]
      refine wpAnyF_take (i := 8) (oi := { dst := some 47, op := Go.Op.indexAddr 37 (Go.Operand.tmp 45) (Go.Operand.tmp 46), type := 0, pos := "truth.go:114", after := #[{ on := 6, ground := Go.Ground.data }, { on := 7, ground := Go.Ground.data }], guard := none }) (v := ?_) rfl (by kernel_rfl) (by kernel_rfl) (by kernel_rfl) (by kernel_rfl) (fun _ _ _ h => h) (Or.inl ⟨by rfl, ?_⟩) hS ?_
      rotate_left
      · intro w' hSw; have q1 := (hSw.cell (p := ⟨b8, 0, none⟩) hxt).trans xt; have q2 := (hSw.cell (p := ⟨b6, 0, none⟩) hxb).trans xb; have q3 := (hSw.cell (p := ⟨gl, ofl + j * 2, none⟩) hgl).trans l0; have q4 := (hSw.cell (p := ⟨g4, of4 + k, none⟩) hg4).trans xp4; go_simp; try with_reducible rfl
      try simp only [Act.put, List.setIfInBounds_toArray, List.set_cons_zero, List.set_cons_succ]
      refine wpAnyF_take (i := 9) (oi := { dst := some 48, op := Go.Op.load 2 (Go.Operand.tmp 47), type := 2, pos := "truth.go:114", after := #[{ on := 8, ground := Go.Ground.data }], guard := none }) (v := ?_) rfl (by kernel_rfl) (by kernel_rfl) (by kernel_rfl) (by kernel_rfl) (fun _ _ _ h => h) (Or.inl ⟨by rfl, ?_⟩) hS ?_
      rotate_left
      · intro w' hSw; have q1 := (hSw.cell (p := ⟨b8, 0, none⟩) hxt).trans xt; have q2 := (hSw.cell (p := ⟨b6, 0, none⟩) hxb).trans xb; have q3 := (hSw.cell (p := ⟨gl, ofl + j * 2, none⟩) hgl).trans l0; have q4 := (hSw.cell (p := ⟨g4, of4 + k, none⟩) hg4).trans xp4; go_simp; try with_reducible rfl
      try simp only [Act.put, List.setIfInBounds_toArray, List.set_cons_zero, List.set_cons_succ]
      refine wpAnyF_ready (rs := [10]) (by kernel_rfl) (by simp) ?_
      refine AllReadyF.cons (o := { dst := some 49, op := Go.Op.call { callee := Go.Callee.value (Go.Operand.func 34), args := #[Go.Operand.tmp 39, Go.Operand.tmp 44, Go.Operand.tmp 48], argTypes := #[26, 51, 2] }, type := 2, pos := "truth.go:114", after := #[{ on := 0, ground := Go.Ground.data }, { on := 5, ground := Go.Ground.data }, { on := 9, ground := Go.Ground.data }], guard := none }) rfl (by rfl) (fun K hK => ?_) ?_
      · go_simp
        refine (gain_any tr og hwo.1 p _ _ _ (HA3.out.ht.grow (Below.refl _ _).drew)).mono ?_
        rintro e w5 ⟨rfl, hb5⟩
        rw [← HGV.out]
        refine hK.out _ _ ?_ (fun hS => ?_)
        · exact (Below.refl w3.heap.size w3).drew.trans (hb5.mono (by simp))
        clear hK K
        try simp only [Act.put, List.setIfInBounds_toArray, List.set_cons_zero, List.set_cons_succ]
        have HB5 := Lib.hid hb5
        have hs5 := hb5.size
        clear hb5
        refine wpAnyF_take (i := 11) (oi := { dst := some 6, op := Go.Op.assign (Go.Operand.tmp 49), type := 2, pos := "truth.go:114", after := #[{ on := 10, ground := Go.Ground.data }, { on := 10, ground := Go.Ground.chain }, { on := 0, ground := Go.Ground.phase }, { on := 1, ground := Go.Ground.phase }, { on := 2, ground := Go.Ground.phase }, { on := 3, ground := Go.Ground.phase }, { on := 4, ground := Go.Ground.phase }, { on := 5, ground := Go.Ground.phase }, { on := 6, ground := Go.Ground.phase }, { on := 7, ground := Go.Ground.phase }, { on := 8, ground := Go.Ground.phase }, { on := 9, ground := Go.Ground.phase }, { on := 10, ground := Go.Ground.phase }], guard := none }) (v := ?_) rfl (by kernel_rfl) (by kernel_rfl) (by kernel_rfl) (by kernel_rfl) (fun _ _ _ h => h) (Or.inl ⟨by rfl, ?_⟩) hS ?_
        rotate_left
        · intro w' hSw; have q1 := (hSw.cell (p := ⟨b8, 0, none⟩) hxt).trans xt; have q2 := (hSw.cell (p := ⟨b6, 0, none⟩) hxb).trans xb; have q3 := (hSw.cell (p := ⟨gl, ofl + j * 2, none⟩) hgl).trans l0; have q4 := (hSw.cell (p := ⟨g4, of4 + k, none⟩) hg4).trans xp4; go_simp; try with_reducible rfl
        try simp only [Act.put, List.setIfInBounds_toArray, List.set_cons_zero, List.set_cons_succ]
        refine wpAnyF_done (by kernel_rfl) ?_ _
        go_wp2_with fail
        go_ret
        exact ⟨by rw [HAN2.out, ← HGV.out]; rfl, HBB3.out.drew.trans (HB5.out.mono (by have := HBB3.out.size; simp; omega))⟩
      exact AllReadyF.nil
  · have hpf : payF 2 = .func (.func 49) #[] #[] := rfl
    have hpp1 : (payTo n y y.length)[k]? = some p := by
      have h := HPP.out
      unfold payR at h
      rwa [if_neg (by decide)] at h
    obtain ⟨ps, hps⟩ : ∃ z, z = payTo n y y.length := ⟨_, rfl⟩
    rw [← hps] at hpp1
    have HPS := Lib.hid hps
    have HPP1 := Lib.hid hpp1
    rw [hpf] at xp
    clear hpp1 hps hpf
    go_wp2_with fail
    obtain ⟨z2, hz2⟩ : ∃ V, V = w2.alloc (.cells #[.slice A2 bs.length c2, .int .i64 T, .slice A3 bs.length c3] 81) := ⟨_, rfl⟩
    have HZ2 := Lib.hid hz2
    rw [← hz2]
    have HBZ2 := Lib.hid (show Buys z2 (fun _ => True) (.slice A1 bs.length c1) y from by rw [HZ2.out]; exact HBZ.out.grow HAL2.out)
    refine (corePay_ok n y _ _ z2 HBZ2.out HYI.out).mono ?_
    rintro e w3 ⟨A4, c4, rfl, ho4, hb4⟩
    rw [← HPS.out, HYL.out] at ho4
    rw [HYL.out]
    have hq3 : Blk w3 w2.heap.size 81 #[.slice A2 bs.length c2, .int .i64 T, .slice A3 bs.length c3] := (show Blk z2 w2.heap.size 81 #[.slice A2 bs.length c2, .int .i64 T, .slice A3 bs.length c3] from by rw [HZ2.out]; exact HQ2.out).grow hb4
    have ha3 := (show AskC z2 lo b5 b6 b12 b8 n bs k 2 tr (.slice Ab bs.length capb) (.slice At tr.length capt) from by rw [HZ2.out]; exact HAZ.out.grow HAL2.out).grow hb4
    have hbe3 := (show Sl z2 _ (.slice A2 bs.length c2) bs.length 1 (ints (bestC n y)) from by rw [HZ2.out]; exact HBE.out).grow hb4
    have hbb3 : Below w.heap.size w w3 := (show Below w.heap.size w z2 from by rw [HZ2.out]; exact HBB.out.trans (HAL2.out.mono HBB.out.size)).trans (hb4.mono (by rw [HZ2.out]; exact (HBB.out.trans (HAL2.out.mono HBB.out.size)).size))
    have xq : w3.cell? ⟨w2.heap.size, 0, none⟩ = some (.slice A2 bs.length c2) := hq3.cell 0
    have xb : w3.cell? ⟨b6, 0, none⟩ = some (.int .i64 k) := ha3.b.cell 0
    have xt : w3.cell? ⟨b8, 0, none⟩ = some (.slice At tr.length capt) := ha3.t.cell 0
    have hxt := World.block_lt_of_cell? _ _ xt
    have hxb := World.block_lt_of_cell? _ _ xb
    obtain ⟨g2, of2, c', rfl, hg2, hc', xc⟩ := hbe3.int_at hk
    rw [HC.out] at hc'
    injection hc' with hc'
    subst hc'
    obtain ⟨g4, of4, p', rfl, hg4, hp', xp4⟩ := (Sl.of_own ho4).int_at hk
    rw [HPP1.out] at hp'
    injection hp' with hp'
    subst hp'
    have HA3 := Lib.hid ha3
    have HBB3 := Lib.hid hbb3
    clear ho4 hb4 hq3 ha3 hbe3 hbb3 xp xz0 xz1 hz2
    rcases hcg with rfl | ⟨j, o, rfl, hj⟩
    · have HAN2 := Lib.hid (show ans = 0 from by rw [HANS.out, if_pos (by decide)])
      go_wp2_with fail
      go_ret
      exact ⟨by rw [HAN2.out]; rfl, HBB3.out⟩
    · obtain ⟨gl, ofl, rfl, hgl, l0, l1⟩ := (HL.out.grow HBB3.out).at_ hj
      have hwo := HWF.out o (List.mem_of_getElem? hj)
      unfold Off.wf at hwo
      have hgv : (if (j : Int) < 0 then (0 : Int) else gainV tr ((l[((j : Nat) : Int).toNat]?.map (·.g)).getD 0) p) = gainV tr o.g p := by
        rw [if_neg (by omega), Int.toNat_natCast, hj]
        rfl
      have HAN2 := Lib.hid (show ans = gainV tr o.g p from by rw [HANS.out, hgv])
      have hjl : j < l.length := (List.getElem?_eq_some_iff.1 hj).1
      have f1 : (j : Int) < (l.length : Int) := by omega
      have f0 : (0 : Int) ≤ (j : Int) := by omega
      have f2 : ((j : Int) < 0) = False := by simp
      obtain ⟨og, oc⟩ := o
      simp only at l0 l1 hwo ⊢
      obtain ⟨gv, hgvv⟩ : ∃ z, z = gainV tr og p := ⟨_, rfl⟩
      have HGV := Lib.hid hgvv
      clear hgv hj hgvv
      go_wp2_with fail
      refine wp_region_F (Below w3.heap.size w3) [] (by kernel_rfl) ((Below.refl _ _).drew) (fun hS => ?_)
      refine wpAnyF_take (i := 0) (oi := { dst := some 39, op := Go.Op.load 26 (Go.Operand.tmp 4), type := 26, pos := "truth.go:114", after := #[], guard := none }) (v := ?_) rfl (by kernel_rfl) (by kernel_rfl) (by kernel_rfl) (by kernel_rfl) (fun _ _ _ h => h) (Or.inl ⟨by rfl, ?_⟩) hS ?_
      rotate_left
      · intro w' hSw; have q1 := (hSw.cell (p := ⟨b8, 0, none⟩) hxt).trans xt; have q2 := (hSw.cell (p := ⟨b6, 0, none⟩) hxb).trans xb; have q3 := (hSw.cell (p := ⟨gl, ofl + j * 2, none⟩) hgl).trans l0; have q4 := (hSw.cell (p := ⟨g4, of4 + k, none⟩) hg4).trans xp4; go_simp; try with_reducible rfl
      try simp only [Act.put, List.setIfInBounds_toArray, List.set_cons_zero, List.set_cons_succ]
      refine wpAnyF_take (i := 1) (oi := { dst := some 40, op := Go.Op.move (Go.Operand.tmp 0), type := 26, pos := "truth.go:114", after := #[], guard := none }) (v := ?_) rfl (by kernel_rfl) (by kernel_rfl) (by kernel_rfl) (by kernel_rfl) (fun _ _ _ h => h) (Or.inl ⟨by rfl, ?_⟩) hS ?_
      rotate_left
      · intro w' hSw; have q1 := (hSw.cell (p := ⟨b8, 0, none⟩) hxt).trans xt; have q2 := (hSw.cell (p := ⟨b6, 0, none⟩) hxb).trans xb; have q3 := (hSw.cell (p := ⟨gl, ofl + j * 2, none⟩) hgl).trans l0; have q4 := (hSw.cell (p := ⟨g4, of4 + k, none⟩) hg4).trans xp4; go_simp; try with_reducible rfl
      try simp only [Act.put, List.setIfInBounds_toArray, List.set_cons_zero, List.set_cons_succ]
      refine wpAnyF_take (i := 2) (oi := { dst := some 41, op := Go.Op.move (Go.Operand.tmp 13), type := 3, pos := "truth.go:114", after := #[], guard := none }) (v := ?_) rfl (by kernel_rfl) (by kernel_rfl) (by kernel_rfl) (by kernel_rfl) (fun _ _ _ h => h) (Or.inl ⟨by rfl, ?_⟩) hS ?_
      rotate_left
      · intro w' hSw; have q1 := (hSw.cell (p := ⟨b8, 0, none⟩) hxt).trans xt; have q2 := (hSw.cell (p := ⟨b6, 0, none⟩) hxb).trans xb; have q3 := (hSw.cell (p := ⟨gl, ofl + j * 2, none⟩) hgl).trans l0; have q4 := (hSw.cell (p := ⟨g4, of4 + k, none⟩) hg4).trans xp4; go_simp; try with_reducible rfl
      try simp only [Act.put, List.setIfInBounds_toArray, List.set_cons_zero, List.set_cons_succ]
      refine wpAnyF_take (i := 3) (oi := { dst := some 42, op := Go.Op.indexAddr 26 (Go.Operand.tmp 40) (Go.Operand.tmp 41), type := 0, pos := "truth.go:114", after := #[{ on := 1, ground := Go.Ground.data }, { on := 2, ground := Go.Ground.data }], guard := none }) (v := ?_) rfl (by kernel_rfl) (by kernel_rfl) (by kernel_rfl) (by kernel_rfl) (fun _ _ _ h => h) (Or.inl ⟨by rfl, ?_⟩) hS ?_
      rotate_left
      · intro w' hSw; have q1 := (hSw.cell (p := ⟨b8, 0, none⟩) hxt).trans xt; have q2 := (hSw.cell (p := ⟨b6, 0, none⟩) hxb).trans xb; have q3 := (hSw.cell (p := ⟨gl, ofl + j * 2, none⟩) hgl).trans l0; have q4 := (hSw.cell (p := ⟨g4, of4 + k, none⟩) hg4).trans xp4; go_simp; try with_reducible rfl
      try simp only [Act.put, List.setIfInBounds_toArray, List.set_cons_zero, List.set_cons_succ]
      refine wpAnyF_take (i := 4) (oi := { dst := some 43, op := Go.Op.fieldAddr 53 (Go.Operand.tmp 42) 0, type := 0, pos := "truth.go:114", after := #[{ on := 3, ground := Go.Ground.data }], guard := none }) (v := ?_) rfl (by kernel_rfl) (by kernel_rfl) (by kernel_rfl) (by kernel_rfl) (fun _ _ _ h => h) (Or.inl ⟨by rfl, ?_⟩) hS ?_
      rotate_left
      · intro w' hSw; have q1 := (hSw.cell (p := ⟨b8, 0, none⟩) hxt).trans xt; have q2 := (hSw.cell (p := ⟨b6, 0, none⟩) hxb).trans xb; have q3 := (hSw.cell (p := ⟨gl, ofl + j * 2, none⟩) hgl).trans l0; have q4 := (hSw.cell (p := ⟨g4, of4 + k, none⟩) hg4).trans xp4; go_simp; try with_reducible rfl
      try simp only [Act.put, List.setIfInBounds_toArray, List.set_cons_zero, List.set_cons_succ]
      refine wpAnyF_take (i := 5) (oi := { dst := some 44, op := Go.Op.load 51 (Go.Operand.tmp 43), type := 51, pos := "truth.go:114", after := #[{ on := 4, ground := Go.Ground.data }], guard := none }) (v := ?_) rfl (by kernel_rfl) (by kernel_rfl) (by kernel_rfl) (by kernel_rfl) (fun _ _ _ h => h) (Or.inl ⟨by rfl, ?_⟩) hS ?_
      rotate_left
      · intro w' hSw; have q1 := (hSw.cell (p := ⟨b8, 0, none⟩) hxt).trans xt; have q2 := (hSw.cell (p := ⟨b6, 0, none⟩) hxb).trans xb; have q3 := (hSw.cell (p := ⟨gl, ofl + j * 2, none⟩) hgl).trans l0; have q4 := (hSw.cell (p := ⟨g4, of4 + k, none⟩) hg4).trans xp4; go_simp; try with_reducible rfl
      try simp only [Act.put, List.setIfInBounds_toArray, List.set_cons_zero, List.set_cons_succ]
      refine wpAnyF_take (i := 6) (oi := { dst := some 45, op := Go.Op.move (Go.Operand.tmp 11), type := 37, pos := "truth.go:114", after := #[], guard := none }) (v := ?_) rfl (by kernel_rfl) (by kernel_rfl) (by kernel_rfl) (by kernel_rfl) (fun _ _ _ h => h) (Or.inl ⟨by rfl, ?_⟩) hS ?_
      rotate_left
      · intro w' hSw; have q1 := (hSw.cell (p := ⟨b8, 0, none⟩) hxt).trans xt; have q2 := (hSw.cell (p := ⟨b6, 0, none⟩) hxb).trans xb; have q3 := (hSw.cell (p := ⟨gl, ofl + j * 2, none⟩) hgl).trans l0; have q4 := (hSw.cell (p := ⟨g4, of4 + k, none⟩) hg4).trans xp4; go_simp; try with_reducible rfl
      try simp only [Act.put, List.setIfInBounds_toArray, List.set_cons_zero, List.set_cons_succ]
      refine wpAnyF_take (i := 7) (oi := { dst := some 46, op := Go.Op.load 3 (Go.Operand.tmp 2), type := 3, pos := "truth.go:114", after := #[], guard := none }) (v := ?_) rfl (by kernel_rfl) (by kernel_rfl) (by kernel_rfl) (by kernel_rfl) (fun _ _ _ h => h) (Or.inl ⟨by rfl, ?_⟩) hS ?_
      rotate_left
      · intro w' hSw; have q1 := (hSw.cell (p := ⟨b8, 0, none⟩) hxt).trans xt; have q2 := (hSw.cell (p := ⟨b6, 0, none⟩) hxb).trans xb; have q3 := (hSw.cell (p := ⟨gl, ofl + j * 2, none⟩) hgl).trans l0; have q4 := (hSw.cell (p := ⟨g4, of4 + k, none⟩) hg4).trans xp4; go_simp; try with_reducible rfl
      try simp only [Act.put, List.setIfInBounds_toArray, List.set_cons_zero, List.set_cons_succ]
      refine wpAnyF_take (i := 8) (oi := { dst := some 47, op := Go.Op.indexAddr 37 (Go.Operand.tmp 45) (Go.Operand.tmp 46), type := 0, pos := "truth.go:114", after := #[{ on := 6, ground := Go.Ground.data }, { on := 7, ground := Go.Ground.data }], guard := none }) (v := ?_) rfl (by kernel_rfl) (by kernel_rfl) (by kernel_rfl) (by kernel_rfl) (fun _ _ _ h => h) (Or.inl ⟨by rfl, ?_⟩) hS ?_
      rotate_left
      · intro w' hSw; have q1 := (hSw.cell (p := ⟨b8, 0, none⟩) hxt).trans xt; have q2 := (hSw.cell (p := ⟨b6, 0, none⟩) hxb).trans xb; have q3 := (hSw.cell (p := ⟨gl, ofl + j * 2, none⟩) hgl).trans l0; have q4 := (hSw.cell (p := ⟨g4, of4 + k, none⟩) hg4).trans xp4; go_simp; try with_reducible rfl
      try simp only [Act.put, List.setIfInBounds_toArray, List.set_cons_zero, List.set_cons_succ]
      refine wpAnyF_take (i := 9) (oi := { dst := some 48, op := Go.Op.load 2 (Go.Operand.tmp 47), type := 2, pos := "truth.go:114", after := #[{ on := 8, ground := Go.Ground.data }], guard := none }) (v := ?_) rfl (by kernel_rfl) (by kernel_rfl) (by kernel_rfl) (by kernel_rfl) (fun _ _ _ h => h) (Or.inl ⟨by rfl, ?_⟩) hS ?_
      rotate_left
      · intro w' hSw; have q1 := (hSw.cell (p := ⟨b8, 0, none⟩) hxt).trans xt; have q2 := (hSw.cell (p := ⟨b6, 0, none⟩) hxb).trans xb; have q3 := (hSw.cell (p := ⟨gl, ofl + j * 2, none⟩) hgl).trans l0; have q4 := (hSw.cell (p := ⟨g4, of4 + k, none⟩) hg4).trans xp4; go_simp; try with_reducible rfl
      try simp only [Act.put, List.setIfInBounds_toArray, List.set_cons_zero, List.set_cons_succ]
      refine wpAnyF_ready (rs := [10]) (by kernel_rfl) (by simp) ?_
      refine AllReadyF.cons (o := { dst := some 49, op := Go.Op.call { callee := Go.Callee.value (Go.Operand.func 34), args := #[Go.Operand.tmp 39, Go.Operand.tmp 44, Go.Operand.tmp 48], argTypes := #[26, 51, 2] }, type := 2, pos := "truth.go:114", after := #[{ on := 0, ground := Go.Ground.data }, { on := 5, ground := Go.Ground.data }, { on := 9, ground := Go.Ground.data }], guard := none }) rfl (by rfl) (fun K hK => ?_) ?_
      · go_simp
        refine (gain_any tr og hwo.1 p _ _ _ (HA3.out.ht.grow (Below.refl _ _).drew)).mono ?_
        rintro e w5 ⟨rfl, hb5⟩
        rw [← HGV.out]
        refine hK.out _ _ ?_ (fun hS => ?_)
        · exact (Below.refl w3.heap.size w3).drew.trans (hb5.mono (by simp))
        clear hK K
        try simp only [Act.put, List.setIfInBounds_toArray, List.set_cons_zero, List.set_cons_succ]
        have HB5 := Lib.hid hb5
        have hs5 := hb5.size
        clear hb5
        refine wpAnyF_take (i := 11) (oi := { dst := some 6, op := Go.Op.assign (Go.Operand.tmp 49), type := 2, pos := "truth.go:114", after := #[{ on := 10, ground := Go.Ground.data }, { on := 10, ground := Go.Ground.chain }, { on := 0, ground := Go.Ground.phase }, { on := 1, ground := Go.Ground.phase }, { on := 2, ground := Go.Ground.phase }, { on := 3, ground := Go.Ground.phase }, { on := 4, ground := Go.Ground.phase }, { on := 5, ground := Go.Ground.phase }, { on := 6, ground := Go.Ground.phase }, { on := 7, ground := Go.Ground.phase }, { on := 8, ground := Go.Ground.phase }, { on := 9, ground := Go.Ground.phase }, { on := 10, ground := Go.Ground.phase }], guard := none }) (v := ?_) rfl (by kernel_rfl) (by kernel_rfl) (by kernel_rfl) (by kernel_rfl) (fun _ _ _ h => h) (Or.inl ⟨by rfl, ?_⟩) hS ?_
        rotate_left
        · intro w' hSw; have q1 := (hSw.cell (p := ⟨b8, 0, none⟩) hxt).trans xt; have q2 := (hSw.cell (p := ⟨b6, 0, none⟩) hxb).trans xb; have q3 := (hSw.cell (p := ⟨gl, ofl + j * 2, none⟩) hgl).trans l0; have q4 := (hSw.cell (p := ⟨g4, of4 + k, none⟩) hg4).trans xp4; go_simp; try with_reducible rfl
        try simp only [Act.put, List.setIfInBounds_toArray, List.set_cons_zero, List.set_cons_succ]
        refine wpAnyF_done (by kernel_rfl) ?_ _
        go_wp2_with fail
        go_ret
        exact ⟨by rw [HAN2.out, ← HGV.out]; rfl, HBB3.out.drew.trans (HB5.out.mono (by have := HBB3.out.size; simp; omega))⟩
      exact AllReadyF.nil
end Go.Proofs.YtcigobiolbojhaaGreat.Vb

/- truth.asked. -/
namespace Go.Proofs.YtcigobiolbojhaaGreat.Vb
open Go.RowKit

/-- what is wrong with the first list that may not be -/
def firstE (n : Int) : List (List Off) → Int
  | [] => 0
  | l :: ls => if checkE n l ≠ 0 then checkE n l else firstE n ls
def askedE (n : Int) (bs : List (List Off)) (buyer r : Int) (ls : List (List Off)) : Int :=
  if instE n bs ≠ 0 then instE n bs else if buyer < 0 ∨ (bs.length : Int) ≤ buyer ∨ ¬(r = 1 ∨ r = 2) then 2 else firstE n ls
theorem firstE_at {n : Int} : ∀ {ls : List (List Off)} {k : Nat} {l : List Off}, ls[k]? = some l → checkE n l ≠ 0 → (∀ j x, j < k → ls[j]? = some x → checkE n x = 0) → firstE n ls = checkE n l
  | [], k, l, h, _, _ => by simp at h
  | x :: ls, 0, l, h, hc, _ => by simp at h; subst h; simp [firstE, hc]
  | x :: ls, k + 1, l, h, hc, hn => by
    have h0 := hn 0 x (by omega) rfl
    have := firstE_at (ls := ls) (k := k) (l := l) (by simpa using h) hc (fun j y hj hy => hn (j + 1) y (by omega) (by simpa using hy))
    simp [firstE, h0, this]
theorem firstE_none {n : Int} : ∀ {ls : List (List Off)}, (∀ l ∈ ls, checkE n l = 0) → firstE n ls = 0
  | [], _ => rfl
  | x :: ls, h => by simp [firstE, h x (by simp), firstE_none (ls := ls) (fun l hl => h l (by simp [hl]))]
theorem firstE_zero {n : Int} : ∀ {ls : List (List Off)}, firstE n ls = 0 → ∀ l ∈ ls, checkE n l = 0
  | [], _, l, hl => by cases hl
  | x :: ls, h, l, hl => by
    simp only [firstE] at h
    split at h
    · rename_i h1; exact absurd h h1
    · rename_i h1
      rcases List.mem_cons.1 hl with rfl | h2
      · simpa using h1
      · exact firstE_zero h l h2
theorem askedE_zero {n : Int} {bs : List (List Off)} {buyer r : Int} {ls : List (List Off)} (h : askedE n bs buyer r ls = 0) : instE n bs = 0 ∧ 0 ≤ buyer ∧ buyer < bs.length ∧ (r = 1 ∨ r = 2) ∧ ∀ l ∈ ls, checkE n l = 0 := by
  unfold askedE at h
  split at h
  · rename_i h1; exact absurd h h1
  · rename_i h1
    split at h
    · omega
    · rename_i h2
      refine ⟨by simpa using h1, by omega, by omega, ?_, firstE_zero h⟩
      by_cases h3 : r = 1 ∨ r = 2
      · exact h3
      · exact absurd (.inr (.inr h3)) h2
/-- the answer: nothing and the error, or a function -/
def AskR29 (n : Int) (bs : List (List Off)) (buyer r : Int) (tr : List Off) (ls : List (List Off)) (w : World) (e : Ending) (w' : World) : Prop :=
  Below w.heap.size w w' ∧ ((askedE n bs buyer r ls ≠ 0 ∧ e = .returned (.tuple #[.nilFunc, .int .i64 (askedE n bs buyer r ls)])) ∨
    (askedE n bs buyer r ls = 0 ∧ ∃ (k b5 b6 b12 b8 : Nat) (vb vt : Value), buyer = (k : Int) ∧ AskC w' (w.heap.size ≤ ·) b5 b6 b12 b8 n bs k r tr vb vt ∧
      e = .returned (.tuple #[.func (.func 31) #[] #[.pointer (some ⟨b5, 0, none⟩), .pointer (some ⟨b6, 0, none⟩), .pointer (some ⟨b12, 0, none⟩), .pointer (some ⟨b8, 0, none⟩)], .int .i64 0])))

theorem eql_fn_nil (fn : Fn) (fi ca : Array Value) (W : World) : (binOp .eql 71 (.func fn fi ca) .nilFunc).run Tryz.prog W = .ok (.bool false) W := by kernel_rfl
theorem eql_nil_nil (W : World) : (binOp .eql 71 .nilFunc .nilFunc).run Tryz.prog W = .ok (.bool true) W := by kernel_rfl

set_option maxRecDepth 100000 in
set_option maxHeartbeats 3200000 in
theorem asked29_any (n : Int) (bs : List (List Off)) (buyer r : Int) (tr : List Off) (ts : List (List Off)) (v vt vs : Value) (R Rt Rs : Nat → Prop) (w : World) (hl : Buys w R v bs) (ht : Offs w Rt vt tr) (hs : Buys w Rs vs ts)
    (hts : ts.length ≤ 1000000) (hb : -9223372036854775808 ≤ buyer ∧ buyer ≤ 9223372036854775807) (hr : -9223372036854775808 ≤ r ∧ r ≤ 9223372036854775807) :
    Calls Tryz.prog 19 #[.agg #[.int .i64 n, v], .int .i64 buyer, .int .i64 r, vt, vs] w fun e w' => AskR29 n bs buyer r tr (tr :: ts) w e w' := by
  obtain ⟨_, ⟨_, A, cap, rfl, _, hcm, _⟩, _⟩ := id hl
  obtain ⟨⟨_, At, capt, rfl, _⟩, _⟩ := id ht
  obtain ⟨vts, ⟨hvl, As, caps, rfl, hsl1, hsl2, hsl3⟩, hvs⟩ := id hs
  have HSL := Lib.hid (show Sl w Rs (.slice As ts.length caps) ts.length 1 vts from ⟨hvl, As, caps, rfl, hsl1, hsl2, hsl3⟩)
  have HVS := Lib.hid hvs
  clear hsl1 hsl2 hsl3 hvs
  have hwb : ∀ l ∈ bs, ∀ o ∈ l, o.wf := hl.wf
  have HBS := Lib.hid hl
  have HT := Lib.hid ht
  have HS := Lib.hid hs
  unfold maxLen at hcm
  clear hl ht hs
  have hie := instE_bd n bs
  obtain ⟨ie, hiee⟩ : ∃ z, z = instE n bs := ⟨_, rfl⟩
  rw [← hiee] at hie
  have HIE := Lib.hid hiee
  obtain ⟨P, hP⟩ : ∃ P : Ending → World → Prop, P = fun e w' => AskR29 n bs buyer r tr (tr :: ts) w e w' := ⟨_, rfl⟩
  rw [← hP]
  have HP := Lib.hid hP
  have hnl := fun q => eql_fn_nil (.func q) #[] #[]
  have hnn := eql_nil_nil
  clear hP hiee
  have hbl : bs.length ≤ 9223372036854775807 := by omega
  have hpfc : (∃ q, payF r = .func (.func q) #[] #[] ∧ (r = 1 ∨ r = 2)) ∨ (payF r = .nilFunc ∧ ¬(r = 1 ∨ r = 2)) := by
    unfold payF
    by_cases h1 : r = 1
    · exact .inl ⟨_, by rw [if_pos h1], .inl h1⟩
    · by_cases h2 : r = 2
      · exact .inl ⟨_, by rw [if_neg h1, if_pos h2], .inr h2⟩
      · exact .inr ⟨by rw [if_neg h1, if_neg h2], by omega⟩
  by_cases hi : ie = 0
  · have HI0 := Lib.hid (show instE n bs = 0 from HIE.out ▸ hi)
    subst hi
    clear hie
    rcases hpfc with ⟨q, hpf, hr12⟩ | ⟨hpf, hr12⟩
    · by_cases hb0 : buyer < 0
      · have HEQ := Lib.hid (show askedE n bs buyer r (tr :: ts) = 2 from by unfold askedE; rw [if_neg (by simpa using HI0.out), if_pos (.inl hb0)])
        have HNZ := Lib.hid (show (2 : Int) ≠ 0 by decide)
        go_enter Tryz.func19, Tryz.ntmps19
        go_wp2_with fail
        refine (pays_any r hr _).mono ?_
        rintro e w1 ⟨rfl, rfl⟩
        rw [hpf]
        go_wp2_with fail
        have hc4 : Blk ((((w.alloc (.cells #[.int .i64 n, .slice A bs.length cap] 24)).alloc (.cells #[.int .i64 buyer] 3)).alloc (.cells #[.slice At tr.length capt] 26)).alloc (.cells #[.func (.func q) #[] #[]] 71)) w.heap.size 24 #[.int .i64 n, .slice A bs.length cap] := (((Blk.new' _ _ rfl).alloc _).alloc _).alloc _
        have hd4 : Blk ((((w.alloc (.cells #[.int .i64 n, .slice A bs.length cap] 24)).alloc (.cells #[.int .i64 buyer] 3)).alloc (.cells #[.slice At tr.length capt] 26)).alloc (.cells #[.func (.func q) #[] #[]] 71)) (w.heap.size + 1) 3 #[.int .i64 buyer] := ((Blk.new' _ _ (by simp)).alloc _).alloc _
        have he4 : Blk ((((w.alloc (.cells #[.int .i64 n, .slice A bs.length cap] 24)).alloc (.cells #[.int .i64 buyer] 3)).alloc (.cells #[.slice At tr.length capt] 26)).alloc (.cells #[.func (.func q) #[] #[]] 71)) (w.heap.size + 1 + 1) 26 #[.slice At tr.length capt] := (Blk.new' _ _ (by simp)).alloc _
        have hf4 : Blk ((((w.alloc (.cells #[.int .i64 n, .slice A bs.length cap] 24)).alloc (.cells #[.int .i64 buyer] 3)).alloc (.cells #[.slice At tr.length capt] 26)).alloc (.cells #[.func (.func q) #[] #[]] 71)) (w.heap.size + 1 + 1 + 1) 71 #[.func (.func q) #[] #[]] := Blk.new' _ _ (by simp)
        have hb4 : Below w.heap.size w ((((w.alloc (.cells #[.int .i64 n, .slice A bs.length cap] 24)).alloc (.cells #[.int .i64 buyer] 3)).alloc (.cells #[.slice At tr.length capt] 26)).alloc (.cells #[.func (.func q) #[] #[]] 71)) := ((((Below.refl _ _).alloc (Nat.le_refl _) _).alloc (by simp) _).alloc (by simp; omega) _).alloc (by simp; omega) _
        have hs4 : ((((w.alloc (.cells #[.int .i64 n, .slice A bs.length cap] 24)).alloc (.cells #[.int .i64 buyer] 3)).alloc (.cells #[.slice At tr.length capt] 26)).alloc (.cells #[.func (.func q) #[] #[]] 71)).heap.size = w.heap.size + 4 := by simp
        obtain ⟨W4, hW4⟩ : ∃ V, V = (((w.alloc (.cells #[.int .i64 n, .slice A bs.length cap] 24)).alloc (.cells #[.int .i64 buyer] 3)).alloc (.cells #[.slice At tr.length capt] 26)).alloc (.cells #[.func (.func q) #[] #[]] 71) := ⟨_, rfl⟩
        rw [← hW4] at hc4 hd4 he4 hf4 hb4 hs4 ⊢
        refine (instance_any n bs _ R W4 (HBS.out.grow hb4)).mono ?_
        rintro e w5 ⟨rfl, hb5⟩
        rw [← HIE.out]
        have hs5 : w.heap.size + 4 ≤ w5.heap.size := by rw [← hs4]; exact hb5.size
        have HC5 := Lib.hid (hc4.grow hb5)
        have HD5 := Lib.hid (hd4.grow hb5)
        have HE5 := Lib.hid (he4.grow hb5)
        have HF5 := Lib.hid (hf4.grow hb5)
        have HB5 := Lib.hid (hb4.trans (hb5.mono hb4.size))
        have x0 : w5.cell? ⟨w.heap.size, 0, none⟩ = some (.int .i64 n) := HC5.out.cell 0
        have x1 : w5.cell? ⟨w.heap.size, 1, none⟩ = some (.slice A bs.length cap) := HC5.out.cell 1
        have xb : w5.cell? ⟨w.heap.size + 1, 0, none⟩ = some (.int .i64 buyer) := HD5.out.cell 0
        have xt : w5.cell? ⟨w.heap.size + 1 + 1, 0, none⟩ = some (.slice At tr.length capt) := HE5.out.cell 0
        have xp : w5.cell? ⟨w.heap.size + 1 + 1 + 1, 0, none⟩ = some (.func (.func q) #[] #[]) := HF5.out.cell 0
        clear hc4 hd4 he4 hf4 hb4 hs4 hb5 hW4
        go_wp2_with fail
        show P (.returned (.tuple #[.nilFunc, .int .i64 (2)])) _
        rw [HP.out]
        exact ⟨HB5.out, .inl ⟨by rw [HEQ.out]; exact HNZ.out, by rw [HEQ.out]⟩⟩
      · by_cases hb1 : (bs.length : Int) ≤ buyer
        · have HEQ := Lib.hid (show askedE n bs buyer r (tr :: ts) = 2 from by unfold askedE; rw [if_neg (by simpa using HI0.out), if_pos (.inr (.inl hb1))])
          have HNZ := Lib.hid (show (2 : Int) ≠ 0 by decide)
          go_enter Tryz.func19, Tryz.ntmps19
          go_wp2_with fail
          refine (pays_any r hr _).mono ?_
          rintro e w1 ⟨rfl, rfl⟩
          rw [hpf]
          go_wp2_with fail
          have hc4 : Blk ((((w.alloc (.cells #[.int .i64 n, .slice A bs.length cap] 24)).alloc (.cells #[.int .i64 buyer] 3)).alloc (.cells #[.slice At tr.length capt] 26)).alloc (.cells #[.func (.func q) #[] #[]] 71)) w.heap.size 24 #[.int .i64 n, .slice A bs.length cap] := (((Blk.new' _ _ rfl).alloc _).alloc _).alloc _
          have hd4 : Blk ((((w.alloc (.cells #[.int .i64 n, .slice A bs.length cap] 24)).alloc (.cells #[.int .i64 buyer] 3)).alloc (.cells #[.slice At tr.length capt] 26)).alloc (.cells #[.func (.func q) #[] #[]] 71)) (w.heap.size + 1) 3 #[.int .i64 buyer] := ((Blk.new' _ _ (by simp)).alloc _).alloc _
          have he4 : Blk ((((w.alloc (.cells #[.int .i64 n, .slice A bs.length cap] 24)).alloc (.cells #[.int .i64 buyer] 3)).alloc (.cells #[.slice At tr.length capt] 26)).alloc (.cells #[.func (.func q) #[] #[]] 71)) (w.heap.size + 1 + 1) 26 #[.slice At tr.length capt] := (Blk.new' _ _ (by simp)).alloc _
          have hf4 : Blk ((((w.alloc (.cells #[.int .i64 n, .slice A bs.length cap] 24)).alloc (.cells #[.int .i64 buyer] 3)).alloc (.cells #[.slice At tr.length capt] 26)).alloc (.cells #[.func (.func q) #[] #[]] 71)) (w.heap.size + 1 + 1 + 1) 71 #[.func (.func q) #[] #[]] := Blk.new' _ _ (by simp)
          have hb4 : Below w.heap.size w ((((w.alloc (.cells #[.int .i64 n, .slice A bs.length cap] 24)).alloc (.cells #[.int .i64 buyer] 3)).alloc (.cells #[.slice At tr.length capt] 26)).alloc (.cells #[.func (.func q) #[] #[]] 71)) := ((((Below.refl _ _).alloc (Nat.le_refl _) _).alloc (by simp) _).alloc (by simp; omega) _).alloc (by simp; omega) _
          have hs4 : ((((w.alloc (.cells #[.int .i64 n, .slice A bs.length cap] 24)).alloc (.cells #[.int .i64 buyer] 3)).alloc (.cells #[.slice At tr.length capt] 26)).alloc (.cells #[.func (.func q) #[] #[]] 71)).heap.size = w.heap.size + 4 := by simp
          obtain ⟨W4, hW4⟩ : ∃ V, V = (((w.alloc (.cells #[.int .i64 n, .slice A bs.length cap] 24)).alloc (.cells #[.int .i64 buyer] 3)).alloc (.cells #[.slice At tr.length capt] 26)).alloc (.cells #[.func (.func q) #[] #[]] 71) := ⟨_, rfl⟩
          rw [← hW4] at hc4 hd4 he4 hf4 hb4 hs4 ⊢
          refine (instance_any n bs _ R W4 (HBS.out.grow hb4)).mono ?_
          rintro e w5 ⟨rfl, hb5⟩
          rw [← HIE.out]
          have hs5 : w.heap.size + 4 ≤ w5.heap.size := by rw [← hs4]; exact hb5.size
          have HC5 := Lib.hid (hc4.grow hb5)
          have HD5 := Lib.hid (hd4.grow hb5)
          have HE5 := Lib.hid (he4.grow hb5)
          have HF5 := Lib.hid (hf4.grow hb5)
          have HB5 := Lib.hid (hb4.trans (hb5.mono hb4.size))
          have x0 : w5.cell? ⟨w.heap.size, 0, none⟩ = some (.int .i64 n) := HC5.out.cell 0
          have x1 : w5.cell? ⟨w.heap.size, 1, none⟩ = some (.slice A bs.length cap) := HC5.out.cell 1
          have xb : w5.cell? ⟨w.heap.size + 1, 0, none⟩ = some (.int .i64 buyer) := HD5.out.cell 0
          have xt : w5.cell? ⟨w.heap.size + 1 + 1, 0, none⟩ = some (.slice At tr.length capt) := HE5.out.cell 0
          have xp : w5.cell? ⟨w.heap.size + 1 + 1 + 1, 0, none⟩ = some (.func (.func q) #[] #[]) := HF5.out.cell 0
          clear hc4 hd4 he4 hf4 hb4 hs4 hb5 hW4
          go_wp2_with fail
          show P (.returned (.tuple #[.nilFunc, .int .i64 (2)])) _
          rw [HP.out]
          exact ⟨HB5.out, .inl ⟨by rw [HEQ.out]; exact HNZ.out, by rw [HEQ.out]⟩⟩
        · have HEQ := Lib.hid (show askedE n bs buyer r (tr :: ts) = firstE n (tr :: ts) from by unfold askedE; rw [if_neg (by simpa using HI0.out), if_neg (by omega)])
          have HR := Lib.hid hr12
          clear hr12
          go_enter Tryz.func19, Tryz.ntmps19
          go_wp2_with fail
          refine (pays_any r hr _).mono ?_
          rintro e w1 ⟨rfl, rfl⟩
          rw [hpf]
          go_wp2_with fail
          have hc4 : Blk ((((w.alloc (.cells #[.int .i64 n, .slice A bs.length cap] 24)).alloc (.cells #[.int .i64 buyer] 3)).alloc (.cells #[.slice At tr.length capt] 26)).alloc (.cells #[.func (.func q) #[] #[]] 71)) w.heap.size 24 #[.int .i64 n, .slice A bs.length cap] := (((Blk.new' _ _ rfl).alloc _).alloc _).alloc _
          have hd4 : Blk ((((w.alloc (.cells #[.int .i64 n, .slice A bs.length cap] 24)).alloc (.cells #[.int .i64 buyer] 3)).alloc (.cells #[.slice At tr.length capt] 26)).alloc (.cells #[.func (.func q) #[] #[]] 71)) (w.heap.size + 1) 3 #[.int .i64 buyer] := ((Blk.new' _ _ (by simp)).alloc _).alloc _
          have he4 : Blk ((((w.alloc (.cells #[.int .i64 n, .slice A bs.length cap] 24)).alloc (.cells #[.int .i64 buyer] 3)).alloc (.cells #[.slice At tr.length capt] 26)).alloc (.cells #[.func (.func q) #[] #[]] 71)) (w.heap.size + 1 + 1) 26 #[.slice At tr.length capt] := (Blk.new' _ _ (by simp)).alloc _
          have hf4 : Blk ((((w.alloc (.cells #[.int .i64 n, .slice A bs.length cap] 24)).alloc (.cells #[.int .i64 buyer] 3)).alloc (.cells #[.slice At tr.length capt] 26)).alloc (.cells #[.func (.func q) #[] #[]] 71)) (w.heap.size + 1 + 1 + 1) 71 #[.func (.func q) #[] #[]] := Blk.new' _ _ (by simp)
          have hb4 : Below w.heap.size w ((((w.alloc (.cells #[.int .i64 n, .slice A bs.length cap] 24)).alloc (.cells #[.int .i64 buyer] 3)).alloc (.cells #[.slice At tr.length capt] 26)).alloc (.cells #[.func (.func q) #[] #[]] 71)) := ((((Below.refl _ _).alloc (Nat.le_refl _) _).alloc (by simp) _).alloc (by simp; omega) _).alloc (by simp; omega) _
          have hs4 : ((((w.alloc (.cells #[.int .i64 n, .slice A bs.length cap] 24)).alloc (.cells #[.int .i64 buyer] 3)).alloc (.cells #[.slice At tr.length capt] 26)).alloc (.cells #[.func (.func q) #[] #[]] 71)).heap.size = w.heap.size + 4 := by simp
          obtain ⟨W4, hW4⟩ : ∃ V, V = (((w.alloc (.cells #[.int .i64 n, .slice A bs.length cap] 24)).alloc (.cells #[.int .i64 buyer] 3)).alloc (.cells #[.slice At tr.length capt] 26)).alloc (.cells #[.func (.func q) #[] #[]] 71) := ⟨_, rfl⟩
          rw [← hW4] at hc4 hd4 he4 hf4 hb4 hs4 ⊢
          refine (instance_any n bs _ R W4 (HBS.out.grow hb4)).mono ?_
          rintro e w5 ⟨rfl, hb5⟩
          rw [← HIE.out]
          have hs5 : w.heap.size + 4 ≤ w5.heap.size := by rw [← hs4]; exact hb5.size
          have HC5 := Lib.hid (hc4.grow hb5)
          have HD5 := Lib.hid (hd4.grow hb5)
          have HE5 := Lib.hid (he4.grow hb5)
          have HF5 := Lib.hid (hf4.grow hb5)
          have HB5 := Lib.hid (hb4.trans (hb5.mono hb4.size))
          have x0 : w5.cell? ⟨w.heap.size, 0, none⟩ = some (.int .i64 n) := HC5.out.cell 0
          have x1 : w5.cell? ⟨w.heap.size, 1, none⟩ = some (.slice A bs.length cap) := HC5.out.cell 1
          have xb : w5.cell? ⟨w.heap.size + 1, 0, none⟩ = some (.int .i64 buyer) := HD5.out.cell 0
          have xt : w5.cell? ⟨w.heap.size + 1 + 1, 0, none⟩ = some (.slice At tr.length capt) := HE5.out.cell 0
          have xp : w5.cell? ⟨w.heap.size + 1 + 1 + 1, 0, none⟩ = some (.func (.func q) #[] #[]) := HF5.out.cell 0
          clear hc4 hd4 he4 hf4 hb4 hs4 hb5 hW4
          have heach : ∀ k, k < 1 + ts.length → ∃ (u : Value) (l : List Off), (tr :: ts)[k]? = some l ∧ ([.slice At tr.length capt] ++ vts)[k]? = some u ∧ Offs w5 (fun _ => True) u l := by
            intro k hk
            cases k with
            | zero => exact ⟨_, tr, rfl, rfl, (HT.out.grow HB5.out).any⟩
            | succ k =>
              have hkt : ts[k]? = some ts[k] := List.getElem?_eq_getElem (by omega)
              obtain ⟨u, hu, ho⟩ := HVS.out k _ hkt
              exact ⟨u, ts[k], by simp, by simpa using hu, (ho.grow HB5.out).any⟩
          have HEA := Lib.hid heach
          have hone : ∀ u ∈ vts, u.oneCell' = true := Sl.one_of (w := w) (R := Rs) (bs := ts) (by simp at hvl; exact hvl) HVS.out
          have HONE := Lib.hid hone
          have hsz5 := hs5
          clear heach hone
          go_wp2_with (at_builtin; go_must (refine wpList_app _ rfl (.tmp 41) (.tmp 42) et_offs rfl w5.heap.size (.slice (some ⟨w5.heap.size, 0, none⟩) 1 1) 1 [.slice At tr.length capt] rfl (World.ownsRow_lit w5 #[.slice At tr.length capt] 1 (Nat.le_refl _) (by unfold maxLen; omega) rfl) Rs _ ts.length vts rfl ((HSL.out.grow HB5.out).alloc _) HONE.out (by omega) (by unfold maxLen; omega) (by simp) ?_); go_must (intro A6 c6 w6 hown6 hg6 hlo6; have HO6 := Lib.hid hown6; have hb6 := ((Below.refl w5.heap.size w5).alloc (Nat.le_refl _) (.cells #[.slice At tr.length capt] 26)).grown hg6 (by simp) (fun r e => by simp [Value.ownBlock] at e; omega); have HB6 := Lib.hid hb6; clear hown6 hg6 hlo6 hb6))
          obtain ⟨g6, cm6, hform, hgm1, hgm2⟩ := World.ownsRow.form HO6.out (by omega)
          injection hform with hA6 _ hc6
          subst hA6 hc6
          go_loopw [45] (fun i wr => ∃ k : Nat, k ≤ 1 + ts.length ∧ i = .int .i64 k ∧ (∀ j x, j < k → (tr :: ts)[j]? = some x → checkE n x = 0) ∧ Below w6.heap.size w6 wr) (fun i _ => 1 + ts.length - (intOf i).toNat)
          case atStart => exact ⟨0, Nat.zero_le _, rfl, fun j x hj => by omega, Below.refl _ _⟩
          case round =>
            obtain ⟨k, hk, rfl, hno, hbr⟩ := hrel
            have HN := Lib.hid hno
            have hb5r := HB6.out.trans (hbr.mono HB6.out.size)
            have HC := Lib.hid (HC5.out.grow hb5r)
            have HD := Lib.hid (HD5.out.grow hb5r)
            have HE := Lib.hid (HE5.out.grow hb5r)
            have HF := Lib.hid (HF5.out.grow hb5r)
            have HBW := Lib.hid (HB5.out.trans (hb5r.mono HB5.out.size))
            have y0 : wr.cell? ⟨w.heap.size, 0, none⟩ = some (.int .i64 n) := HC.out.cell 0
            have y1 : wr.cell? ⟨w.heap.size, 1, none⟩ = some (.slice A bs.length cap) := HC.out.cell 1
            have y2 : wr.cell? ⟨w.heap.size + 1 + 1, 0, none⟩ = some (.slice At tr.length capt) := HE.out.cell 0
            have hszr : w.heap.size + 4 ≤ wr.heap.size := Nat.le_trans hs5 hb5r.size
            have HB5R := Lib.hid hb5r
            have HBR := Lib.hid hbr
            clear hno
            by_cases hlt : k < 1 + ts.length
            · obtain ⟨u, l, hlk, huk, hou⟩ := HEA.out k hlt
              have cu : wr.cell? ⟨g6, k, none⟩ = some u := (hbr.cell (p := ⟨g6, k, none⟩) hgm2).trans ((HO6.out.cellAt k (by simp; omega)).trans huk)
              obtain ⟨⟨_, Au, cu', rfl, _⟩, _⟩ := id hou
              have hcb := checkE_bd n l
              have HOU := Lib.hid (hou.grow hb5r)
              have HLK := Lib.hid hlk
              obtain ⟨z, hz⟩ : ∃ z, z = checkE n l := ⟨_, rfl⟩
              have HZ := Lib.hid hz
              rw [← hz] at hcb
              have e1 : (k : Int) < ((1 + ts.length : Nat) : Int) := by omega
              have e0 : (0 : Int) ≤ (k : Int) := by omega
              clear hbr hb5r hlk huk hou hz
              by_cases hz0 : z = 0
              · subst hz0
                clear hcb
                go_wp2_with (go_at_call 29; refine (check_any n l _ _ _ HOU.out).mono ?_; rintro e w7 ⟨rfl, hb7⟩; rw [← HZ.out]; have HB7 := Lib.hid hb7; clear hb7)
                go_roundw
                case rel =>
                  refine ⟨k + 1, by omega, by go_num, fun j x hj hx => ?_, HBR.out.trans (HB7.out.mono HBR.out.size)⟩
                  by_cases hjk : j < k
                  · exact HN.out j x hjk hx
                  · obtain rfl : j = k := by omega
                    rw [HLK.out] at hx
                    cases hx
                    exact HZ.out.symm
                case measure => simp [intOf]; omega
              · have hne : (z != 0) = true := by simpa using hz0
                have HFE := Lib.hid (show firstE n (tr :: ts) = z from by rw [firstE_at HLK.out (by rw [← HZ.out]; exact hz0) HN.out, HZ.out])
                have HNZ := Lib.hid hz0
                clear hz0
                go_wp2_with (go_at_call 29; refine (check_any n l _ _ _ HOU.out).mono ?_; rintro e w7 ⟨rfl, hb7⟩; rw [← HZ.out]; have HB7 := Lib.hid hb7; clear hb7)
                show P (.returned (.tuple #[.nilFunc, .int .i64 z])) _
                rw [HP.out]
                exact ⟨HBW.out.trans (HB7.out.mono HBW.out.size), .inl ⟨by rw [HEQ.out, HFE.out]; exact HNZ.out, by rw [HEQ.out, HFE.out]⟩⟩
            · obtain rfl : k = 1 + ts.length := by omega
              have HALL := Lib.hid (show firstE n (tr :: ts) = 0 from firstE_none (fun l hl => by
                obtain ⟨j, hj, rfl⟩ := List.getElem_of_mem hl
                exact HN.out j _ (by simp at hj; omega) (List.getElem?_eq_getElem hj)))
              have hsm : Small bs := ⟨by have := (instE_zero HI0.out).2.2.1; omega, fun l hl => by have := (instE_zero HI0.out).2.2.2.1 l hl; omega⟩
              have htr8 : checkE n tr = 0 := HN.out 0 tr (by omega) rfl
              have htr9 := checkE_len htr8
              have HSM := Lib.hid hsm
              clear hbr hb5r hsm htr8 hlt hk
              go_wp2_with fail
              have hcl := fun W hb => clone_off (Off.all tr) tr.length (.slice At tr.length capt) Rt W ((HT.out.grow HBW.out).grow hb).1 (Off.all_one tr) (by omega)
              have HCL := Lib.hid hcl
              clear hcl
              refine wp_region_F (fun W : World => W.cell? ⟨w.heap.size + 1 + 1, 0, none⟩ = some (.slice At tr.length capt)) [5] (by kernel_rfl) (show wr.drew.cell? ⟨w.heap.size + 1 + 1, 0, none⟩ = some (.slice At tr.length capt) from y2) (fun hS => ?_)
              refine wpAnyF_take (i := 2) (oi := { dst := some 62, op := Go.Op.load 26 (Go.Operand.tmp 8), type := 26, pos := "truth.go:105", after := #[], guard := none }) (v := ?_) rfl (by kernel_rfl) (by kernel_rfl) (by kernel_rfl) (by kernel_rfl) (fun _ _ _ h => h) (Or.inl ⟨by rfl, ?_⟩) hS ?_
              rotate_left
              · intro w' hSw; have q2 : w'.cell? ⟨w.heap.size + 1 + 1, 0, none⟩ = some (.slice At tr.length capt) := hSw; go_simp; try with_reducible rfl
              try simp only [Act.put, List.setIfInBounds_toArray, List.set_cons_zero, List.set_cons_succ]
              refine wpAnyF_ready (rs := [0]) (by kernel_rfl) (by simp) ?_
              refine AllReadyF.cons (o := { dst := some 60, op := Go.Op.load 24 (Go.Operand.tmp 5), type := 24, pos := "truth.go:105", after := #[], guard := none }) rfl (by rfl) (fun K hK => ?_) ?_
              · have y0' : wr.drew.cell? ⟨w.heap.size, 0, none⟩ = some (.int .i64 n) := y0
                have y1' : wr.drew.cell? ⟨w.heap.size, 1, none⟩ = some (.slice A bs.length cap) := y1
                go_simp
                refine hK.out _ _ ?_ (fun hS => ?_)
                · exact y2
                clear hK K
                try simp only [Act.put, List.setIfInBounds_toArray, List.set_cons_zero, List.set_cons_succ]
                refine wpAnyF_ready (rs := [1]) (by kernel_rfl) (by simp) ?_
                refine AllReadyF.cons (o := { dst := some 61, op := Go.Op.call { callee := Go.Callee.value (Go.Operand.func 30), args := #[Go.Operand.tmp 60], argTypes := #[24] }, type := 24, pos := "truth.go:105", after := #[{ on := 0, ground := Go.Ground.data }], guard := none }) rfl (by rfl) (fun K hK => ?_) ?_
                · go_simp
                  refine (copy_any n bs _ R _ ((HBS.out.grow HBW.out).grow (Below.refl _ _).drew) HSM.out).mono ?_
                  rintro e w7 ⟨A7, c7, rfl, hob7, hb7⟩
                  refine hK.out _ _ ?_ (fun hS => ?_)
                  · exact (((Below.refl wr.heap.size wr).drew.trans (hb7.mono (by simp))).cell (p := ⟨w.heap.size + 1 + 1, 0, none⟩) (by simp; omega)).trans y2
                  clear hK K
                  try simp only [Act.put, List.setIfInBounds_toArray, List.set_cons_zero, List.set_cons_succ]
                  have HO7 := Lib.hid (show OwnBuys w7 wr.heap.size (.slice A7 bs.length c7) bs from hob7)
                  have HB7 := Lib.hid (((Below.refl wr.heap.size wr).drew).trans (hb7.mono (by simp)))
                  have hs7 := hb7.size
                  clear hb7 hob7
                  refine wpAnyF_ready (rs := [3]) (by kernel_rfl) (by simp) ?_
                  refine AllReadyF.cons (o := { dst := some 63, op := Go.Op.call { callee := Go.Callee.value (Go.Operand.func 20), args := #[Go.Operand.tmp 62], argTypes := #[26] }, type := 26, pos := "truth.go:105", after := #[{ on := 2, ground := Go.Ground.data }, { on := 1, ground := Go.Ground.chain }], guard := none }) rfl (by rfl) (fun K hK => ?_) ?_
                  · go_simp
                    refine (HCL.out _ HB7.out).mono ?_
                    rintro e w8 ⟨A8, c8, rfl, hown8, hb8⟩
                    refine hK.out _ _ ?_ (fun hS => ?_)
                    · exact ((HB7.out.trans (hb8.mono HB7.out.size)).cell (p := ⟨w.heap.size + 1 + 1, 0, none⟩) (by simp; omega)).trans y2
                    clear hK K
                    try simp only [Act.put, List.setIfInBounds_toArray, List.set_cons_zero, List.set_cons_succ]
                    have HO8 := Lib.hid hown8
                    have hbr8 := HB7.out.trans (hb8.mono HB7.out.size)
                    have HB8 := Lib.hid hbr8
                    have HO78 := Lib.hid (HO7.out.grow hb8)
                    have hs8 := hbr8.size
                    have hC8 := HC.out.grow hbr8
                    have hE8 := HE.out.grow hbr8
                    have z0 : w8.cell? ⟨w.heap.size, 0, none⟩ = some (.int .i64 n) := hC8.cell 0
                    have z1 : w8.cell? ⟨w.heap.size, 1, none⟩ = some (.slice A bs.length cap) := hC8.cell 1
                    have z2 : w8.cell? ⟨w.heap.size + 1 + 1, 0, none⟩ = some (.slice At tr.length capt) := hE8.cell 0
                    have f0 := hC8.frozen 0
                    have f1 := hC8.frozen 1
                    have f2 := hE8.frozen 0
                    have HC8 := Lib.hid hC8
                    have HD8 := Lib.hid (HD.out.grow hbr8)
                    have HE8 := Lib.hid hE8
                    have HF8 := Lib.hid (HF.out.grow hbr8)
                    clear hb8 hown8 hbr8 hC8 hE8
                    refine wpAnyF_ready (rs := [4]) (by kernel_rfl) (by simp) ?_
                    refine AllReadyF.cons (o := { dst := none, op := Go.Op.store 24 (Go.Operand.tmp 5) (Go.Operand.tmp 61), type := 0, pos := "truth.go:105", after := #[{ on := 1, ground := Go.Ground.data }, { on := 3, ground := Go.Ground.chain }, { on := 0, ground := Go.Ground.phase }, { on := 1, ground := Go.Ground.phase }, { on := 2, ground := Go.Ground.textOnly Go.Departure.inlinedCapture }, { on := 3, ground := Go.Ground.textOnly Go.Departure.lateStoresUnsure }], guard := none }) rfl (by rfl) (fun K hK => ?_) ?_
                    · go_simp
                      refine hK.out _ _ ?_ (fun hS => ?_)
                      · rw [World.cell?_setCell_other _ _ _ _ (by simp), World.cell?_setCell_other _ _ _ _ (by simp)]
                        exact z2
                      clear hK K
                      try simp only [Act.put, List.setIfInBounds_toArray, List.set_cons_zero, List.set_cons_succ]
                      refine wpAnyF_ready (rs := [5]) (by kernel_rfl) (by simp) ?_
                      refine AllReadyF.fin (o := { dst := none, op := Go.Op.store 26 (Go.Operand.tmp 8) (Go.Operand.tmp 63), type := 0, pos := "truth.go:105", after := #[{ on := 3, ground := Go.Ground.data }, { on := 4, ground := Go.Ground.chain }, { on := 0, ground := Go.Ground.phase }, { on := 1, ground := Go.Ground.phase }, { on := 2, ground := Go.Ground.phase }, { on := 3, ground := Go.Ground.phase }, { on := 4, ground := Go.Ground.phase }], guard := none }) rfl (by rfl) (fun K hK => ?_) ?_
                      · go_simp
                        refine hK.out _ _ ?_
                        clear hK K
                        try simp only [Act.put, List.setIfInBounds_toArray, List.set_cons_zero, List.set_cons_succ]
                        refine wpAnyF_done (by kernel_rfl) ?_ _
                        have hx9 := ((HO78.out.far (grownBy_setCell w8 ⟨w.heap.size, 0, none⟩ (.int .i64 n)) (fun j e => by simp at e; omega)).far (grownBy_setCell _ ⟨w.heap.size, 1, none⟩ (.slice A7 bs.length c7)) (fun j e => by simp at e; omega)).far (grownBy_setCell _ ⟨w.heap.size + 1 + 1, 0, none⟩ (.slice A8 tr.length c8)) (fun j e => by simp at e; omega)
                        have hs7' : w.heap.size + 4 ≤ w7.heap.size := by simp at hs7; omega
                        have ht9 := ownsRow_setCell_below (ownsRow_setCell_below (ownsRow_setCell_below HO8.out (a := ⟨w.heap.size, 0, none⟩) (by simp; omega) (.int .i64 n)) (a := ⟨w.heap.size, 1, none⟩) (by simp; omega) (.slice A7 bs.length c7)) (a := ⟨w.heap.size + 1 + 1, 0, none⟩) (by simp; omega) (.slice A8 tr.length c8)
                        have hC9 := ((HC8.out.set_ 0 (.int .i64 n)).set_ 1 (.slice A7 bs.length c7)).far (p := ⟨w.heap.size + 1 + 1, 0, none⟩) (by simp; omega) (.slice A8 tr.length c8)
                        have hD9 := ((HD8.out.far (p := ⟨w.heap.size, 0, none⟩) (by simp) (.int .i64 n)).far (p := ⟨w.heap.size, 1, none⟩) (by simp) (.slice A7 bs.length c7)).far (p := ⟨w.heap.size + 1 + 1, 0, none⟩) (by simp) (.slice A8 tr.length c8)
                        have hF9 := ((HF8.out.far (p := ⟨w.heap.size, 0, none⟩) (by simp; omega) (.int .i64 n)).far (p := ⟨w.heap.size, 1, none⟩) (by simp; omega) (.slice A7 bs.length c7)).far (p := ⟨w.heap.size + 1 + 1, 0, none⟩) (by simp) (.slice A8 tr.length c8)
                        have hE9 := ((HE8.out.far (p := ⟨w.heap.size, 0, none⟩) (by simp; omega) (.int .i64 n)).far (p := ⟨w.heap.size, 1, none⟩) (by simp; omega) (.slice A7 bs.length c7)).set_ 0 (.slice A8 tr.length c8)
                        have hB9 := ((((HBW.out.trans (HB8.out.mono HBW.out.size)).setCell (p := ⟨w.heap.size, 0, none⟩) (by simp) (.int .i64 n)).setCell (p := ⟨w.heap.size, 1, none⟩) (by simp) (.slice A7 bs.length c7)).setCell (p := ⟨w.heap.size + 1 + 1, 0, none⟩) (by simp; omega) (.slice A8 tr.length c8))
                        obtain ⟨W9, hW9⟩ : ∃ V, V = ((w8.setCell ⟨w.heap.size, 0, none⟩ (.int .i64 n)).setCell ⟨w.heap.size, 1, none⟩ (.slice A7 bs.length c7)).setCell ⟨w.heap.size + 1 + 1, 0, none⟩ (.slice A8 tr.length c8) := ⟨_, rfl⟩
                        rw [← hW9] at hx9 ht9 hC9 hD9 hF9 hE9 hB9 ⊢
                        have HX9 := Lib.hid hx9
                        have HT9 := Lib.hid ht9
                        have HC9 := Lib.hid hC9
                        have HD9 := Lib.hid hD9
                        have HE9 := Lib.hid hE9
                        have HF9 := Lib.hid hF9
                        have HB9 := Lib.hid hB9
                        clear hx9 ht9 hC9 hD9 hE9 hF9 hB9 hW9 z0 z1 z2 f0 f1 f2 hS
                        go_wp2_with fail
                        show P (.returned (.tuple #[.func (.func 31) #[] #[.pointer (some ⟨w.heap.size, 0, none⟩), .pointer (some ⟨w.heap.size + 1, 0, none⟩), .pointer (some ⟨w.heap.size + 1 + 1 + 1, 0, none⟩), .pointer (some ⟨w.heap.size + 1 + 1, 0, none⟩)], .int .i64 0])) W9
                        rw [HP.out]
                        refine ⟨HB9.out, .inr ⟨by rw [HEQ.out, HALL.out], buyer.toNat, _, _, _, _, .slice A7 bs.length c7, .slice A8 tr.length c8, by omega, ⟨HC9.out, ?_, ?_, HE9.out, (HX9.out.mono (by omega)).buys, ⟨(Sl.own_from HT9.out).mono (fun b _ h => by omega), HT.out.2⟩, Nat.le_refl _, Nat.le_succ _, Nat.le_add_right _ 3, Nat.le_add_right _ 2⟩, rfl⟩⟩
                        · have hbe : ((buyer.toNat : Nat) : Int) = buyer := by omega
                          rw [hbe]
                          exact HD9.out
                        · rw [hpf]
                          exact HF9.out
                      exact AllReadyF.nil
                    exact AllReadyF.nil
                  exact AllReadyF.nil
                exact AllReadyF.nil
              exact AllReadyF.nil
    · by_cases hb0 : buyer < 0
      · have HEQ := Lib.hid (show askedE n bs buyer r (tr :: ts) = 2 from by unfold askedE; rw [if_neg (by simpa using HI0.out), if_pos (.inl hb0)])
        have HNZ := Lib.hid (show (2 : Int) ≠ 0 by decide)
        clear hr12
        go_enter Tryz.func19, Tryz.ntmps19
        go_wp2_with fail
        refine (pays_any r hr _).mono ?_
        rintro e w1 ⟨rfl, rfl⟩
        rw [hpf]
        go_wp2_with fail
        have hc4 : Blk ((((w.alloc (.cells #[.int .i64 n, .slice A bs.length cap] 24)).alloc (.cells #[.int .i64 buyer] 3)).alloc (.cells #[.slice At tr.length capt] 26)).alloc (.cells #[.nilFunc] 71)) w.heap.size 24 #[.int .i64 n, .slice A bs.length cap] := (((Blk.new' _ _ rfl).alloc _).alloc _).alloc _
        have hd4 : Blk ((((w.alloc (.cells #[.int .i64 n, .slice A bs.length cap] 24)).alloc (.cells #[.int .i64 buyer] 3)).alloc (.cells #[.slice At tr.length capt] 26)).alloc (.cells #[.nilFunc] 71)) (w.heap.size + 1) 3 #[.int .i64 buyer] := ((Blk.new' _ _ (by simp)).alloc _).alloc _
        have he4 : Blk ((((w.alloc (.cells #[.int .i64 n, .slice A bs.length cap] 24)).alloc (.cells #[.int .i64 buyer] 3)).alloc (.cells #[.slice At tr.length capt] 26)).alloc (.cells #[.nilFunc] 71)) (w.heap.size + 1 + 1) 26 #[.slice At tr.length capt] := (Blk.new' _ _ (by simp)).alloc _
        have hf4 : Blk ((((w.alloc (.cells #[.int .i64 n, .slice A bs.length cap] 24)).alloc (.cells #[.int .i64 buyer] 3)).alloc (.cells #[.slice At tr.length capt] 26)).alloc (.cells #[.nilFunc] 71)) (w.heap.size + 1 + 1 + 1) 71 #[.nilFunc] := Blk.new' _ _ (by simp)
        have hb4 : Below w.heap.size w ((((w.alloc (.cells #[.int .i64 n, .slice A bs.length cap] 24)).alloc (.cells #[.int .i64 buyer] 3)).alloc (.cells #[.slice At tr.length capt] 26)).alloc (.cells #[.nilFunc] 71)) := ((((Below.refl _ _).alloc (Nat.le_refl _) _).alloc (by simp) _).alloc (by simp; omega) _).alloc (by simp; omega) _
        have hs4 : ((((w.alloc (.cells #[.int .i64 n, .slice A bs.length cap] 24)).alloc (.cells #[.int .i64 buyer] 3)).alloc (.cells #[.slice At tr.length capt] 26)).alloc (.cells #[.nilFunc] 71)).heap.size = w.heap.size + 4 := by simp
        obtain ⟨W4, hW4⟩ : ∃ V, V = (((w.alloc (.cells #[.int .i64 n, .slice A bs.length cap] 24)).alloc (.cells #[.int .i64 buyer] 3)).alloc (.cells #[.slice At tr.length capt] 26)).alloc (.cells #[.nilFunc] 71) := ⟨_, rfl⟩
        rw [← hW4] at hc4 hd4 he4 hf4 hb4 hs4 ⊢
        refine (instance_any n bs _ R W4 (HBS.out.grow hb4)).mono ?_
        rintro e w5 ⟨rfl, hb5⟩
        rw [← HIE.out]
        have hs5 : w.heap.size + 4 ≤ w5.heap.size := by rw [← hs4]; exact hb5.size
        have HC5 := Lib.hid (hc4.grow hb5)
        have HD5 := Lib.hid (hd4.grow hb5)
        have HE5 := Lib.hid (he4.grow hb5)
        have HF5 := Lib.hid (hf4.grow hb5)
        have HB5 := Lib.hid (hb4.trans (hb5.mono hb4.size))
        have x0 : w5.cell? ⟨w.heap.size, 0, none⟩ = some (.int .i64 n) := HC5.out.cell 0
        have x1 : w5.cell? ⟨w.heap.size, 1, none⟩ = some (.slice A bs.length cap) := HC5.out.cell 1
        have xb : w5.cell? ⟨w.heap.size + 1, 0, none⟩ = some (.int .i64 buyer) := HD5.out.cell 0
        have xt : w5.cell? ⟨w.heap.size + 1 + 1, 0, none⟩ = some (.slice At tr.length capt) := HE5.out.cell 0
        have xp : w5.cell? ⟨w.heap.size + 1 + 1 + 1, 0, none⟩ = some (.nilFunc) := HF5.out.cell 0
        clear hc4 hd4 he4 hf4 hb4 hs4 hb5 hW4
        go_wp2_with fail
        show P (.returned (.tuple #[.nilFunc, .int .i64 (2)])) _
        rw [HP.out]
        exact ⟨HB5.out, .inl ⟨by rw [HEQ.out]; exact HNZ.out, by rw [HEQ.out]⟩⟩
      · by_cases hb1 : (bs.length : Int) ≤ buyer
        · have HEQ := Lib.hid (show askedE n bs buyer r (tr :: ts) = 2 from by unfold askedE; rw [if_neg (by simpa using HI0.out), if_pos (.inr (.inl hb1))])
          have HNZ := Lib.hid (show (2 : Int) ≠ 0 by decide)
          clear hr12
          go_enter Tryz.func19, Tryz.ntmps19
          go_wp2_with fail
          refine (pays_any r hr _).mono ?_
          rintro e w1 ⟨rfl, rfl⟩
          rw [hpf]
          go_wp2_with fail
          have hc4 : Blk ((((w.alloc (.cells #[.int .i64 n, .slice A bs.length cap] 24)).alloc (.cells #[.int .i64 buyer] 3)).alloc (.cells #[.slice At tr.length capt] 26)).alloc (.cells #[.nilFunc] 71)) w.heap.size 24 #[.int .i64 n, .slice A bs.length cap] := (((Blk.new' _ _ rfl).alloc _).alloc _).alloc _
          have hd4 : Blk ((((w.alloc (.cells #[.int .i64 n, .slice A bs.length cap] 24)).alloc (.cells #[.int .i64 buyer] 3)).alloc (.cells #[.slice At tr.length capt] 26)).alloc (.cells #[.nilFunc] 71)) (w.heap.size + 1) 3 #[.int .i64 buyer] := ((Blk.new' _ _ (by simp)).alloc _).alloc _
          have he4 : Blk ((((w.alloc (.cells #[.int .i64 n, .slice A bs.length cap] 24)).alloc (.cells #[.int .i64 buyer] 3)).alloc (.cells #[.slice At tr.length capt] 26)).alloc (.cells #[.nilFunc] 71)) (w.heap.size + 1 + 1) 26 #[.slice At tr.length capt] := (Blk.new' _ _ (by simp)).alloc _
          have hf4 : Blk ((((w.alloc (.cells #[.int .i64 n, .slice A bs.length cap] 24)).alloc (.cells #[.int .i64 buyer] 3)).alloc (.cells #[.slice At tr.length capt] 26)).alloc (.cells #[.nilFunc] 71)) (w.heap.size + 1 + 1 + 1) 71 #[.nilFunc] := Blk.new' _ _ (by simp)
          have hb4 : Below w.heap.size w ((((w.alloc (.cells #[.int .i64 n, .slice A bs.length cap] 24)).alloc (.cells #[.int .i64 buyer] 3)).alloc (.cells #[.slice At tr.length capt] 26)).alloc (.cells #[.nilFunc] 71)) := ((((Below.refl _ _).alloc (Nat.le_refl _) _).alloc (by simp) _).alloc (by simp; omega) _).alloc (by simp; omega) _
          have hs4 : ((((w.alloc (.cells #[.int .i64 n, .slice A bs.length cap] 24)).alloc (.cells #[.int .i64 buyer] 3)).alloc (.cells #[.slice At tr.length capt] 26)).alloc (.cells #[.nilFunc] 71)).heap.size = w.heap.size + 4 := by simp
          obtain ⟨W4, hW4⟩ : ∃ V, V = (((w.alloc (.cells #[.int .i64 n, .slice A bs.length cap] 24)).alloc (.cells #[.int .i64 buyer] 3)).alloc (.cells #[.slice At tr.length capt] 26)).alloc (.cells #[.nilFunc] 71) := ⟨_, rfl⟩
          rw [← hW4] at hc4 hd4 he4 hf4 hb4 hs4 ⊢
          refine (instance_any n bs _ R W4 (HBS.out.grow hb4)).mono ?_
          rintro e w5 ⟨rfl, hb5⟩
          rw [← HIE.out]
          have hs5 : w.heap.size + 4 ≤ w5.heap.size := by rw [← hs4]; exact hb5.size
          have HC5 := Lib.hid (hc4.grow hb5)
          have HD5 := Lib.hid (hd4.grow hb5)
          have HE5 := Lib.hid (he4.grow hb5)
          have HF5 := Lib.hid (hf4.grow hb5)
          have HB5 := Lib.hid (hb4.trans (hb5.mono hb4.size))
          have x0 : w5.cell? ⟨w.heap.size, 0, none⟩ = some (.int .i64 n) := HC5.out.cell 0
          have x1 : w5.cell? ⟨w.heap.size, 1, none⟩ = some (.slice A bs.length cap) := HC5.out.cell 1
          have xb : w5.cell? ⟨w.heap.size + 1, 0, none⟩ = some (.int .i64 buyer) := HD5.out.cell 0
          have xt : w5.cell? ⟨w.heap.size + 1 + 1, 0, none⟩ = some (.slice At tr.length capt) := HE5.out.cell 0
          have xp : w5.cell? ⟨w.heap.size + 1 + 1 + 1, 0, none⟩ = some (.nilFunc) := HF5.out.cell 0
          clear hc4 hd4 he4 hf4 hb4 hs4 hb5 hW4
          go_wp2_with fail
          show P (.returned (.tuple #[.nilFunc, .int .i64 (2)])) _
          rw [HP.out]
          exact ⟨HB5.out, .inl ⟨by rw [HEQ.out]; exact HNZ.out, by rw [HEQ.out]⟩⟩
        · have HEQ := Lib.hid (show askedE n bs buyer r (tr :: ts) = 2 from by unfold askedE; rw [if_neg (by simpa using HI0.out), if_pos (.inr (.inr hr12))])
          have HNZ := Lib.hid (show (2 : Int) ≠ 0 by decide)
          clear hr12
          go_enter Tryz.func19, Tryz.ntmps19
          go_wp2_with fail
          refine (pays_any r hr _).mono ?_
          rintro e w1 ⟨rfl, rfl⟩
          rw [hpf]
          go_wp2_with fail
          have hc4 : Blk ((((w.alloc (.cells #[.int .i64 n, .slice A bs.length cap] 24)).alloc (.cells #[.int .i64 buyer] 3)).alloc (.cells #[.slice At tr.length capt] 26)).alloc (.cells #[.nilFunc] 71)) w.heap.size 24 #[.int .i64 n, .slice A bs.length cap] := (((Blk.new' _ _ rfl).alloc _).alloc _).alloc _
          have hd4 : Blk ((((w.alloc (.cells #[.int .i64 n, .slice A bs.length cap] 24)).alloc (.cells #[.int .i64 buyer] 3)).alloc (.cells #[.slice At tr.length capt] 26)).alloc (.cells #[.nilFunc] 71)) (w.heap.size + 1) 3 #[.int .i64 buyer] := ((Blk.new' _ _ (by simp)).alloc _).alloc _
          have he4 : Blk ((((w.alloc (.cells #[.int .i64 n, .slice A bs.length cap] 24)).alloc (.cells #[.int .i64 buyer] 3)).alloc (.cells #[.slice At tr.length capt] 26)).alloc (.cells #[.nilFunc] 71)) (w.heap.size + 1 + 1) 26 #[.slice At tr.length capt] := (Blk.new' _ _ (by simp)).alloc _
          have hf4 : Blk ((((w.alloc (.cells #[.int .i64 n, .slice A bs.length cap] 24)).alloc (.cells #[.int .i64 buyer] 3)).alloc (.cells #[.slice At tr.length capt] 26)).alloc (.cells #[.nilFunc] 71)) (w.heap.size + 1 + 1 + 1) 71 #[.nilFunc] := Blk.new' _ _ (by simp)
          have hb4 : Below w.heap.size w ((((w.alloc (.cells #[.int .i64 n, .slice A bs.length cap] 24)).alloc (.cells #[.int .i64 buyer] 3)).alloc (.cells #[.slice At tr.length capt] 26)).alloc (.cells #[.nilFunc] 71)) := ((((Below.refl _ _).alloc (Nat.le_refl _) _).alloc (by simp) _).alloc (by simp; omega) _).alloc (by simp; omega) _
          have hs4 : ((((w.alloc (.cells #[.int .i64 n, .slice A bs.length cap] 24)).alloc (.cells #[.int .i64 buyer] 3)).alloc (.cells #[.slice At tr.length capt] 26)).alloc (.cells #[.nilFunc] 71)).heap.size = w.heap.size + 4 := by simp
          obtain ⟨W4, hW4⟩ : ∃ V, V = (((w.alloc (.cells #[.int .i64 n, .slice A bs.length cap] 24)).alloc (.cells #[.int .i64 buyer] 3)).alloc (.cells #[.slice At tr.length capt] 26)).alloc (.cells #[.nilFunc] 71) := ⟨_, rfl⟩
          rw [← hW4] at hc4 hd4 he4 hf4 hb4 hs4 ⊢
          refine (instance_any n bs _ R W4 (HBS.out.grow hb4)).mono ?_
          rintro e w5 ⟨rfl, hb5⟩
          rw [← HIE.out]
          have hs5 : w.heap.size + 4 ≤ w5.heap.size := by rw [← hs4]; exact hb5.size
          have HC5 := Lib.hid (hc4.grow hb5)
          have HD5 := Lib.hid (hd4.grow hb5)
          have HE5 := Lib.hid (he4.grow hb5)
          have HF5 := Lib.hid (hf4.grow hb5)
          have HB5 := Lib.hid (hb4.trans (hb5.mono hb4.size))
          have x0 : w5.cell? ⟨w.heap.size, 0, none⟩ = some (.int .i64 n) := HC5.out.cell 0
          have x1 : w5.cell? ⟨w.heap.size, 1, none⟩ = some (.slice A bs.length cap) := HC5.out.cell 1
          have xb : w5.cell? ⟨w.heap.size + 1, 0, none⟩ = some (.int .i64 buyer) := HD5.out.cell 0
          have xt : w5.cell? ⟨w.heap.size + 1 + 1, 0, none⟩ = some (.slice At tr.length capt) := HE5.out.cell 0
          have xp : w5.cell? ⟨w.heap.size + 1 + 1 + 1, 0, none⟩ = some (.nilFunc) := HF5.out.cell 0
          clear hc4 hd4 he4 hf4 hb4 hs4 hb5 hW4
          go_wp2_with fail
          show P (.returned (.tuple #[.nilFunc, .int .i64 (2)])) _
          rw [HP.out]
          exact ⟨HB5.out, .inl ⟨by rw [HEQ.out]; exact HNZ.out, by rw [HEQ.out]⟩⟩
  · have HEQ := Lib.hid (show askedE n bs buyer r (tr :: ts) = ie from by unfold askedE; rw [if_pos (by rw [← HIE.out]; exact hi), HIE.out])
    have HNZ := Lib.hid hi
    have hne : (ie != 0) = true := by simpa using hi
    rcases hpfc with ⟨q, hpf, hr12⟩ | ⟨hpf, hr12⟩
    · clear hr12 hi
      go_enter Tryz.func19, Tryz.ntmps19
      go_wp2_with fail
      refine (pays_any r hr _).mono ?_
      rintro e w1 ⟨rfl, rfl⟩
      rw [hpf]
      go_wp2_with fail
      have hc4 : Blk ((((w.alloc (.cells #[.int .i64 n, .slice A bs.length cap] 24)).alloc (.cells #[.int .i64 buyer] 3)).alloc (.cells #[.slice At tr.length capt] 26)).alloc (.cells #[.func (.func q) #[] #[]] 71)) w.heap.size 24 #[.int .i64 n, .slice A bs.length cap] := (((Blk.new' _ _ rfl).alloc _).alloc _).alloc _
      have hd4 : Blk ((((w.alloc (.cells #[.int .i64 n, .slice A bs.length cap] 24)).alloc (.cells #[.int .i64 buyer] 3)).alloc (.cells #[.slice At tr.length capt] 26)).alloc (.cells #[.func (.func q) #[] #[]] 71)) (w.heap.size + 1) 3 #[.int .i64 buyer] := ((Blk.new' _ _ (by simp)).alloc _).alloc _
      have he4 : Blk ((((w.alloc (.cells #[.int .i64 n, .slice A bs.length cap] 24)).alloc (.cells #[.int .i64 buyer] 3)).alloc (.cells #[.slice At tr.length capt] 26)).alloc (.cells #[.func (.func q) #[] #[]] 71)) (w.heap.size + 1 + 1) 26 #[.slice At tr.length capt] := (Blk.new' _ _ (by simp)).alloc _
      have hf4 : Blk ((((w.alloc (.cells #[.int .i64 n, .slice A bs.length cap] 24)).alloc (.cells #[.int .i64 buyer] 3)).alloc (.cells #[.slice At tr.length capt] 26)).alloc (.cells #[.func (.func q) #[] #[]] 71)) (w.heap.size + 1 + 1 + 1) 71 #[.func (.func q) #[] #[]] := Blk.new' _ _ (by simp)
      have hb4 : Below w.heap.size w ((((w.alloc (.cells #[.int .i64 n, .slice A bs.length cap] 24)).alloc (.cells #[.int .i64 buyer] 3)).alloc (.cells #[.slice At tr.length capt] 26)).alloc (.cells #[.func (.func q) #[] #[]] 71)) := ((((Below.refl _ _).alloc (Nat.le_refl _) _).alloc (by simp) _).alloc (by simp; omega) _).alloc (by simp; omega) _
      have hs4 : ((((w.alloc (.cells #[.int .i64 n, .slice A bs.length cap] 24)).alloc (.cells #[.int .i64 buyer] 3)).alloc (.cells #[.slice At tr.length capt] 26)).alloc (.cells #[.func (.func q) #[] #[]] 71)).heap.size = w.heap.size + 4 := by simp
      obtain ⟨W4, hW4⟩ : ∃ V, V = (((w.alloc (.cells #[.int .i64 n, .slice A bs.length cap] 24)).alloc (.cells #[.int .i64 buyer] 3)).alloc (.cells #[.slice At tr.length capt] 26)).alloc (.cells #[.func (.func q) #[] #[]] 71) := ⟨_, rfl⟩
      rw [← hW4] at hc4 hd4 he4 hf4 hb4 hs4 ⊢
      refine (instance_any n bs _ R W4 (HBS.out.grow hb4)).mono ?_
      rintro e w5 ⟨rfl, hb5⟩
      rw [← HIE.out]
      have hs5 : w.heap.size + 4 ≤ w5.heap.size := by rw [← hs4]; exact hb5.size
      have HC5 := Lib.hid (hc4.grow hb5)
      have HD5 := Lib.hid (hd4.grow hb5)
      have HE5 := Lib.hid (he4.grow hb5)
      have HF5 := Lib.hid (hf4.grow hb5)
      have HB5 := Lib.hid (hb4.trans (hb5.mono hb4.size))
      have x0 : w5.cell? ⟨w.heap.size, 0, none⟩ = some (.int .i64 n) := HC5.out.cell 0
      have x1 : w5.cell? ⟨w.heap.size, 1, none⟩ = some (.slice A bs.length cap) := HC5.out.cell 1
      have xb : w5.cell? ⟨w.heap.size + 1, 0, none⟩ = some (.int .i64 buyer) := HD5.out.cell 0
      have xt : w5.cell? ⟨w.heap.size + 1 + 1, 0, none⟩ = some (.slice At tr.length capt) := HE5.out.cell 0
      have xp : w5.cell? ⟨w.heap.size + 1 + 1 + 1, 0, none⟩ = some (.func (.func q) #[] #[]) := HF5.out.cell 0
      clear hc4 hd4 he4 hf4 hb4 hs4 hb5 hW4
      go_wp2_with fail
      show P (.returned (.tuple #[.nilFunc, .int .i64 (ie)])) _
      rw [HP.out]
      exact ⟨HB5.out, .inl ⟨by rw [HEQ.out]; exact HNZ.out, by rw [HEQ.out]⟩⟩
    · clear hr12 hi
      go_enter Tryz.func19, Tryz.ntmps19
      go_wp2_with fail
      refine (pays_any r hr _).mono ?_
      rintro e w1 ⟨rfl, rfl⟩
      rw [hpf]
      go_wp2_with fail
      have hc4 : Blk ((((w.alloc (.cells #[.int .i64 n, .slice A bs.length cap] 24)).alloc (.cells #[.int .i64 buyer] 3)).alloc (.cells #[.slice At tr.length capt] 26)).alloc (.cells #[.nilFunc] 71)) w.heap.size 24 #[.int .i64 n, .slice A bs.length cap] := (((Blk.new' _ _ rfl).alloc _).alloc _).alloc _
      have hd4 : Blk ((((w.alloc (.cells #[.int .i64 n, .slice A bs.length cap] 24)).alloc (.cells #[.int .i64 buyer] 3)).alloc (.cells #[.slice At tr.length capt] 26)).alloc (.cells #[.nilFunc] 71)) (w.heap.size + 1) 3 #[.int .i64 buyer] := ((Blk.new' _ _ (by simp)).alloc _).alloc _
      have he4 : Blk ((((w.alloc (.cells #[.int .i64 n, .slice A bs.length cap] 24)).alloc (.cells #[.int .i64 buyer] 3)).alloc (.cells #[.slice At tr.length capt] 26)).alloc (.cells #[.nilFunc] 71)) (w.heap.size + 1 + 1) 26 #[.slice At tr.length capt] := (Blk.new' _ _ (by simp)).alloc _
      have hf4 : Blk ((((w.alloc (.cells #[.int .i64 n, .slice A bs.length cap] 24)).alloc (.cells #[.int .i64 buyer] 3)).alloc (.cells #[.slice At tr.length capt] 26)).alloc (.cells #[.nilFunc] 71)) (w.heap.size + 1 + 1 + 1) 71 #[.nilFunc] := Blk.new' _ _ (by simp)
      have hb4 : Below w.heap.size w ((((w.alloc (.cells #[.int .i64 n, .slice A bs.length cap] 24)).alloc (.cells #[.int .i64 buyer] 3)).alloc (.cells #[.slice At tr.length capt] 26)).alloc (.cells #[.nilFunc] 71)) := ((((Below.refl _ _).alloc (Nat.le_refl _) _).alloc (by simp) _).alloc (by simp; omega) _).alloc (by simp; omega) _
      have hs4 : ((((w.alloc (.cells #[.int .i64 n, .slice A bs.length cap] 24)).alloc (.cells #[.int .i64 buyer] 3)).alloc (.cells #[.slice At tr.length capt] 26)).alloc (.cells #[.nilFunc] 71)).heap.size = w.heap.size + 4 := by simp
      obtain ⟨W4, hW4⟩ : ∃ V, V = (((w.alloc (.cells #[.int .i64 n, .slice A bs.length cap] 24)).alloc (.cells #[.int .i64 buyer] 3)).alloc (.cells #[.slice At tr.length capt] 26)).alloc (.cells #[.nilFunc] 71) := ⟨_, rfl⟩
      rw [← hW4] at hc4 hd4 he4 hf4 hb4 hs4 ⊢
      refine (instance_any n bs _ R W4 (HBS.out.grow hb4)).mono ?_
      rintro e w5 ⟨rfl, hb5⟩
      rw [← HIE.out]
      have hs5 : w.heap.size + 4 ≤ w5.heap.size := by rw [← hs4]; exact hb5.size
      have HC5 := Lib.hid (hc4.grow hb5)
      have HD5 := Lib.hid (hd4.grow hb5)
      have HE5 := Lib.hid (he4.grow hb5)
      have HF5 := Lib.hid (hf4.grow hb5)
      have HB5 := Lib.hid (hb4.trans (hb5.mono hb4.size))
      have x0 : w5.cell? ⟨w.heap.size, 0, none⟩ = some (.int .i64 n) := HC5.out.cell 0
      have x1 : w5.cell? ⟨w.heap.size, 1, none⟩ = some (.slice A bs.length cap) := HC5.out.cell 1
      have xb : w5.cell? ⟨w.heap.size + 1, 0, none⟩ = some (.int .i64 buyer) := HD5.out.cell 0
      have xt : w5.cell? ⟨w.heap.size + 1 + 1, 0, none⟩ = some (.slice At tr.length capt) := HE5.out.cell 0
      have xp : w5.cell? ⟨w.heap.size + 1 + 1 + 1, 0, none⟩ = some (.nilFunc) := HF5.out.cell 0
      clear hc4 hd4 he4 hf4 hb4 hs4 hb5 hW4
      go_wp2_with fail
      show P (.returned (.tuple #[.nilFunc, .int .i64 (ie)])) _
      rw [HP.out]
      exact ⟨HB5.out, .inl ⟨by rw [HEQ.out]; exact HNZ.out, by rw [HEQ.out]⟩⟩
end Go.Proofs.YtcigobiolbojhaaGreat.Vb

/- truth.Package. -/
namespace Go.Proofs.YtcigobiolbojhaaGreat.Vb
open Go.RowKit

theorem Buys.one {w : World} {R : Nat → Prop} {v : Value} {l : List Off} (h : Offs w R v l) (t : TypeId) : Buys (w.alloc (.cells #[v] t)) (fun _ => True) (.slice (some ⟨w.heap.size, 0, none⟩) 1 1) [l] :=
  ⟨[v], (Sl.new w #[v] t 1 1 (by unfold maxLen; omega) rfl).any, fun k l' hk => by
    cases k with
    | zero =>
      simp at hk
      subst hk
      exact ⟨v, rfl, (h.alloc _).any⟩
    | succ k => simp at hk⟩
theorem askedE_bd (n : Int) (bs : List (List Off)) (buyer r : Int) (ls : List (List Off)) : -9223372036854775808 ≤ askedE n bs buyer r ls ∧ askedE n bs buyer r ls ≤ 9223372036854775807 := by
  have h0 := instE_bd n bs
  have h1 : ∀ ls : List (List Off), 0 ≤ firstE n ls ∧ firstE n ls ≤ 1000 := by
    intro ls
    induction ls with
    | nil => simp [firstE]
    | cons l ls ih =>
      have := checkE_bd n l
      simp only [firstE]
      split
      · exact this
      · exact ih
  have h2 := h1 ls
  unfold askedE
  split
  · omega
  · split <;> omega

def packV (n : Int) (bs : List (List Off)) (buyer r : Int) (tr ot : List Off) : Value :=
  if askedE n bs buyer r [tr, ot] = 0 then .tuple #[.int .i64 (byV n bs buyer.toNat r tr tr), .int .i64 (byV n bs buyer.toNat r tr ot), .int .i64 0] else .tuple #[.int .i64 0, .int .i64 0, .int .i64 (askedE n bs buyer r [tr, ot])]

set_option maxRecDepth 100000 in
set_option maxHeartbeats 1600000 in
theorem package_any (n : Int) (bs : List (List Off)) (buyer r : Int) (tr ot : List Off) (v vt vo : Value) (R Rt Ro : Nat → Prop) (w : World) (hl : Buys w R v bs) (ht : Offs w Rt vt tr) (ho : Offs w Ro vo ot)
    (hb : -9223372036854775808 ≤ buyer ∧ buyer ≤ 9223372036854775807) (hr : -9223372036854775808 ≤ r ∧ r ≤ 9223372036854775807) :
    Calls Tryz.prog 13 #[.agg #[.int .i64 n, v], .int .i64 buyer, .int .i64 r, vt, vo] w fun e w' => e = .returned (packV n bs buyer r tr ot) ∧ Below w.heap.size w w' := by
  obtain ⟨_, ⟨_, A, cap, rfl, _⟩, _⟩ := id hl
  obtain ⟨⟨_, At, capt, rfl, _⟩, _⟩ := id ht
  obtain ⟨⟨_, Ao, capo, rfl, _⟩, _⟩ := id ho
  have HB := Lib.hid hl
  have HT := Lib.hid ht
  have HO := Lib.hid ho
  clear hl ht ho
  have hbd := askedE_bd n bs buyer r [tr, ot]
  obtain ⟨z, hz⟩ : ∃ z, z = askedE n bs buyer r [tr, ot] := ⟨_, rfl⟩
  obtain ⟨ans, hans⟩ : ∃ a, a = packV n bs buyer r tr ot := ⟨_, rfl⟩
  rw [← hans]
  have HANS := Lib.hid hans
  rw [← hz] at hbd
  have HZ := Lib.hid hz
  clear hz hans
  go_enter Tryz.func13, Tryz.ntmps13
  go_wp2_with fail
  have hone := Buys.one (HO.out.alloc (.cells #[.int .i64 n, .slice A bs.length cap] 24)) 26
  rw [World.size_alloc] at hone
  refine (asked29_any n bs buyer r tr [ot] _ _ _ R Rt (fun _ => True) ((w.alloc (.cells #[.int .i64 n, .slice A bs.length cap] 24)).alloc (.cells #[.slice Ao ot.length capo] 26)) ((HB.out.alloc _).alloc _) ((HT.out.alloc _).alloc _) hone (by simp) hb hr).mono ?_
  clear hone
  rintro e w1 ⟨hb1, hcase⟩
  have HB1 := Lib.hid ((((Below.refl w.heap.size w).alloc (Nat.le_refl _) (.cells #[.int .i64 n, .slice A bs.length cap] 24)).alloc (by simp) (.cells #[.slice Ao ot.length capo] 26)).trans (hb1.mono (by simp; omega)))
  clear hb1
  rw [← HZ.out] at hcase
  rcases hcase with ⟨hne, rfl⟩ | ⟨h0, k, b5, b6, b12, b8, vb, vt', hbk, hA, rfl⟩
  · have hcb : (z != 0) = true := by simpa using hne
    have HA := Lib.hid (show ans = .tuple #[.int .i64 0, .int .i64 0, .int .i64 z] from by rw [HANS.out]; unfold packV; rw [← HZ.out, if_neg hne])
    clear hne
    go_wp2_with fail
    exact bodyPost_ret (v := .tuple #[.int .i64 0, .int .i64 0, .int .i64 z]) (by simp [results, Tryz.results13, go_sem]) rfl ⟨by rw [HA.out], HB1.out⟩
  · subst h0
    obtain ⟨h1, h2, h3, h4, h5⟩ := askedE_zero HZ.out.symm
    have hk : k < bs.length := by omega
    have HAN := Lib.hid (show ans = .tuple #[.int .i64 (byV n bs k r tr tr), .int .i64 (byV n bs k r tr ot), .int .i64 0] from by rw [HANS.out]; unfold packV; rw [← HZ.out, if_pos rfl, hbk, Int.toNat_natCast])
    have HA := Lib.hid hA
    have HI := Lib.hid h1
    have HR := Lib.hid h4
    have HCT := Lib.hid (h5 tr (by simp))
    have HCO := Lib.hid (h5 ot (by simp))
    clear hbk h1 h2 h3 h4 h5 hA hbd
    go_wp2_with fail
    refine (asked1_any _ b5 b6 b12 b8 n bs k r tr tr vb vt' _ Rt w1 HA.out HR.out HI.out hk (HT.out.grow HB1.out) HCT.out).mono ?_
    rintro e w2 ⟨rfl, hb2⟩
    have HA2 := Lib.hid (HA.out.grow hb2)
    have HB2 := Lib.hid (HB1.out.trans (hb2.mono HB1.out.size))
    clear hb2
    go_wp2_with fail
    refine (asked1_any _ b5 b6 b12 b8 n bs k r tr ot vb vt' _ Ro w2 HA2.out HR.out HI.out hk (HO.out.grow HB2.out) HCO.out).mono ?_
    rintro e w3 ⟨rfl, hb3⟩
    have HB3 := Lib.hid (HB2.out.trans (hb3.mono HB2.out.size))
    clear hb3
    go_wp2_with fail
    exact bodyPost_ret (v := .tuple #[.int .i64 (byV n bs k r tr tr), .int .i64 (byV n bs k r tr ot), .int .i64 0]) (by simp [results, Tryz.results13, go_sem]) rfl ⟨by rw [HAN.out], HB3.out⟩
end Go.Proofs.YtcigobiolbojhaaGreat.Vb

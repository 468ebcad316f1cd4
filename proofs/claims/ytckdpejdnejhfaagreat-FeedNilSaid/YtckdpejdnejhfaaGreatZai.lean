/- Joined by program: FdU FdV FdK FdM FdY FdZ OnZ. -/
import Derived.Test.YtckdpejdnejhfaaGreatZah
import Derived.Test.YtckdpejdnejhfaaGreatZv
import Derived.Test.YtckdpejdnejhfaaGreatZm
import Derived.Test.YtckdpejdnejhfaaGreatZa
import Derived.Conc.HoldsTime
import Derived.Handed
/- Feed: All of a watcher that is not there tells nothing; nothing. -/
set_option linter.all false
namespace Go.Proofs.YtckdpejdnejhfaaGreat.Fd
open Go.RowKit
open Go.Proofs.YtckdpejdnejhfaaGreat.Vb Go.Proofs.YtckdpejdnejhfaaGreat.Ac Go.Proofs.YtckdpejdnejhfaaGreat.Ho
attribute [local go_sem] Oper.semAt_some

set_option maxRecDepth 100000 in
set_option maxHeartbeats 4000000 in
theorem all1_stops (nn : Nat) (hn : 1 ≤ nn) (g : Nat) (v : Value) (w : World) (hg : Ac.Blk w g 28 #[v]) (hv : WNo w v) :
    SeqStopsX Fence.wide nn Tryz.prog 60 #[.pointer (some ⟨g, 0, none⟩)] (fun x : ToldR => #[toldV x]) (fun _ => False) (fun ys => ys = []) (fun _ => True) 0 w := fun l J Jx W hW hJ hJx hY h0 => by
  refine callsIn_of_wp Tryz.func60 rfl trivial ?_ rfl
  have g0 : W.cell? ⟨g, 0, none⟩ = some v := (hg.grow hW).cell 0
  have HT := Lib.hid (take_no (hv.grow hW))
  have H0 := Lib.hid h0
  clear hJ hJx hY h0 hg hv
  simp only [Tryz.ntmps60, List.size_toArray, List.length_cons, List.length_nil, Nat.reduceAdd, Nat.reduceSub, Array.replicate_succ, Array.replicate_zero, List.push_toArray, List.append_toArray, List.nil_append, List.cons_append]
  gi_wp2
  refine ⟨trivial, (callsIn_wide.2 HT.out).mono ?_⟩
  rintro e W1 ⟨rfl, hb1⟩
  have HB1 := Lib.hid hb1
  clear hb1 g0
  unfold zTold
  gi_wp2
  gi_loopw [4] (fun i wr => i = .bool false ∧ Below W.heap.size W wr) (fun _ _ => 0)
  case atStart => exact ⟨rfl, HB1.out.alloc HB1.out.size _⟩
  case round =>
    obtain ⟨rfl, hb⟩ := hrel
    have HB := Lib.hid hb
    clear hb
    gi_wp2
    refine ⟨fun _ h => (by cases h), ?_⟩
    gi_wp2
    go_end0
    exact ⟨⟨_, rfl⟩, wr.heap.size, HB.out.size, .inl ⟨[], rfl, H0.out wr HB.out⟩⟩
theorem chg_put0 (W : World) (l : Nat) (o : Obj) : Chg (· = l) W (W.putObj l o) := ⟨rfl, rfl, rfl, by simp, fun k _ hn => World.putObj_heap_other hn⟩
set_option maxRecDepth 100000 in
set_option maxHeartbeats 4000000 in
theorem silent_no {W : World} {v : Value} (h : WNo W v) : Calls Tryz.prog 30 #[v] W fun e W' => e = .returned (.bool true) ∧ Below W.heap.size W W' := by
  obtain ⟨p, rfl⟩ := h.ptr
  obtain ⟨W1, hW1⟩ : ∃ W1, W1 = W.alloc (.cells #[.bool false] 4) := ⟨_, rfl⟩
  have hb1 : Below W.heap.size W W1 := by rw [hW1]; exact (Below.refl _ _).alloc (Nat.le_refl _) _
  have HX1 := Lib.hid (show Ac.Blk W1 W.heap.size 4 #[.bool false] by rw [hW1]; exact Ac.Blk.new _ _ _)
  have HB1 := Lib.hid hb1
  have H := Lib.hid (h.grow hb1)
  have hs1 := HX1.out.lt
  clear h hb1
  refine (callsIn_wide (n := 3)).1 (callsIn_of_wp_marks Tryz.func30 rfl trivial ((wpIn_wide (n := 3)).2 ?_))
  simp only [Tryz.ntmps30, List.size_toArray, List.length_cons, List.length_nil, Nat.reduceAdd, Nat.reduceSub, Array.replicate_succ, Array.replicate_zero, List.push_toArray, List.append_toArray, List.nil_append, List.cons_append]
  go_wp2_with fail
  rw [← hW1]
  clear hW1
  refine all_ok.mono ?_
  rintro e W2 ⟨g, rfl, hg, hgs, hb2⟩
  have HG := Lib.hid hg
  have HB2 := Lib.hid (HB1.out.trans (hb2.mono HB1.out.size))
  have HX2 := Lib.hid (HX1.out.grow hb2)
  have HW2 := Lib.hid (H.out.grow hb2)
  have heq : ∀ w, (binOp .eql 102 (.func (.func 60) #[] #[.pointer (some ⟨g, 0, none⟩)]) .nilFunc).run Tryz.prog w = .ok (.bool false) w := fun w => by kernel_rfl
  clear hg hgs hb2
  go_wp2_with fail
  refine (wpIn_wide (n := 3)).1 ?_
  refine' wpIn_rangeFunc_X (F := Fence.wide) (n := 3) rfl (by omega) (gf := 60) (lb := #[.pointer (some ⟨g, 0, none⟩)]) rfl trivial (enters_of Tryz.func60 (by kernel_rfl) rfl)
    (all1_stops 2 (by omega) g _ W2 HG.out HW2.out) (fun b hb => hb.elim) (Below.refl _ _) (fun _ => rfl)
    (fun _ _ V => Below W2.heap.size W2 V) (fun _ _ _ _ => False) (fun _ => ownFrom_below (Nat.le_refl _) (Nat.le_refl _)) (fun _ _ => fun _ _ _ _ h _ _ => h) (fun W0 hW0 => hW0) _ ?assign ?body ?done ?stop
  case assign =>
    intro l x W' K' hK'
    gi_wp2
    exact hK'
  case body =>
    intro hi l pr x W' _ _ _ hlt
    exact absurd hlt (Nat.not_lt_zero _)
  case done =>
    rintro hi D ys W' hD hys hI hK
    have hx := HX2.out.grow hI
    have x0 : W'.cell? ⟨W.heap.size, 0, none⟩ = some (.bool false) := hx.cell 0
    have xf := hx.frozen
    have HX := Lib.hid hx
    have HI := Lib.hid hI
    have HK := Lib.hid hK
    have HD := Lib.hid hD
    clear hx hI hK hD
    dsimp only
    go_wp2_with fail
    have hfin := HX.out.set_ 0 (.bool true)
    have hst := Chg.set W' ⟨W.heap.size, 0, none⟩ (.bool true)
    have hkD := (Array.getElem?_eq_some_iff.1 HK.out).1
    have hd := HD.out
    have h2 := HB2.out.size
    have hx2 := HX2.out.lt
    have hq := (hst.block D hkD (by simp; omega)).trans HK.out
    refine ⟨by simp, .inl ⟨_, _, rfl, run_takeDeferred hq, ?_⟩⟩
    have hpt := chg_put0 (W'.setCell ⟨W.heap.size, 0, none⟩ (.bool true)) D (.deferred none)
    have hf2 := (hfin.chg hpt (by omega)).cell 0
    simp at hf2
    refine ⟨.bool true, by simp [results, Tryz.results30, go_sem, hf2], rfl, ?_⟩
    exact (((Chg.of (fun _ => False) (HB2.out.trans (HI.out.mono h2))).step (Y := fun x => x = W.heap.size) hst fun b hb e => by omega).step hpt fun b hb e => by omega).below (Nat.le_refl _) fun _ _ => id
  case stop => exact fun _ _ _ _ _ _ _ h _ => h.elim
end Go.Proofs.YtckdpejdnejhfaaGreat.Fd

/- Feed: nothing: feeds and watchers that are not there; Run at none, and with too many rooms. -/
namespace Go.Proofs.YtckdpejdnejhfaaGreat.Fd
open Go.RowKit
open Go.Proofs.YtckdpejdnejhfaaGreat.Vb Go.Proofs.YtckdpejdnejhfaaGreat.Ac Go.Proofs.YtckdpejdnejhfaaGreat.Ho
attribute [local go_sem] Oper.semAt_some

set_option maxRecDepth 100000
theorem num28_any (x : Int) (W : World) : Calls Tryz.prog 8 #[.int .i64 x] W fun e W' => e = .returned (.int .i64 x) ∧ W' = W := by
  go_enter Tryz.func8, Tryz.ntmps8
  go_wp2_with fail
  go_ret
  exact ⟨rfl, rfl⟩
def zeroOrd : OrderR := ⟨0, { data := #[] }, 0, 0, 0, ⟨0, 0, 0, 0, 0, 0, 0, 0, 0, 0, 0⟩, [], 0⟩
set_option maxHeartbeats 4000000 in
theorem nothing_any {W : World} {v1 v2 : Value} (h1 : FNo W v1) (h2 : WNo W v2) : Calls Tryz.prog 11 #[v1, v2] W fun e W' => e = .returned (.bool true) ∧ Below W.heap.size W W' := by
  have H1 := Lib.hid h1
  have H2 := Lib.hid h2
  have hdo := fun (U : World) (hU : Below W.heap.size W U) => fdo_no (H1.out.grow hU) zeroOrd (.slice none 0 0)
  simp only [zeroOrd, OrderR.agg, OrderR.cells, LotR.cells, List.cons_append, List.nil_append] at hdo
  have HDO := Lib.hid hdo
  clear h1 h2 hdo
  go_enter Tryz.func11, Tryz.ntmps11
  go_wp2_with fail
  refine (watch_no H1.out 1).mono ?_
  rintro e w1 ⟨rfl, hw⟩
  rw [hw]
  clear hw
  go_wp2_with fail
  refine (take_no H2.out).mono ?_
  rintro e W2 ⟨rfl, hb2⟩
  have HB2 := Lib.hid (hb2.alloc hb2.size (.cells #[.int .i64 0, .int .i64 0, .int .i64 0, .int .i64 0, .int .i64 0, .int .i64 0, .int .i64 0] 66))
  clear hb2
  unfold zTold
  go_wp2_with fail
  refine (HDO.out _ HB2.out).mono ?_
  rintro e W3 ⟨rfl, hb3⟩
  have HB3 := Lib.hid (HB2.out.trans (hb3.mono HB2.out.size))
  clear hb3
  go_wp2_with fail
  refine (num28_any 1 _).mono ?_
  rintro e w1 ⟨rfl, hw⟩
  rw [hw]
  clear hw
  go_wp2_with fail
  refine (came_no (H1.out.grow HB3.out)).mono ?_
  rintro e w1 ⟨rfl, hw⟩
  rw [hw]
  clear hw
  go_wp2_with fail
  refine (watchers_no (H1.out.grow HB3.out)).mono ?_
  rintro e w1 ⟨rfl, hw⟩
  rw [hw]
  clear hw
  go_wp2_with fail
  refine (waiting_no (H2.out.grow HB3.out)).mono ?_
  rintro e w1 ⟨rfl, hw⟩
  rw [hw]
  clear hw
  go_wp2_with fail
  refine (missed_no (H2.out.grow HB3.out)).mono ?_
  rintro e w1 ⟨rfl, hw⟩
  rw [hw]
  clear hw
  go_wp2_with fail
  refine (leave_no (H2.out.grow HB3.out)).mono ?_
  rintro e W4 ⟨rfl, hb4⟩
  have HB4 := Lib.hid (HB3.out.trans (hb4.mono HB3.out.size))
  clear hb4
  go_wp2_with fail
  refine (num28_any 1 _).mono ?_
  rintro e w1 ⟨rfl, hw⟩
  rw [hw]
  clear hw
  go_wp2_with fail
  refine (silent_no (H2.out.grow HB4.out)).mono ?_
  rintro e W5 ⟨rfl, hb5⟩
  have HB5 := Lib.hid (HB4.out.trans (hb5.mono HB4.out.size))
  clear hb5
  go_wp2_with fail
  go_ret
  exact ⟨rfl, HB5.out⟩
theorem results_tmp3 {fn : Func} {t u v : Tmp} (h : fn.results = #[.tmp t, .tmp u, .tmp v]) (tmps : Array Value) (P : Program) (w : World) :
    (results fn tmps).run P w = .ok (.tuple #[tmps.getD t undef, tmps.getD u undef, tmps.getD v undef]) w := by
  simp [results, h]
set_option maxHeartbeats 4000000 in
theorem run_none {W : World} {v : Value} : Calls Tryz.prog 9 #[.pointer none, v, .slice none 0 0] W fun e W' => e = .returned (.tuple #[.slice none 0 0, .slice none 0 0, .int .i64 1]) ∧ Below W.heap.size W W' := by
  obtain ⟨W1, hW1⟩ : ∃ W1, W1 = W.alloc (.cells #[.slice none 0 0] 46) := ⟨_, rfl⟩
  have hb1 : Below W.heap.size W W1 := by rw [hW1]; exact (Below.refl _ _).alloc (Nat.le_refl _) _
  have HB1 := Lib.hid hb1
  clear hb1
  go_enter Tryz.func9, Tryz.ntmps9
  go_wp2_with fail
  rw [← hW1]
  clear hW1
  refine fnew_no.mono ?_
  rintro e W2 ⟨rfl, hb2⟩
  have HB2 := Lib.hid (HB1.out.trans (hb2.mono HB1.out.size))
  clear hb2
  go_wp2_with fail
  refine bodyPost_ret (results_tmp3 rfl _ _ _) rfl ?_
  exact ⟨rfl, HB2.out.alloc HB2.out.size _⟩
set_option maxHeartbeats 4000000 in
theorem run_many {W : World} {T : Nat → Part} {h K : Nat} {H : House} (hH : HouseIn W T h K H) {A : Option Addr} {n c : Nat} (hn : 64 < n) : Calls Tryz.prog 9 #[.pointer (some ⟨h, 0, none⟩), .slice A n c, .slice none 0 0] W fun e W' => e = .returned (.tuple #[.slice none 0 0, .slice none 0 0, .int .i64 2]) ∧ Below W.heap.size W W' := by
  obtain ⟨W1, hW1⟩ : ∃ W1, W1 = W.alloc (.cells #[.slice none 0 0] 46) := ⟨_, rfl⟩
  have hb1 : Below W.heap.size W W1 := by rw [hW1]; exact (Below.refl _ _).alloc (Nat.le_refl _) _
  have HB1 := Lib.hid hb1
  have HN := Lib.hid (fnew_ok (hH.grow hb1))
  have d1 : decide ((n : Int) > 64) = true := decide_eq_true (by omega)
  clear hb1 hH hn
  go_enter Tryz.func9, Tryz.ntmps9
  go_wp2_with fail
  rw [← hW1]
  clear hW1
  refine HN.out.mono ?_
  rintro e W2 ⟨f, rfl, hf, hb2, hfs⟩
  have HB2 := Lib.hid (HB1.out.trans (hb2.mono HB1.out.size))
  clear hb2 hf hfs
  go_wp2_with fail
  refine bodyPost_ret (results_tmp3 rfl _ _ _) rfl ?_
  exact ⟨rfl, HB2.out.alloc HB2.out.size _⟩
end Go.Proofs.YtckdpejdnejhfaaGreat.Fd

/- Feed: Leave: a feed's one watcher leaves; one that left is not found. -/
namespace Go.Proofs.YtckdpejdnejhfaaGreat.Fd
open Go.RowKit Go.Lib
open Go.Proofs.YtckdpejdnejhfaaGreat.Vb Go.Proofs.YtckdpejdnejhfaaGreat.Ac Go.Proofs.YtckdpejdnejhfaaGreat.Ho
attribute [local go_sem] Oper.semAt_some

theorem zero_wp (w : World) : (zeroValue 28).run Tryz.prog w = .ok (.pointer none) w := Tryz.zeroValue28 w
set_option maxRecDepth 100000 in
set_option maxHeartbeats 4000000 in
theorem wdel_one {W : World} {q cap : Nat} {p : Value} (hq : ∃ cs t, Ac.Blk W q t cs ∧ cap ≤ cs.size) (hcap : 1 ≤ cap) (hcm : cap ≤ maxLen) :
    Calls Tryz.prog 59 #[.slice (some ⟨q, 0, none⟩) 1 cap, .int .i64 0, .int .i64 1] W fun e W' => e = .returned (.slice (some ⟨q, 0, none⟩) 0 cap) ∧ Chg (· = q) W W' := by
  obtain ⟨cs, t, hB, hcs⟩ := hq
  obtain ⟨i0, hi0, hz0, hz1, hz2⟩ := info_parts (P := Tryz.prog) (e := 28) (z := .pointer none) (size := 1) (bytes := 8) (by kernel_rfl)
  obtain ⟨A, hA⟩ : ∃ A : Addr, (if cap = 1 then (some ⟨q, 0, none⟩ : Option Addr) else some ⟨q, 1, none⟩) = some A := by
    by_cases hcp : cap = 1
    · exact ⟨_, if_pos hcp⟩
    · exact ⟨_, if_neg hcp⟩
  have hcl : ∀ ty, (Builtin.clear_ #[39] ty #[.slice (some ⟨q, 0, none⟩) 1 cap]).run Tryz.prog W.drew = .ok (.tuple #[]) (W.drew.setCells q 0 [.pointer none]) := fun ty => by
    refine run_clear_one W.drew _ _ ty (.pointer none) Tryz.underlying39 zero_wp (show ∀ u ∈ [Value.pointer none], u.oneCell' = true by simp [Value.oneCell']) q _ _ (fun j hj => ?_) fun j _ => (hB.drewN 1).frozen _
    have hj : j < 1 := hj
    show (W.cell? ⟨q, 0 + j, none⟩).isSome = true
    rw [hB.cell, Array.getElem?_eq_getElem (by omega)]; rfl
  have hC : Chg (· = q) W (W.drew.setCells q 0 [.pointer none]) := ((Chg.refl _ W).drewN 1).trans (chg_setCells _ _ _ _)
  have HC := Lib.hid hC
  clear hC hB hcs
  go_enter Tryz.func59, Tryz.ntmps59
  go_wp2_with fail
  refine wp_region_F (Below W.heap.size W) [6, 7] (by kernel_rfl) ((Below.refl _ _).drew) (fun hS => ?_)
  refine tpD [2, 6, 7] 0 hS ?_
  refine tpD [2, 6, 7] 1 hS ?_
  refine tp 2 hS ?_
  refine tpD [5, 6, 7] 3 hS ?_
  refine tpD [5, 6, 7] 4 hS ?_
  refine tp 5 hS ?_
  refine stf 6 fun K hK => ?_
  refine step_append_room rfl (.tmp 22) (.tmp 25) 39 rfl 28 i0 1 Tryz.underlying39 hi0 hz1 q 0 0 cap (by simp [Act.eval]) A 0 (cap - 1) [] (by simp [Act.eval]) rfl (fun _ _ h => by cases h) (fun _ h => by cases h) (by omega) (fun _ h => by cases h) ?_
  refine hK.out _ _ ?_
  clear hK K
  try simp only [Act.put, pb, pz, ps]
  refine tpW 7 ?_
  refine wpAnyF_done (by kernel_rfl) ?_ _
  clear hS
  simp only [World.setCells]
  go_wp2_with fail
  go_ret
  exact ⟨rfl, HC.out⟩
theorem same_room {W : World} {b g c : Nat} {t : TypeId} (h1 : W.cell? ⟨b, 1, none⟩ = some (.chan (some c))) (hg : Ac.Blk W g t #[.pointer (some ⟨b, 0, none⟩)]) (hbl : b < W.heap.size) :
    Calls Tryz.prog 58 #[.pointer (some ⟨b, 0, none⟩), .pointer (some ⟨g, 0, none⟩)] W fun e W' => e = .returned (.bool true) ∧ Below W.heap.size W W' := by
  have g0 : W.cell? ⟨g, 0, none⟩ = some (.pointer (some ⟨b, 0, none⟩)) := hg.cell 0
  have lg := hg.lt
  clear hg
  go_enter Tryz.func58, Tryz.ntmps58
  go_wp2_with fail
  refine wp_region_F (Below W.heap.size W) [9] (by kernel_rfl) ((Below.refl _ _).drew) (fun hS => ?_)
  refine tp 0 hS ?_
  refine tp 1 hS ?_
  refine tp 2 hS ?_
  have qq := Lib.hid fun (w' : World) (hSw : (Below W.heap.size W) w') => And.intro ((hSw.cell (p := ⟨b, 1, none⟩) hbl).trans h1) <| (hSw.cell (p := ⟨g, 0, none⟩) lg).trans g0
  refine tl 3 hS qq ?_
  refine tl 4 hS qq ?_
  refine tp 5 hS ?_
  refine tp 6 hS ?_
  refine tl 7 hS qq ?_
  refine tx 8 (v := ?_) hS ?_ ?_
  rotate_left
  · intro w' hSw; have hq := run_eql_chan (P := Tryz.prog) w' (a := some c) (b := some c) un_room; go_simp; try with_reducible rfl
  refine tpW 9 ?_
  refine wpAnyF_done (by kernel_rfl) ?_ _
  go_wp2_with fail
  go_ret
  exact ⟨by simp, hS⟩
theorem index_one {W : World} {q cap b g c : Nat} {t : TypeId} (hq : W.cell? ⟨q, 0, none⟩ = some (.pointer (some ⟨b, 0, none⟩))) (h1 : W.cell? ⟨b, 1, none⟩ = some (.chan (some c))) (hg : Ac.Blk W g t #[.pointer (some ⟨b, 0, none⟩)]) (hbl : b < W.heap.size) :
    Calls Tryz.prog 57 #[.slice (some ⟨q, 0, none⟩) 1 cap, .func (.func 58) #[] #[.pointer (some ⟨g, 0, none⟩)]] W fun e W' => e = .returned (.int .i64 0) ∧ Below W.heap.size W W' := by
  have HS := Lib.hid (same_room h1 hg hbl)
  clear h1 hg hbl
  go_enter Tryz.func57, Tryz.ntmps57
  go_wp2_with fail
  go_loopw [8] (fun i wr => i = .int .i64 0 ∧ wr = W) (fun _ _ => 0)
  case atStart => exact ⟨rfl, rfl⟩
  case round =>
    obtain ⟨rfl, rfl⟩ := hrel
    go_wp2_with (go_at_call 58; refine HS.out.mono ?_; rintro e w1 ⟨rfl, hb1⟩)
    go_ret
    exact ⟨rfl, hb1⟩
theorem index_nil {W : World} {A : Option Addr} {cap : Nat} {fv : Value} :
    Calls Tryz.prog 57 #[.slice A 0 cap, fv] W fun e W' => e = .returned (.int .i64 (-1)) ∧ Below W.heap.size W W' := by
  go_enter Tryz.func57, Tryz.ntmps57
  go_wp2_with fail
  go_loopw [8] (fun i wr => i = .int .i64 0 ∧ wr = W) (fun _ _ => 0)
  case atStart => exact ⟨rfl, rfl⟩
  case round =>
    obtain ⟨rfl, rfl⟩ := hrel
    go_wp2_with fail
    go_ret
    exact ⟨rfl, Below.refl _ _⟩
end Go.Proofs.YtckdpejdnejhfaaGreat.Fd

/- Feed: Leave. -/
namespace Go.Proofs.YtckdpejdnejhfaaGreat.Fd
open Go.RowKit Go.Lib
open Go.Proofs.YtckdpejdnejhfaaGreat.Vb Go.Proofs.YtckdpejdnejhfaaGreat.Ac Go.Proofs.YtckdpejdnejhfaaGreat.Ho
attribute [local go_sem] Oper.semAt_some

/-- a feed that nobody watches any more, and a watcher that left it -/
structure GoneAt (W : World) (f b : Nat) (A : Option Addr) (cap : Nat) : Prop where
  b0 : W.cell? ⟨b, 0, none⟩ = some (.pointer (some ⟨f, 0, none⟩))
  b1 : ∃ c, W.cell? ⟨b, 1, none⟩ = some (.chan (some c))
  f1 : W.cell? ⟨f, 1, none⟩ = some (.slice A 0 cap)
  lt : b < W.heap.size ∧ f < W.heap.size
set_option maxRecDepth 100000 in
set_option maxHeartbeats 4000000 in
theorem leave_one {W : World} {f h b c : Nat} {v : Value} {came : Int} {w : WatR} (hO : OneAt W f h b c v came w) :
    Calls Tryz.prog 29 #[.pointer (some ⟨b, 0, none⟩)] W fun e W' => e = .returned (.int .i64 0) ∧ (∃ A cap, GoneAt W' f b A cap) ∧ Chg (fun x => x = f ∨ v.ownBlock = some x) W W' := by
  have hF := hO.feed
  have hWt := hO.wat
  have hne := hO.ne
  obtain ⟨q, cap, rfl, hRq, hql, hcap⟩ := hF.row.ex (by simp)
  have hcap : 1 ≤ cap := hcap
  have hb1 : Below W.heap.size W (W.alloc (.cells #[.pointer (some ⟨b, 0, none⟩)] 28)) := (Below.refl _ _).alloc (Nat.le_refl _) _
  have HBX := Lib.hid (Ac.Blk.new W 28 #[.pointer (some ⟨b, 0, none⟩)])
  have hFU := hF.blk.grow hb1
  have hWU := hWt.blk.grow hb1
  have hq0 : (W.alloc (.cells #[.pointer (some ⟨b, 0, none⟩)] 28)).cell? ⟨q, 0, none⟩ = some (.pointer (some ⟨b, 0, none⟩)) := (hb1.cell (p := ⟨q, 0, none⟩) hql).trans (hF.row.own.cellAt 0 (by simp))
  obtain ⟨cs, ct, hqb, hcs⟩ : ∃ cs t, Ac.Blk (W.alloc (.cells #[.pointer (some ⟨b, 0, none⟩)] 28)) q t cs ∧ cap ≤ cs.size := by
    obtain ⟨hlen, hrow⟩ := hF.row.own
    rcases hrow with ⟨hv, _⟩ | ⟨g, cap', cur, hv, _, hg, hnc, hcm, hcs, htk⟩
    · cases hv
    · injection hv with e1 e2 e3
      injection e1 with e1
      injection e1 with e1
      subst e1 e3
      exact ⟨cur, _, Ac.Blk.grow hg hb1, by omega⟩
  have hcm : cap ≤ maxLen := by
    obtain ⟨hlen, hrow⟩ := hF.row.own
    rcases hrow with ⟨hv, _⟩ | ⟨g, cap', cur, hv, _, hg, hnc, hcm, hcs, htk⟩
    · cases hv
    · injection hv with e1 e2 e3
      omega
  have HBU := Lib.hid hb1
  have HFU := Lib.hid hFU
  have HWU := Lib.hid hWU
  have HQB := Lib.hid hqb
  have HCS := Lib.hid hcs
  have HCM := Lib.hid hcm
  have HCAP := Lib.hid hcap
  have HNE := Lib.hid hne
  have HRQ := Lib.hid hRq
  have b0 : (W.alloc (.cells #[.pointer (some ⟨b, 0, none⟩)] 28)).cell? ⟨b, 0, none⟩ = some (.pointer (some ⟨f, 0, none⟩)) := hWU.cell 0
  have b1 : (W.alloc (.cells #[.pointer (some ⟨b, 0, none⟩)] 28)).cell? ⟨b, 1, none⟩ = some (.chan (some c)) := hWU.cell 1
  have f1 : (W.alloc (.cells #[.pointer (some ⟨b, 0, none⟩)] 28)).cell? ⟨f, 1, none⟩ = some (.slice (some ⟨q, 0, none⟩) 1 cap) := hFU.cell 1
  have HT := Lib.hid (wthere_ok b1)
  have HIX := Lib.hid (index_one (cap := cap) hq0 b1 HBX.out hWU.lt)
  have HBO := Lib.hid b1
  clear hO hF hWt hne hRq hql hcap hb1 hFU hWU hq0 hqb hcs hcm b1
  go_enter Tryz.func29, Tryz.ntmps29
  go_wp2_with fail
  refine HT.out.mono ?_
  rintro e W2 ⟨rfl, hw2⟩
  rw [hw2]
  clear hw2
  go_wp2_with fail
  refine HIX.out.mono ?_
  rintro e W3 ⟨rfl, hb3⟩
  have HB3 := Lib.hid (HBU.out.trans (hb3.mono HBU.out.size))
  have hF3 := HFU.out.grow hb3
  have f1' : W3.cell? ⟨f, 1, none⟩ = some (.slice (some ⟨q, 0, none⟩) 1 cap) := hF3.cell 1
  have HF3 := Lib.hid hF3
  have HW3 := Lib.hid (HWU.out.grow hb3)
  have HD := Lib.hid (wdel_one (p := .pointer none) ⟨cs, ct, HQB.out.grow hb3, HCS.out⟩ HCAP.out HCM.out)
  clear hF3 hb3 f1 b0
  go_wp2_with fail
  refine HD.out.mono ?_
  rintro e W4 ⟨rfl, hc4⟩
  have hF4 := HF3.out.chg hc4 (Ne.symm HRQ.out.1)
  have f1 : W4.cell? ⟨f, 1, none⟩ = some (.slice (some ⟨q, 0, none⟩) 1 cap) := hF4.cell 1
  have ff := hF4.frozen
  have HF4 := Lib.hid hF4
  have HC4 := Lib.hid hc4
  have HW4 := Lib.hid (HW3.out.chg hc4 (Ne.symm HRQ.out.2.1))
  clear hF4 hc4 f1'
  go_wp2_with fail
  go_ret
  have h1 := HF4.out.set_ 1 (.slice (some ⟨q, 0, none⟩) 0 cap)
  have h2 := HW4.out.chg (Chg.set W4 ⟨f, 1, none⟩ (.slice (some ⟨q, 0, none⟩) 0 cap)) (Ne.symm HNE.out.1)
  exact ⟨rfl, ⟨_, _, ⟨h2.cell 0, ⟨_, h2.cell 1⟩, h1.cell 1, h2.lt, h1.lt⟩⟩, ((Chg.of _ HB3.out).step HC4.out fun x _ e => .inr (by rw [e]; rfl)).step (Chg.set W4 ⟨f, 1, none⟩ (.slice (some ⟨q, 0, none⟩) 0 cap)) fun x _ e => .inl e⟩
set_option maxRecDepth 100000 in
theorem leave_gone {W : World} {f b : Nat} {A : Option Addr} {cap : Nat} (hG : GoneAt W f b A cap) :
    Calls Tryz.prog 29 #[.pointer (some ⟨b, 0, none⟩)] W fun e W' => e = .returned (.int .i64 4) ∧ Below W.heap.size W W' := by
  obtain ⟨b0, ⟨c, b1⟩, f1, lb, lf⟩ := hG
  have hb1 : Below W.heap.size W (W.alloc (.cells #[.pointer (some ⟨b, 0, none⟩)] 28)) := (Below.refl _ _).alloc (Nat.le_refl _) _
  have u0 := (hb1.cell (p := ⟨b, 0, none⟩) lb).trans b0
  have u1 := (hb1.cell (p := ⟨f, 1, none⟩) lf).trans f1
  have HT := Lib.hid (wthere_ok ((hb1.cell (p := ⟨b, 1, none⟩) lb).trans b1))
  have HB1 := Lib.hid hb1
  clear b0 b1 f1 lb lf hb1
  go_enter Tryz.func29, Tryz.ntmps29
  go_wp2_with fail
  refine HT.out.mono ?_
  rintro e W2 ⟨rfl, hw2⟩
  rw [hw2]
  clear hw2
  go_wp2_with fail
  refine index_nil.mono ?_
  rintro e W3 ⟨rfl, hb3⟩
  have HB3 := Lib.hid (HB1.out.trans (hb3.mono HB1.out.size))
  clear hb3
  go_wp2_with fail
  go_ret
  exact ⟨rfl, HB3.out⟩
end Go.Proofs.YtckdpejdnejhfaaGreat.Fd

/- Feed: the law's known(): a feed of a new house, a watcher with one room. -/
namespace Go.Proofs.YtckdpejdnejhfaaGreat.Fd
open Go.RowKit
open Go.Proofs.YtckdpejdnejhfaaGreat.Vb Go.Proofs.YtckdpejdnejhfaaGreat.Ac Go.Proofs.YtckdpejdnejhfaaGreat.Ho
attribute [local go_sem] Oper.semAt_some

set_option maxRecDepth 100000 in
set_option maxHeartbeats 16000000 in
theorem known28 (W : World) : Calls Tryz.prog 12 #[] W fun e W' => e = .returned (.bool true) ∧ Below W.heap.size W W' := by
  go_enter Tryz.func12, Tryz.ntmps12
  go_wp2_with fail
  refine (hnew_any W).mono ?_
  rintro e W1 ⟨h, T, rfl, hH, hb1, hno⟩
  have HH := Lib.hid hH
  have HB1 := Lib.hid hb1
  have HNO := Lib.hid hno
  clear hH hb1 hno
  go_wp2_with fail
  refine (fnew_ok HH.out).mono ?_
  rintro e W2 ⟨f, rfl, hF, hb2, hfs⟩
  have HF := Lib.hid hF
  have HB2 := Lib.hid hb2
  have HFS := Lib.hid hfs
  clear hF hb2 hfs
  go_wp2_with fail
  refine fnew_no.mono ?_
  rintro e W3 ⟨rfl, hb3⟩
  have HB3 := Lib.hid hb3
  clear hb3
  go_wp2_with fail
  refine (num28_any 0 _).mono ?_
  rintro e w1 ⟨rfl, hw⟩
  rw [hw]
  clear hw
  go_wp2_with fail
  refine (num28_any 1 _).mono ?_
  rintro e w1 ⟨rfl, hw⟩
  rw [hw]
  clear hw
  go_wp2_with fail
  refine (watch_ok (m := 1) (HF.out.grow HB3.out) ⟨by omega, by omega⟩ (by simp) fun b _ e => e.elim).mono ?_
  rintro e W4 ⟨b, c, v, rfl, hF4, hW4, hb, hc, hbc, h34⟩
  have HS4 := Lib.hid (St.new HH.out (HB2.out.trans (HB3.out.mono HB2.out.size)) HFS.out (HF.out.grow HB3.out) hF4 hW4 hb hc hbc h34)
  have hs1 := HB1.out.size
  have hs2 := HB2.out.size
  have hs3 := HB3.out.size
  have HBB := Lib.hid (Base.new HNO.out (by omega) (by have := HFS.out; omega) hb hc hF4)
  have HBL := Lib.hid (show Below W.heap.size W W4 from (HB1.out.trans ((HB2.out.trans (HB3.out.mono hs2)).mono hs1)).trans (h34.below (by omega) fun k hk e => by
    rcases e with e | e
    · have := HFS.out; omega
    · cases e))
  clear hF4 hW4 hb hc hbc h34 hs1 hs2 hs3
  go_wp2_with fail
  refine (watch_err HS4.out.one.feed (x := 0) (.inl (by decide))).mono ?_
  rintro e w1 ⟨rfl, hw⟩
  rw [hw]
  clear hw
  go_wp2_with fail
  refine (num28_any 0 _).mono ?_
  rintro e w1 ⟨rfl, hw⟩
  rw [hw]
  clear hw
  go_wp2_with fail
  refine (num28_any 2 _).mono ?_
  rintro e w1 ⟨rfl, hw⟩
  rw [hw]
  clear hw
  go_wp2_with fail
  refine (gStep0 HS4.out).mono ?_
  rintro e W5 ⟨rfl, T5, hs5, ht5, hc5⟩
  have HS5 := Lib.hid hs5
  have HBB5 := Lib.hid (HBB.out.tags HBL.out.size ht5)
  have HBL5 := Lib.hid (HBL.out.trans (HBB.out.below HBL.out.size hc5))
  clear hs5 ht5 hc5
  go_wp2_with fail
  refine (gStep1 HS5.out).mono ?_
  rintro e W6 ⟨rfl, T6, hs6, ht6, hc6⟩
  have HS6 := Lib.hid hs6
  have HBB6 := Lib.hid (HBB5.out.tags HBL5.out.size ht6)
  have HBL6 := Lib.hid (HBL5.out.trans (HBB5.out.below HBL5.out.size hc6))
  clear hs6 ht6 hc6
  go_wp2_with fail
  refine (waiting_ok (HS6.out.one.wat.blk.cell 1) HS6.out.one.wat.room).mono ?_
  rintro e w1 ⟨rfl, hw⟩
  rw [hw]
  clear hw
  go_wp2_with fail
  refine (missed_ok (HS6.out.one.wat.blk.cell 2)).mono ?_
  rintro e w1 ⟨rfl, hw⟩
  rw [hw]
  clear hw
  go_wp2_with fail
  refine all_ok.mono ?_
  rintro e W7 ⟨g, rfl, _, _, hb7⟩
  have heq : ∀ w, (binOp .eql 102 (.func (.func 60) #[] #[.pointer (some ⟨g, 0, none⟩)]) .nilFunc).run Tryz.prog w = .ok (.bool false) w := fun w => by kernel_rfl
  have HS7 := Lib.hid (HS6.out.grow hb7)
  have HBL7 := Lib.hid (HBL6.out.trans (hb7.mono HBL6.out.size))
  clear hb7
  go_wp2_with fail
  refine (take_any (HS7.out.one.wat.blk.cell 1) HS7.out.one.wat.blk.lt HS7.out.one.wat.room).mono ?_
  rintro e W8 ⟨he, hq, hc8⟩
  have he : e = .returned (.tuple #[.agg #[.int .i64 1, .int .i64 0, .int .i64 0, .int .i64 0, .int .i64 5, .int .i64 0, .int .i64 0], .bool true]) := he
  subst he
  have HS8 := Lib.hid (show St W8 T6 W4.heap.size h f b c v 0 gS2 2 ⟨1, [], 1⟩ from HS7.out.take hq hc8)
  have HBL8 := Lib.hid (HBL7.out.trans (HBB6.out.belowC HBL7.out.size hc8))
  clear hq hc8 heq
  obtain ⟨W9, hW9⟩ : ∃ W9, W9 = W8.alloc (.cells #[.int .i64 1, .int .i64 0, .int .i64 0, .int .i64 0, .int .i64 5, .int .i64 0, .int .i64 0] 66) := ⟨_, rfl⟩
  have hb9 : Below W8.heap.size W8 W9 := by rw [hW9]; exact (Below.refl _ _).alloc (Nat.le_refl _) _
  have HX9 := Lib.hid (show Ac.Blk W9 W8.heap.size 66 #[.int .i64 1, .int .i64 0, .int .i64 0, .int .i64 0, .int .i64 5, .int .i64 0, .int .i64 0] by rw [hW9]; exact Ac.Blk.new _ _ _)
  have HS9 := Lib.hid (HS8.out.grow hb9)
  have HT9 := Lib.hid (HS8.out.out (Nat.le_refl _))
  have HBL9 := Lib.hid (HBL8.out.trans (hb9.mono HBL8.out.size))
  clear hb9
  go_wp2_with fail
  rw [← hW9]
  clear hW9
  refine (take_any (HS9.out.one.wat.blk.cell 1) HS9.out.one.wat.blk.lt HS9.out.one.wat.room).mono ?_
  rintro e W10 ⟨he, hq, hc10⟩
  have he : e = .returned (.tuple #[zTold, .bool false]) := he
  subst he
  unfold zTold
  have HS10 := Lib.hid (show St W10 T6 W4.heap.size h f b c v 0 gS2 2 ⟨1, [], 1⟩ from HS9.out.take hq hc10)
  have HX10 := Lib.hid (HX9.out.chg hc10 fun e => by have := HS8.out.lo; omega)
  have HBL10 := Lib.hid (HBL9.out.trans (HBB6.out.belowC HBL9.out.size hc10))
  clear hq hc10
  go_wp2_with fail
  have hb11 : Below W10.heap.size W10 (W10.alloc (.cells #[.int .i64 0, .int .i64 0, .int .i64 0, .int .i64 0, .int .i64 0, .int .i64 0, .int .i64 0] 66)) := (Below.refl _ _).alloc (Nat.le_refl _) _
  have HS11 := Lib.hid (HS10.out.grow hb11)
  have HX11 := Lib.hid (HX10.out.grow hb11)
  have HBL11 := Lib.hid (HBL10.out.trans (hb11.mono HBL10.out.size))
  clear hb11
  refine (gStep2 HS11.out).mono ?_
  rintro e W12 ⟨rfl, T12, hs12, htg, hc12⟩
  have hs8 := HS8.out.lo
  have HX12 := Lib.hid (HX11.out.chg hc12 (HS11.out.far hs8.2 HT9.out))
  have HS12 := Lib.hid hs12
  have HBB12 := Lib.hid (HBB6.out.tags HBL11.out.size htg)
  have HBL12 := Lib.hid (HBL11.out.trans (HBB6.out.below HBL11.out.size hc12))
  clear hs12 htg hc12 hs8
  go_wp2_with fail
  refine (take_any (HS12.out.one.wat.blk.cell 1) HS12.out.one.wat.blk.lt HS12.out.one.wat.room).mono ?_
  rintro e W13 ⟨he, hq, hc13⟩
  have he : e = .returned (.tuple #[.agg #[.int .i64 6, .int .i64 2, .int .i64 0, .int .i64 0, .int .i64 0, .int .i64 3, .int .i64 1], .bool true]) := he
  subst he
  have HS13 := Lib.hid (show St W13 T12 W4.heap.size h f b c v 0 gS3 3 ⟨1, [], 0⟩ from HS12.out.take hq hc13)
  have HX13 := Lib.hid (HX12.out.chg hc13 fun e => by have := HS8.out.lo; omega)
  have HBL13 := Lib.hid (HBL12.out.trans (HBB12.out.belowC HBL12.out.size hc13))
  clear hq hc13
  have hb14 : Below W13.heap.size W13 (W13.alloc (.cells #[.int .i64 6, .int .i64 2, .int .i64 0, .int .i64 0, .int .i64 0, .int .i64 3, .int .i64 1] 66)) := (Below.refl _ _).alloc (Nat.le_refl _) _
  have hx := HX13.out.grow hb14
  have x0 : (W13.alloc (.cells #[.int .i64 6, .int .i64 2, .int .i64 0, .int .i64 0, .int .i64 0, .int .i64 3, .int .i64 1] 66)).cell? ⟨W8.heap.size, 0, none⟩ = some (.int .i64 1) := hx.cell 0
  have x1 : (W13.alloc (.cells #[.int .i64 6, .int .i64 2, .int .i64 0, .int .i64 0, .int .i64 0, .int .i64 3, .int .i64 1] 66)).cell? ⟨W8.heap.size, 1, none⟩ = some (.int .i64 0) := hx.cell 1
  have x2 : (W13.alloc (.cells #[.int .i64 6, .int .i64 2, .int .i64 0, .int .i64 0, .int .i64 0, .int .i64 3, .int .i64 1] 66)).cell? ⟨W8.heap.size, 2, none⟩ = some (.int .i64 0) := hx.cell 2
  have x3 : (W13.alloc (.cells #[.int .i64 6, .int .i64 2, .int .i64 0, .int .i64 0, .int .i64 0, .int .i64 3, .int .i64 1] 66)).cell? ⟨W8.heap.size, 3, none⟩ = some (.int .i64 0) := hx.cell 3
  have x4 : (W13.alloc (.cells #[.int .i64 6, .int .i64 2, .int .i64 0, .int .i64 0, .int .i64 0, .int .i64 3, .int .i64 1] 66)).cell? ⟨W8.heap.size, 4, none⟩ = some (.int .i64 5) := hx.cell 4
  have x5 : (W13.alloc (.cells #[.int .i64 6, .int .i64 2, .int .i64 0, .int .i64 0, .int .i64 0, .int .i64 3, .int .i64 1] 66)).cell? ⟨W8.heap.size, 5, none⟩ = some (.int .i64 0) := hx.cell 5
  have x6 : (W13.alloc (.cells #[.int .i64 6, .int .i64 2, .int .i64 0, .int .i64 0, .int .i64 0, .int .i64 3, .int .i64 1] 66)).cell? ⟨W8.heap.size, 6, none⟩ = some (.int .i64 0) := hx.cell 6
  have HS14 := Lib.hid (HS13.out.grow hb14)
  obtain ⟨A, cp, hv⟩ := HS14.out.one.feed.row.form
  have hww : (W13.alloc (.cells #[.int .i64 6, .int .i64 2, .int .i64 0, .int .i64 0, .int .i64 0, .int .i64 3, .int .i64 1] 66)).cell? ⟨f, 1, none⟩ = some (.slice A 1 cp) := (HS14.out.one.feed.blk.cell 1).trans (by rw [hv]; rfl)
  have HV := Lib.hid hv
  have HBL14 := Lib.hid (HBL13.out.trans (hb14.mono HBL13.out.size))
  clear hb14 hx hv
  go_wp2_with fail
  refine (came_ok (HS14.out.one.feed.blk.cell 2)).mono ?_
  rintro e w1 ⟨rfl, hw⟩
  rw [hw]
  clear hw
  go_wp2_with fail
  refine (watchers_ok hww).mono ?_
  rintro e w1 ⟨rfl, hw⟩
  rw [hw]
  clear hw
  go_wp2_with fail
  refine (leave_one HS14.out.one).mono ?_
  rintro e W15 ⟨rfl, ⟨A2, cp2, hg⟩, hc15⟩
  have HG := Lib.hid hg
  have HBL15 := Lib.hid (HBL14.out.trans (HBB12.out.below HBL14.out.size (hc15.mono fun _ _ e => e.elim (fun e => .inr (.inl e)) fun e => .inr (.inr (.inr (.inr e))))))
  clear hg hc15
  go_wp2_with fail
  refine (num28_any 0 _).mono ?_
  rintro e w1 ⟨rfl, hw⟩
  rw [hw]
  clear hw
  go_wp2_with fail
  refine (leave_gone HG.out).mono ?_
  rintro e W16 ⟨rfl, hb16⟩
  have HBL16 := Lib.hid (HBL15.out.trans (hb16.mono HBL15.out.size))
  clear hb16
  go_wp2_with fail
  refine (num28_any 4 _).mono ?_
  rintro e w1 ⟨rfl, hw⟩
  rw [hw]
  clear hw
  go_wp2_with fail
  go_ret
  exact ⟨rfl, HBL16.out⟩
end Go.Proofs.YtckdpejdnejhfaaGreat.Fd

/- Feed: FeedNil, walked. -/
namespace Go.Proofs.YtckdpejdnejhfaaGreat.Fd
open Go.RowKit
open Go.Proofs.YtckdpejdnejhfaaGreat.Vb Go.Proofs.YtckdpejdnejhfaaGreat.Ac Go.Proofs.YtckdpejdnejhfaaGreat.Ho
attribute [local go_sem] Oper.semAt_some

theorem mk65 (w : World) : ∃ w', (Instr.makeSlice 36 (.int .i64 65) (.int .i64 65)).run Tryz.prog w = .ok (.slice (some ⟨w.heap.size, 0, none⟩) 65 65) w' ∧ Below w.heap.size w w' := by
  obtain ⟨i0, hi0, hz0, hz1, hz2⟩ := info_parts (P := Tryz.prog) (e := 3) (z := .int .i64 0) (size := 1) (bytes := 8) (by kernel_rfl)
  exact ⟨_, run_make w 36 3 i0 (.int .i64 0) Tryz.underlying36 hi0 hz0 .i64 .i64 65 65 (by decide) (by decide) (by rw [hz2]; decide) (by decide), (Below.refl _ _).alloc (Nat.le_refl _) _⟩
set_option maxRecDepth 100000 in
set_option maxHeartbeats 16000000 in
theorem feedNil_walk (W : World) : Calls Tryz.prog 3 #[] W fun e W' => e = .returned (.bool true) ∧ Below W.heap.size W W' := by
  go_enter Tryz.func3, Tryz.ntmps3
  go_wp2_with fail
  refine (hnew_any W).mono ?_
  rintro e W1 ⟨h, T, rfl, hH, hb1, hno⟩
  have HH := Lib.hid hH
  have HB1 := Lib.hid hb1
  have HNO := Lib.hid hno
  clear hH hb1 hno
  go_wp2_with fail
  refine (fnew_ok HH.out).mono ?_
  rintro e W2 ⟨f, rfl, hF, hb2, hfs⟩
  have HF := Lib.hid hF
  have HH2 := Lib.hid (HH.out.grow hb2)
  have HB2 := Lib.hid (HB1.out.trans (hb2.mono HB1.out.size))
  have HFS := Lib.hid (Nat.le_trans HB1.out.size hfs)
  have HTF := Lib.hid (show T f = .no by obtain ⟨_, _, _, _, _, _, hA⟩ := HH.out; exact hA.out f hfs)
  clear hF hb2 hfs
  go_wp2_with fail
  go_loopw [4] (fun i wr => ∃ (k : Nat) (bs : List Nat) (v : Value), k ≤ 64 ∧ i = .int .i64 k ∧ bs.length = k ∧ FeedAt wr (fun x => x ≠ f ∧ T x = .no ∧ W.heap.size ≤ x) f h v bs 0 ∧ HouseIn wr T h 0 emptyH ∧ Below W.heap.size W wr) (fun i _ => 64 - (intOf i).toNat)
  case atStart => exact ⟨0, [], _, by omega, rfl, rfl, ⟨HF.out.blk, HF.out.row.mono fun _ _ e => e.elim⟩, HH2.out, HB2.out⟩
  case round =>
    obtain ⟨k, bs, v, hk, rfl, hbs, hF, hH, hB⟩ := hrel
    by_cases hlt : k < 64
    · have HWT := Lib.hid (watch_ok (m := 1024) hF ⟨by omega, by omega⟩ (by omega) fun x _ hx => hx.1)
      have HF2 := Lib.hid hF
      have HH3 := Lib.hid hH
      have HB3 := Lib.hid hB
      have HBS := Lib.hid hbs
      have e1 : (k : Int) < 64 := by omega
      have hwr : IntKind.i64.wrap ((k : Int) + 1) = (k : Int) + 1 := IntWalk.i64_in _ (by omega)
      clear hF hH hB hbs
      go_wp2_with fail
      refine HWT.out.mono ?_
      rintro e W4 ⟨b, c, v', rfl, hF4, hW4, hb, hc, hbc, h34⟩
      have HF4 := Lib.hid hF4
      have HC4 := Lib.hid h34
      clear hF4 hW4 hb hc hbc h34
      go_wp2_with fail
      refine (num28_any 0 _).mono ?_
      rintro e w1 ⟨rfl, hw⟩
      rw [hw]
      clear hw
      go_wp2_with fail
      go_roundw
      case rel =>
        have hfl := HF2.out.blk.lt
        have hs := HB3.out.size
        have hno : ∀ b, wr.heap.size ≤ b → T b = .no := by obtain ⟨_, _, _, _, _, _, hA⟩ := HH3.out; exact hA.out
        have hfar : ∀ x, (x = f ∨ v.ownBlock = some x) → T x = .no ∧ W.heap.size ≤ x := fun x hx => by
          rcases hx with rfl | hx
          · exact ⟨HTF.out, HFS.out⟩
          · exact (HF2.out.row.blk x hx).2
        refine ⟨k + 1, bs ++ [b], v', by omega, by go_num, by rw [List.length_append, HBS.out]; rfl, ⟨HF4.out.blk, HF4.out.row.mono fun x _ hx => ?_⟩, HH3.out.keep HC4.out fun x hx e => hx (hfar x e).1, HB3.out.trans (HC4.out.below hs fun x hx e => by have := (hfar x e).2; omega)⟩
        rcases hx with hx | hx
        · exact hx.1
        · exact ⟨by omega, hno x hx.1, by omega⟩
      case measure => simp [intOf]; omega
    · obtain rfl : k = 64 := by omega
      have HF2 := Lib.hid hF
      have HH3 := Lib.hid hH
      have HB3 := Lib.hid hB
      have HBS := Lib.hid hbs
      clear hF hH hB hbs hlt hk
      go_wp2_with fail
      refine (watch_err HF2.out (x := 1) (.inr (.inr (by rw [HBS.out]; decide)))).mono ?_
      rintro e w1 ⟨rfl, hw⟩
      rw [hw]
      clear hw
      go_wp2_with fail
      refine (watch_err HF2.out (x := 1025) (.inr (.inl (by decide)))).mono ?_
      rintro e w1 ⟨rfl, hw⟩
      rw [hw]
      clear hw
      go_wp2_with fail
      refine run_none.mono ?_
      rintro e W5 ⟨rfl, hb5⟩
      obtain ⟨W6, hmk, hb6⟩ := mk65 W5
      have hb5' : Below wr.heap.size wr W5 := ((Below.refl _ _).alloc (Nat.le_refl _) _).trans (hb5.mono (by simp))
      have hb6' := hb5'.trans (hb6.mono hb5'.size)
      have HRM := Lib.hid (run_many (HH3.out.grow hb6') (A := some ⟨W5.heap.size, 0, none⟩) (n := 65) (c := 65) (by decide))
      have HB6 := Lib.hid hb6'
      clear hb5 hb6 hb5' hb6'
      go_wp2_with fail
      refine HRM.out.mono ?_
      rintro e W7 ⟨rfl, hb7⟩
      have HB7 := Lib.hid (HB6.out.trans (hb7.mono HB6.out.size))
      clear hb7 hmk
      obtain ⟨A, cp, hv⟩ := HF2.out.row.form
      have hF7 := HF2.out.grow HB7.out
      have hww : W7.cell? ⟨f, 1, none⟩ = some (.slice A 64 cp) := (hF7.blk.cell 1).trans (by rw [hv, HBS.out]; rfl)
      have HWW := Lib.hid hww
      clear hww hF7 hv
      go_wp2_with fail
      refine (num28_any 2 _).mono ?_
      rintro e w1 ⟨rfl, hw⟩
      rw [hw]
      clear hw
      go_wp2_with fail
      refine (num28_any 2 _).mono ?_
      rintro e w1 ⟨rfl, hw⟩
      rw [hw]
      clear hw
      go_wp2_with fail
      refine (num28_any 1 _).mono ?_
      rintro e w1 ⟨rfl, hw⟩
      rw [hw]
      clear hw
      go_wp2_with fail
      refine (num28_any 2 _).mono ?_
      rintro e w1 ⟨rfl, hw⟩
      rw [hw]
      clear hw
      go_wp2_with fail
      refine (watchers_ok HWW.out).mono ?_
      rintro e w1 ⟨rfl, hw⟩
      rw [hw]
      clear hw
      go_wp2_with fail
      refine (nothing_any (.inl rfl) (.inl rfl)).mono ?_
      rintro e W8 ⟨rfl, hb8⟩
      have HB8 := Lib.hid (HB7.out.trans (hb8.mono HB7.out.size))
      clear hb8
      go_wp2_with fail
      refine (nothing_any (.inr ⟨_, rfl, (Ac.Blk.new W8 _ _).alloc _⟩) (.inr ⟨_, rfl, Ac.Blk.new' _ _ (by simp)⟩)).mono ?_
      rintro e W9 ⟨rfl, hb9⟩
      have HB9 := Lib.hid ((HB8.out.alloc HB8.out.size _).alloc (Nat.le_trans HB8.out.size (by simp)) _ |>.trans (hb9.mono (Nat.le_trans HB8.out.size (by simp; omega))))
      clear hb9
      go_wp2_with fail
      refine (known28 _).mono ?_
      rintro e W10 ⟨rfl, hb10⟩
      have HB10 := Lib.hid (HB9.out.trans (hb10.mono HB9.out.size))
      clear hb10
      go_wp2_with fail
      go_ret
      exact ⟨rfl, HB3.out.trans (HB10.out.mono HB3.out.size)⟩
end Go.Proofs.YtckdpejdnejhfaaGreat.Fd

/- Once: the closing of a row that says 'leaving', 'calm', 'outside [.timePasses]', for a call that starts no goroutine. -/
namespace Go.Proofs.YtckdpejdnejhfaaGreat.On
open Go Go.Conc Go.ConcM

theorem leaving_of_alone {P : Program} {last : Machine} {w : World} {t : Trace} (h : aloneAtReturn P last w t) : leavingAtReturn P last w t := by
  obtain ⟨⟨h1, h2⟩, h3, h4⟩ := h
  refine ⟨h3, ⟨fun g hg => ⟨0, ?_⟩, h2⟩, h4⟩
  unfold Machine.othersDone at h1
  have := List.all_eq_true.1 h1 g hg
  simpa [Goroutine.LeavesIn] using this
theorem leaving_of_handed {a : Assume} {C : Checked} {os : Os} {f : FuncId} {r : Reach} {Pre : World → Array Value → Prop} {Post : World → Array Value → Value → World → Prop}
    (h : ReturnsInHanded a C os f r Pre Post) : ReturnsInLeavingWide a C os f r Pre Post := fun enter => by
  obtain ⟨h1, h2, h3, h4, h5⟩ := h enter
  refine ⟨h1, h2, h3, h4, fun w tape i hf => ?_⟩
  obtain ⟨n, v, w', k1, k2, k3, k4, ⟨j, last, k5, k6, k7⟩, k8⟩ := h5 w tape i hf
  exact ⟨n, v, w', k1, k2, k3, k4, ⟨j, last, k5, k6, leaving_of_alone k7⟩, k8⟩
section
variable {H : Type} {enc : TypeId × Value → H}
end
end Go.Proofs.YtckdpejdnejhfaaGreat.On

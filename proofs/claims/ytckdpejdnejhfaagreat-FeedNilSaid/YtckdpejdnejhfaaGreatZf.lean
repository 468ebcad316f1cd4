/- Joined by program: LawA FdP FdC FdB FdD FdE FdL. -/
import Derived.Test.YtckdpejdnejhfaaGreatZa
import Derived.ChangeStays
import Derived.ReadAgain
import Derived.ChangeSame
import Derived.OpenShut
import Derived.Lib.SmallJoins
import Derived.Deep.Slices
import Derived.ProofKit
import Derived.JoinedOf
import Derived.Conc.LoneCalls
import Derived.Conc.LoneSelect
import Derived.Conc.LoneSelectN
import Derived.Conc.SmallLaws
/- A law's statement out of its walk: what stands below is read as it was; slices of records of whole numbers, opened. -/
set_option linter.all false
namespace Go.Proofs.YtckdpejdnejhfaaGreat.Vb
open Go.RowKit Go.WideShapes Go.ChangeShapes Go.ChangeAt Go.Joins Go.Deep

section
variable {H : Type} {enc : TypeId × Value → H} {P : Program} {w w' : World} {T : TypeId → Prop}
theorem sameAt_of {p : MemPlace} (hb : Below w.heap.size w w') (hp : p.block < w.heap.size) : w.sameAt w' p := by
  cases p with
  | cell b off => exact hb.cell (p := ⟨b, off, none⟩) hp
  | map b => exact hb.block b hp
theorem trodAll_stays (K : Kids P T) (hz : ∀ t e, T t → P.underlying t = some (.slice e) → 0 < P.cellsOf e) {base : Nat} {sp' : Nat → Bool} (hb : Below w.heap.size w w') :
    ∀ {ts : List TypeId} {vs : List Value} {ds : List (DataW H)} {ps : List MemPlace}, (∀ t ∈ ts, T t) → DataW.TrodAll enc P w base (fun _ => true) true ts vs ds ps → (∀ p ∈ ps, p.block < w.heap.size) → (∀ p ∈ ps, sp' p.block = true) →
      DataW.TrodAll enc P w' base sp' true ts vs ds ps
  | [], [], [], _, _, h, _, _ => h
  | _ :: _, _ :: _, _ :: _, _, hT, ⟨p, q, ⟨fuel, h1⟩, h2, e⟩, hl, hs => by
    subst e
    exact ⟨p, q, ⟨fuel, DataW.trod_stays K (fun h1 h2 => hz _ _ h1 h2) (fun h => by cases h) (hT _ (List.mem_cons.2 (Or.inl rfl))) h1 (fun x hx => sameAt_of hb (hl x (List.mem_append_left _ hx))) (fun x hx => hs x (List.mem_append_left _ hx))⟩,
      trodAll_stays K hz hb (fun t ht => hT t (List.mem_cons.2 (Or.inr ht))) h2 (fun x hx => hl x (List.mem_append_right _ hx)) (fun x hx => hs x (List.mem_append_right _ hx)), rfl⟩

/-- the law's last step: true is told, and all that stood stands -/
theorem post_law {f : Func} {s : ChangeSpec} {apart fresh handsOn again : Bool} {W W' : World} {args : Array Value} {ds gs : List (DataW H)} {before : List MemPlace} {tb : TypeId}
    (K : Kids P T) (hz : ∀ t e, T t → P.underlying t = some (.slice e) → 0 < P.cellsOf e) (hT : ∀ t ∈ f.params.toList, T t) (hvs : s.vars = []) (hbool : P.underlying tb = some .bool) (hrt : f.resultTypes = #[tb])
    (hW : DataW.Whole enc P f.params.toList s.vars apart W args.toList ds gs before)
    (hfn : s.fn H (ds ++ gs) = { results := [.lit (.bool true)], args := ds }) (hb : Below W.heap.size W W') : s.post enc P f apart fresh handsOn again W args (.bool true) W' := by
  have hlt : ∀ p ∈ before, p.block < W.heap.size := fun p hp => hW.lt p hp
  have hold : ∀ p ∈ before, (fun b => decide (b < W.heap.size)) p.block = true := fun p hp => by simpa using hlt p hp
  have hW0 := hW
  obtain ⟨p, q, hA, hV, hps, hz0, hn0⟩ := hW0
  rw [hvs] at hV
  obtain ⟨rfl, rfl⟩ := trodVars_none hV
  simp only [List.append_nil] at hps
  subst hps
  have hres : ∀ (b : Nat) (sp : Nat → Bool) (hd : Bool), DataW.TrodAll enc P W' b sp hd f.resultTypes.toList ((Value.bool true).resultList f.resultTypes.size) (s.fn H (ds ++ [])).results [] := fun b sp hd => by
    rw [hfn, hrt]
    exact trodAll_cons_mk (shut_bool hbool true) trodAll_mk0
  have hargs : ∀ sp : Nat → Bool, (∀ p ∈ before, sp p.block = true) → DataW.TrodAll enc P W' 0 sp true f.params.toList args.toList (s.fn H (ds ++ [])).args before := fun sp hsp => by
    rw [hfn]
    exact trodAll_stays K hz hb hT hA hlt hsp
  have hvars : ∀ sp : Nat → Bool, DataW.TrodVars enc P W' sp s.vars (s.fn H (ds ++ [])).vars [] := fun sp => by
    rw [hfn, hvs]
    rfl
  refine ⟨ds, [], before, [], before, [], hW, hres _ _ _, hargs _ hold, hvars _, World.keptBut_mono (fun p hp => ⟨hp, ?_⟩) (hb.frame (· ∈ before)), fun _ => ?_⟩
  · simpa using hp
  · refine ⟨ok_one hrt rfl (okWide_bool_mk hbool _), _, _, ([] ++ before) ++ [], ⟨[] ++ before, [], trodAll_append (hargs _ (fun _ _ => rfl)) (hres _ _ _), hvars _, rfl, ?_, ?_⟩, ?_⟩
    · intro b off hp
      have hin : MemPlace.cell b off ∈ before := by simpa using hp
      rw [hb.frozen (hlt _ hin)]
      exact hz0 b off hin
    · intro ha
      simpa using hn0 ha
    · intro p hp _
      simpa using hp
end

section
variable {H : Type} {enc : TypeId × Value → H} {P : Program} {w : World} {base : Nat} {held : Bool}
end

theorem own : ownKnob Tryz.prog.godebug = none := by kernel_rfl
theorem kids : Kids Tryz.prog (· < Tryz.prog.types.size) := kids_rows (by kernel_rfl) (by kernel_rfl)
theorem full : ∀ t e, t < Tryz.prog.types.size → Tryz.prog.underlying t = some (.slice e) → 0 < Tryz.prog.cellsOf e := slices_full_of Tryz.prog (by kernel_rfl)
end Go.Proofs.YtckdpejdnejhfaaGreat.Vb

/- Feed, plainly: events, what a watcher is told, and what it misses. -/
namespace Go.Proofs.YtckdpejdnejhfaaGreat.Fd
open Go.RowKit

structure EvR where
  (kind order bidder lot coins tick : Int)
  deriving DecidableEq
def EvR.cells (e : EvR) : List Value := [.int .i64 e.kind, .int .i64 e.order, .int .i64 e.bidder, .int .i64 e.lot, .int .i64 e.coins, .int .i64 e.tick]
structure ToldR where
  ev : EvR
  missed : Int
def ToldR.cells (t : ToldR) : List Value := t.ev.cells ++ [.int .i64 t.missed]
/-- a watcher with room for so many: what waits, what was missed -/
structure WatR where
  room : Nat
  queue : List ToldR
  missed : Int
def WatR.tell (w : WatR) (e : EvR) : WatR := if w.queue.length < w.room then { w with queue := w.queue ++ [⟨e, w.missed⟩], missed := 0 } else { w with missed := w.missed + 1 }
end Go.Proofs.YtckdpejdnejhfaaGreat.Fd

/- Feed: a feed, a watcher, a room in memory. -/
namespace Go.Proofs.YtckdpejdnejhfaaGreat.Fd
open Go.RowKit
open Go.Proofs.YtckdpejdnejhfaaGreat.Ac Go.Proofs.YtckdpejdnejhfaaGreat.Ho

def toldV (t : ToldR) : Value := .agg t.cells.toArray
/-- a room: what lies in it -/
def ChanAt (W : World) (c cap : Nat) (q : List ToldR) : Prop := ∃ s r, W.heap[c]? = some (.chan cap (q.map toldV).toArray false s r false)
section
variable {W W' : World} {X : Nat → Prop} {c cap : Nat} {q : List ToldR}
theorem ChanAt.lt (h : ChanAt W c cap q) : c < W.heap.size := by
  obtain ⟨s, r, h⟩ := h
  exact (Array.getElem?_eq_some_iff.1 h).1
theorem ChanAt.chg (h : ChanAt W c cap q) (hc : Chg X W W') (hX : ¬ X c) : ChanAt W' c cap q := by
  have hl := h.lt
  obtain ⟨s, r, h⟩ := h
  exact ⟨s, r, (hc.block c hl hX).trans h⟩
theorem ChanAt.grow (h : ChanAt W c cap q) (hb : Below W.heap.size W W') : ChanAt W' c cap q := by
  have hl := h.lt
  obtain ⟨s, r, h⟩ := h
  exact ⟨s, r, (hb.block c hl).trans h⟩
end
/-- a watcher: its own block, its room -/
structure WatAt (W : World) (f b c : Nat) (w : WatR) : Prop where
  blk : Ac.Blk W b 44 #[.pointer (some ⟨f, 0, none⟩), .chan (some c), .int .i64 w.missed]
  room : ChanAt W c w.room w.queue
/-- a feed of a house, its watchers -/
structure FeedAt (W : World) (R : Nat → Prop) (f h : Nat) (v : Value) (bs : List Nat) (came : Int) : Prop where
  blk : Ac.Blk W f 41 #[.pointer (some ⟨h, 0, none⟩), v, .int .i64 came]
  row : RowAt W R 28 1 v bs.length (bs.map fun b => Value.pointer (some ⟨b, 0, none⟩))
section
variable {W W' : World} {X R : Nat → Prop} {f h b c : Nat} {v : Value} {bs : List Nat} {came : Int} {w : WatR}
theorem WatAt.chg (h : WatAt W f b c w) (hc : Chg X W W') (hb : ¬ X b) (hr : ¬ X c) : WatAt W' f b c w := ⟨h.blk.chg hc hb, h.room.chg hc hr⟩
theorem FeedAt.grow (h0 : FeedAt W R f h v bs came) (hb : Below W.heap.size W W') : FeedAt W' R f h v bs came := ⟨h0.blk.grow hb, h0.row.grow hb⟩
end
end Go.Proofs.YtckdpejdnejhfaaGreat.Fd

/- Feed: lay: a send into a room, or none. Take: a receive out of it, or none. (Printed by tools/gen_fdb.py.) -/
namespace Go.Proofs.YtckdpejdnejhfaaGreat.Fd
open Go.Conc Go.RowKit
open Go.Proofs.YtckdpejdnejhfaaGreat.Ac Go.Proofs.YtckdpejdnejhfaaGreat.Ho

def zTold : Value := .agg #[.int .i64 0, .int .i64 0, .int .i64 0, .int .i64 0, .int .i64 0, .int .i64 0, .int .i64 0]
set_option maxRecDepth 100000 in
theorem lay_room {W : World} {c cap s r : Nat} {buf : Array Value} (a b d e0 f g h : Int) (hc : W.heap[c]? = some (.chan cap buf false s r false)) (hroom : buf.size < cap) :
    Calls Tryz.prog 72 #[.chan (some c), .agg #[.int .i64 a, .int .i64 b, .int .i64 d, .int .i64 e0, .int .i64 f, .int .i64 g, .int .i64 h]] W fun e W' => e = .returned (.bool true) ∧ W' = (W.alloc (.cells #[.int .i64 a, .int .i64 b, .int .i64 d, .int .i64 e0, .int .i64 f, .int .i64 g, .int .i64 h] 66)).setChan c cap (buf.push (.agg #[.int .i64 a, .int .i64 b, .int .i64 d, .int .i64 e0, .int .i64 f, .int .i64 g, .int .i64 h])) false (s + 1) r false := by
  refine calls_of_loneTo fun cs => ?_
  have e : Frame.enter Tryz.prog 72 #[.chan (some c), .agg #[.int .i64 a, .int .i64 b, .int .i64 d, .int .i64 e0, .int .i64 f, .int .i64 g, .int .i64 h]] .normal = (base 72).at ⟨#[.chan (some c), .agg #[.int .i64 a, .int .i64 b, .int .i64 d, .int .i64 e0, .int .i64 f, .int .i64 g, .int .i64 h], undef, undef, undef, undef, undef, undef, undef, undef], []⟩ [.code (Tryz.f72.body.getD .skip)] := by
    simp [Frame.enter, Frame.at, Tryz.func72, base, Tryz.f72]
  rw [e]
  obtain ⟨W1, hW1⟩ : ∃ W1, W1 = W.alloc (.cells #[.int .i64 a, .int .i64 b, .int .i64 d, .int .i64 e0, .int .i64 f, .int .i64 g, .int .i64 h] 66) := ⟨_, rfl⟩
  have hc1 : W1.heap[c]? = some (.chan cap buf false s r false) := by
    rw [hW1]
    exact (Below.heap_alloc _ _ _ (Array.getElem?_eq_some_iff.1 hc).1).trans hc
  refine LoneTo.goes (n := 24) ?_
  simp only [Tryz.f72, Option.getD_some]
  s_c stepG_seq
  s_reg
  s_op
  s_op
  s_c stepG_region_end
  s_c stepG_seq
  s_c stepG_seq
  s_reg
  s_op
  s_c stepG_region_end
  s_reg
  s_op
  s_c stepG_region_end
  s_c stepG_seq
  s_reg
  s_stop
  rw [← hW1]
  refine LoneTo.step (step_lone_select_send_room (c := c) (cap := cap) (buf := buf) (s := s) (r := r) (tm := false) (v := .agg #[.int .i64 a, .int .i64 b, .int .i64 d, .int .i64 e0, .int .i64 f, .int .i64 g, .int .i64 h]) (z' := zTold)
    (stepG_comm (cases := #[scase c (.agg #[.int .i64 a, .int .i64 b, .int .i64 d, .int .i64 e0, .int .i64 f, .int .i64 g, .int .i64 h]) zTold]) (blocking := false) (shape := .select) (w' := W1) rfl rfl (by decide) (by simp [go_sem, execOp, scase, Act.eval, zTold])) hc1 hroom) ?_
  rw [Frame.finish_at]
  walk_nrm
  refine LoneTo.goes (n := 14) ?_
  s_op
  s_op
  s_c stepG_region_end
  s_c stepG_block
  s_cond true
  s_c stepG_seq
  s_reg
  s_op
  s_c stepG_region_end
  s_c stepG_ret'
  s_stop
  refine LoneTo.done ⟨.returned (.bool true), _, rfl, ⟨rfl, by rw [hW1]⟩, rfl, rfl, rfl, rfl, _, Tryz.func72, by simp [results, Tryz.f72, Frame.at]⟩
set_option maxRecDepth 100000 in
theorem lay_full {W : World} {c cap s r : Nat} {buf : Array Value} (a b d e0 f g h : Int) (hc : W.heap[c]? = some (.chan cap buf false s r false)) (hfull : cap ≤ buf.size) :
    Calls Tryz.prog 72 #[.chan (some c), .agg #[.int .i64 a, .int .i64 b, .int .i64 d, .int .i64 e0, .int .i64 f, .int .i64 g, .int .i64 h]] W fun e W' => e = .returned (.bool false) ∧ W' = W.alloc (.cells #[.int .i64 a, .int .i64 b, .int .i64 d, .int .i64 e0, .int .i64 f, .int .i64 g, .int .i64 h] 66) := by
  refine calls_of_loneTo fun cs => ?_
  have e : Frame.enter Tryz.prog 72 #[.chan (some c), .agg #[.int .i64 a, .int .i64 b, .int .i64 d, .int .i64 e0, .int .i64 f, .int .i64 g, .int .i64 h]] .normal = (base 72).at ⟨#[.chan (some c), .agg #[.int .i64 a, .int .i64 b, .int .i64 d, .int .i64 e0, .int .i64 f, .int .i64 g, .int .i64 h], undef, undef, undef, undef, undef, undef, undef, undef], []⟩ [.code (Tryz.f72.body.getD .skip)] := by
    simp [Frame.enter, Frame.at, Tryz.func72, base, Tryz.f72]
  rw [e]
  obtain ⟨W1, hW1⟩ : ∃ W1, W1 = W.alloc (.cells #[.int .i64 a, .int .i64 b, .int .i64 d, .int .i64 e0, .int .i64 f, .int .i64 g, .int .i64 h] 66) := ⟨_, rfl⟩
  have hc1 : W1.heap[c]? = some (.chan cap buf false s r false) := by
    rw [hW1]
    exact (Below.heap_alloc _ _ _ (Array.getElem?_eq_some_iff.1 hc).1).trans hc
  refine LoneTo.goes (n := 24) ?_
  simp only [Tryz.f72, Option.getD_some]
  s_c stepG_seq
  s_reg
  s_op
  s_op
  s_c stepG_region_end
  s_c stepG_seq
  s_c stepG_seq
  s_reg
  s_op
  s_c stepG_region_end
  s_reg
  s_op
  s_c stepG_region_end
  s_c stepG_seq
  s_reg
  s_stop
  rw [← hW1]
  refine LoneTo.step (step_lone_select_send_full (c := c) (cap := cap) (buf := buf) (s := s) (r := r) (tm := false) (v := .agg #[.int .i64 a, .int .i64 b, .int .i64 d, .int .i64 e0, .int .i64 f, .int .i64 g, .int .i64 h]) (z' := zTold)
    (stepG_comm (cases := #[scase c (.agg #[.int .i64 a, .int .i64 b, .int .i64 d, .int .i64 e0, .int .i64 f, .int .i64 g, .int .i64 h]) zTold]) (blocking := false) (shape := .select) (w' := W1) rfl rfl (by decide) (by simp [go_sem, execOp, scase, Act.eval, zTold])) hc1 hfull) ?_
  rw [Frame.finish_at]
  walk_nrm
  refine LoneTo.goes (n := 14) ?_
  s_op
  s_op
  s_c stepG_region_end
  s_c stepG_block
  s_cond false
  s_c stepG_seq
  s_reg
  s_op
  s_c stepG_region_end
  s_c stepG_ret'
  s_stop
  refine LoneTo.done ⟨.returned (.bool false), _, rfl, ⟨rfl, by rw [hW1]⟩, rfl, rfl, rfl, rfl, _, Tryz.func72, by simp [results, Tryz.f72, Frame.at]⟩
/-- a told event is laid into a room, if there is a place -/
theorem lay_any {W : World} {c cap : Nat} {q : List ToldR} (t : ToldR) (hc : ChanAt W c cap q) : Calls Tryz.prog 72 #[.chan (some c), toldV t] W fun e W' =>
    e = .returned (.bool (decide (q.length < cap))) ∧ ChanAt W' c cap (if q.length < cap then q ++ [t] else q) ∧ Chg (· = c) W W' := by
  have hl := hc.lt
  obtain ⟨s, r, h⟩ := hc
  obtain ⟨⟨a, b, d, e0, f, g⟩, m⟩ := t
  have hb := (Below.refl W.heap.size W).alloc (Nat.le_refl _) (.cells #[.int .i64 a, .int .i64 b, .int .i64 d, .int .i64 e0, .int .i64 f, .int .i64 g, .int .i64 m] 66)
  have hsz : (q.map toldV).toArray.size = q.length := by simp
  by_cases hr : q.length < cap
  · rw [decide_eq_true hr, if_pos hr]
    refine (lay_room a b d e0 f g m h (by rw [hsz]; exact hr)).mono ?_
    rintro e W' ⟨rfl, rfl⟩
    refine ⟨rfl, ⟨s + 1, r, ?_⟩, (Chg.of _ hb).step (Y := (· = c)) ?_ fun _ _ e => e⟩
    · rw [heap_setChan _ _ _ _ _ _ _ _ (Nat.lt_of_lt_of_le hl hb.size), List.map_append, ← List.toArray_appendList]
      simp [toldV, ToldR.cells, EvR.cells]
    · exact ⟨rfl, rfl, rfl, by rw [size_setChan]; exact Nat.le_refl _, fun k _ hk => by simp [World.setChan, Array.getElem?_setIfInBounds_ne (Ne.symm hk)]⟩
  · rw [decide_eq_false hr, if_neg hr]
    refine (lay_full a b d e0 f g m h (by rw [hsz]; omega)).mono ?_
    rintro e W' ⟨rfl, rfl⟩
    exact ⟨rfl, ⟨s, r, (hb.block c hl).trans h⟩, Chg.of _ hb⟩
end Go.Proofs.YtckdpejdnejhfaaGreat.Fd

/- Feed: Take: a receive out of a room, or none. -/
namespace Go.Proofs.YtckdpejdnejhfaaGreat.Fd
open Go.Conc Go.RowKit
open Go.Proofs.YtckdpejdnejhfaaGreat.Ac Go.Proofs.YtckdpejdnejhfaaGreat.Ho

set_option maxRecDepth 100000 in
set_option maxHeartbeats 4000000 in
theorem take_none {W : World} {b c cap s r : Nat} (hb : W.cell? ⟨b, 1, none⟩ = some (.chan (some c))) (hbl : b < W.heap.size) (hc : W.heap[c]? = some (.chan cap #[] false s r false)) :
    Calls Tryz.prog 16 #[.pointer (some ⟨b, 0, none⟩)] W fun e W' => e = .returned (.tuple #[zTold, .bool false]) ∧ Below W.heap.size W W' := by
  refine calls_of_loneTo fun cs => ?_
  have e : Frame.enter Tryz.prog 16 #[.pointer (some ⟨b, 0, none⟩)] .normal = (base 16).at ⟨#[.pointer (some ⟨b, 0, none⟩), undef, undef, undef, undef, undef, undef, undef, undef, undef, undef, undef, undef, undef, undef, undef, undef, undef, undef], []⟩ [.code (Tryz.f16.body.getD .skip)] := by
    simp [Frame.enter, Frame.at, Tryz.func16, base, Tryz.f16]
  rw [e]
  have hb1 : Below W.heap.size W (W.alloc (.cells #[.int .i64 0, .int .i64 0, .int .i64 0, .int .i64 0, .int .i64 0, .int .i64 0, .int .i64 0] 66)) := (Below.refl _ _).alloc (Nat.le_refl _) _
  have hc1 : (W.alloc (.cells #[.int .i64 0, .int .i64 0, .int .i64 0, .int .i64 0, .int .i64 0, .int .i64 0, .int .i64 0] 66)).heap[c]? = some (.chan cap #[] false s r false) := (hb1.block c (Array.getElem?_eq_some_iff.1 hc).1).trans hc
  have hk1 : (W.alloc (.cells #[.int .i64 0, .int .i64 0, .int .i64 0, .int .i64 0, .int .i64 0, .int .i64 0, .int .i64 0] 66)).cell? ⟨b, 1, none⟩ = some (.chan (some c)) := (hb1.cell (p := ⟨b, 1, none⟩) hbl).trans hb
  refine LoneTo.goes (n := 50) ?_
  simp only [Tryz.f16, Option.getD_some]
  s_c stepG_seq
  s_reg
  s_op
  s_op
  s_c stepG_region_end
  s_c stepG_seq
  s_c stepG_seq
  s_reg
  s_op
  s_call Tryz.func36 (by kernel_rfl) Tryz.f36
  s_c stepG_seq
  s_reg
  s_op
  s_c stepG_region_end
  s_c stepG_seq
  s_reg
  s_op
  s_op
  s_op
  s_op
  s_op
  s_op
  s_op
  s_op
  s_op
  s_op
  s_c stepG_region_end
  s_c stepG_ret'
  s_leave1 Tryz.func36
  s_op
  s_c stepG_region_end
  s_cond false
  s_c stepG_skip
  s_c stepG_seq
  s_reg
  s_op
  s_op
  s_op
  s_op
  s_c stepG_region_end
  s_c stepG_seq
  s_reg
  s_stop
  refine LoneTo.step (step_lone_select_default (c := c) (cap := cap) (s := s) (r := r) (tm := false) (z := zTold)
    (stepG_comm (cases := #[rcase c zTold]) (blocking := false) (shape := .select) (w' := (W.alloc (.cells #[.int .i64 0, .int .i64 0, .int .i64 0, .int .i64 0, .int .i64 0, .int .i64 0, .int .i64 0] 66))) rfl rfl (by decide) (by simp [go_sem, execOp, rcase, Act.eval, zTold])) hc1) ?_
  rw [Frame.finish_at]
  walk_nrm
  refine LoneTo.goes (n := 20) ?_
  s_op
  s_op
  s_c stepG_region_end
  s_c stepG_block
  s_cond false
  s_c stepG_seq
  s_reg
  s_op
  s_op
  s_op
  s_c stepG_region_end
  s_c stepG_ret'
  s_stop
  refine LoneTo.done ⟨.returned (.tuple #[zTold, .bool false]), _, rfl, ⟨rfl, ?_⟩, rfl, rfl, rfl, rfl, _, Tryz.func16, ?_⟩
  · exact hb1
  · have n0 := fun i => (Ac.Blk.new W 66 #[.int .i64 0, .int .i64 0, .int .i64 0, .int .i64 0, .int .i64 0, .int .i64 0, .int .i64 0]).cell i
    have z0 := n0 0
    have z1 := n0 1
    have z2 := n0 2
    have z3 := n0 3
    have z4 := n0 4
    have z5 := n0 5
    have z6 := n0 6
    simp at z0 z1 z2 z3 z4 z5 z6
    simp [results, Tryz.f16, Frame.at, go_sem, zTold, z0, z1, z2, z3, z4, z5, z6]
end Go.Proofs.YtckdpejdnejhfaaGreat.Fd

/- Feed: Take: a receive out of a room. -/
namespace Go.Proofs.YtckdpejdnejhfaaGreat.Fd
open Go.Conc Go.RowKit
open Go.Proofs.YtckdpejdnejhfaaGreat.Ac Go.Proofs.YtckdpejdnejhfaaGreat.Ho

theorem setChan_far (w : World) (c c' : Nat) (h : c ≠ c') {cap : Nat} {buf : Array Value} {cl : Bool} {s r : Nat} {tm : Bool} : (w.setChan c cap buf cl s r tm).heap[c']? = w.heap[c']? := by
  simp [World.setChan, Array.getElem?_setIfInBounds_ne h]
set_option maxRecDepth 100000 in
set_option maxHeartbeats 4000000 in
theorem take_some {W : World} {b c cap s r : Nat} {buf : Array Value} (a0 a1 a2 a3 a4 a5 a6 : Int) (h0 : buf.getD 0 undef = .agg #[.int .i64 a0, .int .i64 a1, .int .i64 a2, .int .i64 a3, .int .i64 a4, .int .i64 a5, .int .i64 a6]) (hsz : 0 < buf.size) (hb : W.cell? ⟨b, 1, none⟩ = some (.chan (some c))) (hbl : b < W.heap.size) (hc : W.heap[c]? = some (.chan cap buf false s r false)) :
    Calls Tryz.prog 16 #[.pointer (some ⟨b, 0, none⟩)] W fun e W' => e = .returned (.tuple #[.agg #[.int .i64 a0, .int .i64 a1, .int .i64 a2, .int .i64 a3, .int .i64 a4, .int .i64 a5, .int .i64 a6], .bool true]) ∧ W'.heap[c]? = some (.chan cap (buf.extract 1 buf.size) false s (r + 1) false) ∧ Chg (· = c) W W' := by
  refine calls_of_loneTo fun cs => ?_
  have e : Frame.enter Tryz.prog 16 #[.pointer (some ⟨b, 0, none⟩)] .normal = (base 16).at ⟨#[.pointer (some ⟨b, 0, none⟩), undef, undef, undef, undef, undef, undef, undef, undef, undef, undef, undef, undef, undef, undef, undef, undef, undef, undef], []⟩ [.code (Tryz.f16.body.getD .skip)] := by
    simp [Frame.enter, Frame.at, Tryz.func16, base, Tryz.f16]
  rw [e]
  have hb1 : Below W.heap.size W (W.alloc (.cells #[.int .i64 0, .int .i64 0, .int .i64 0, .int .i64 0, .int .i64 0, .int .i64 0, .int .i64 0] 66)) := (Below.refl _ _).alloc (Nat.le_refl _) _
  have hc1 : (W.alloc (.cells #[.int .i64 0, .int .i64 0, .int .i64 0, .int .i64 0, .int .i64 0, .int .i64 0, .int .i64 0] 66)).heap[c]? = some (.chan cap buf false s r false) := (hb1.block c (Array.getElem?_eq_some_iff.1 hc).1).trans hc
  have hk1 : (W.alloc (.cells #[.int .i64 0, .int .i64 0, .int .i64 0, .int .i64 0, .int .i64 0, .int .i64 0, .int .i64 0] 66)).cell? ⟨b, 1, none⟩ = some (.chan (some c)) := (hb1.cell (p := ⟨b, 1, none⟩) hbl).trans hb
  refine LoneTo.goes (n := 50) ?_
  simp only [Tryz.f16, Option.getD_some]
  s_c stepG_seq
  s_reg
  s_op
  s_op
  s_c stepG_region_end
  s_c stepG_seq
  s_c stepG_seq
  s_reg
  s_op
  s_call Tryz.func36 (by kernel_rfl) Tryz.f36
  s_c stepG_seq
  s_reg
  s_op
  s_c stepG_region_end
  s_c stepG_seq
  s_reg
  s_op
  s_op
  s_op
  s_op
  s_op
  s_op
  s_op
  s_op
  s_op
  s_op
  s_c stepG_region_end
  s_c stepG_ret'
  s_leave1 Tryz.func36
  s_op
  s_c stepG_region_end
  s_cond false
  s_c stepG_skip
  s_c stepG_seq
  s_reg
  s_op
  s_op
  s_op
  s_op
  s_c stepG_region_end
  s_c stepG_seq
  s_reg
  s_stop
  refine LoneTo.step (step_lone_select_recv_buf (c := c) (cap := cap) (buf := buf) (closed := false) (s := s) (r := r) (tm := false) (z := zTold)
    (stepG_comm (cases := #[rcase c zTold]) (blocking := false) (shape := .select) (w' := (W.alloc (.cells #[.int .i64 0, .int .i64 0, .int .i64 0, .int .i64 0, .int .i64 0, .int .i64 0, .int .i64 0] 66))) rfl rfl (by decide) (by simp [go_sem, execOp, rcase, Act.eval, zTold])) hc1 hsz) ?_
  rw [Frame.finish_at, h0]
  walk_nrm
  refine LoneTo.goes (n := 24) ?_
  have hcl : c < W.heap.size := (Array.getElem?_eq_some_iff.1 hc).1
  have hsU : ((W.alloc (.cells #[.int .i64 0, .int .i64 0, .int .i64 0, .int .i64 0, .int .i64 0, .int .i64 0, .int .i64 0] 66)).setChan c cap (buf.extract 1 buf.size) false s (r + 1) false).heap.size = W.heap.size + 1 := by rw [size_setChan, World.size_alloc]
  have hZ : Ac.Blk ((W.alloc (.cells #[.int .i64 0, .int .i64 0, .int .i64 0, .int .i64 0, .int .i64 0, .int .i64 0, .int .i64 0] 66)).setChan c cap (buf.extract 1 buf.size) false s (r + 1) false) W.heap.size 66 #[.int .i64 0, .int .i64 0, .int .i64 0, .int .i64 0, .int .i64 0, .int .i64 0, .int .i64 0] := (setChan_far _ _ _ (Nat.ne_of_lt hcl)).trans (Ac.Blk.new W _ _)
  have hUc : ((W.alloc (.cells #[.int .i64 0, .int .i64 0, .int .i64 0, .int .i64 0, .int .i64 0, .int .i64 0, .int .i64 0] 66)).setChan c cap (buf.extract 1 buf.size) false s (r + 1) false).heap[c]? = some (.chan cap (buf.extract 1 buf.size) false s (r + 1) false) := heap_setChan _ _ _ _ _ _ _ _ (Nat.lt_of_lt_of_le hcl hb1.size)
  have hUk : Chg (· = c) W ((W.alloc (.cells #[.int .i64 0, .int .i64 0, .int .i64 0, .int .i64 0, .int .i64 0, .int .i64 0, .int .i64 0] 66)).setChan c cap (buf.extract 1 buf.size) false s (r + 1) false) := (Chg.of _ hb1).step (Y := (· = c)) ⟨rfl, rfl, rfl, by rw [size_setChan]; exact Nat.le_refl _, fun k _ hk => setChan_far _ _ _ (Ne.symm hk)⟩ fun _ _ e => e
  generalize ((W.alloc (.cells #[.int .i64 0, .int .i64 0, .int .i64 0, .int .i64 0, .int .i64 0, .int .i64 0, .int .i64 0] 66)).setChan c cap (buf.extract 1 buf.size) false s (r + 1) false) = U at hsU hZ hUc hUk ⊢
  clear hc1 hk1 hb1 hc hb
  obtain ⟨n, hn⟩ : ∃ n, n = W.heap.size := ⟨_, rfl⟩
  rw [← hn] at hsU hZ hcl hbl
  try rw [← hn]
  have HN := Lib.hid hn
  have HSU := Lib.hid hsU
  have HZ := Lib.hid hZ
  have HUC := Lib.hid hUc
  have HUK := Lib.hid hUk
  clear hn hsU hZ hUc hUk
  s_op
  s_op
  s_c stepG_region_end
  s_c stepG_block
  s_cond true
  s_c stepG_seq
  s_reg
  s_op
  s_op
  s_op
  s_c stepG_region_end
  have hUb : Below U.heap.size U (U.alloc (.cells #[.int .i64 a0, .int .i64 a1, .int .i64 a2, .int .i64 a3, .int .i64 a4, .int .i64 a5, .int .i64 a6] 66)) := (Below.refl _ _).alloc (Nat.le_refl _) _
  have hT : Ac.Blk (U.alloc (.cells #[.int .i64 a0, .int .i64 a1, .int .i64 a2, .int .i64 a3, .int .i64 a4, .int .i64 a5, .int .i64 a6] 66)) U.heap.size 66 #[.int .i64 a0, .int .i64 a1, .int .i64 a2, .int .i64 a3, .int .i64 a4, .int .i64 a5, .int .i64 a6] := Ac.Blk.new U _ _
  have hZ := HZ.out.grow hUb
  have hUc := (hUb.block c (by rw [HSU.out]; omega)).trans HUC.out
  have hUk : Chg (· = c) W (U.alloc (.cells #[.int .i64 a0, .int .i64 a1, .int .i64 a2, .int .i64 a3, .int .i64 a4, .int .i64 a5, .int .i64 a6] 66)) := HUK.out.grow hUb
  have hUs := hUb.size
  generalize (U.alloc (.cells #[.int .i64 a0, .int .i64 a1, .int .i64 a2, .int .i64 a3, .int .i64 a4, .int .i64 a5, .int .i64 a6] 66)) = V at hUb hT hZ hUc hUk hUs ⊢
  generalize hm : U.heap.size = m at hT hUb hUs ⊢
  have HM := Lib.hid (hm.symm.trans HSU.out)
  clear hm HSU HZ HUC HUK hUb U
  have HZ := Lib.hid hZ
  have HT := Lib.hid hT
  have HUC := Lib.hid hUc
  have HUK := Lib.hid hUk
  have HUS := Lib.hid hUs
  have z0 := hZ.cell 0
  have f0 := hZ.frozen 0
  have t0 := hT.cell 0
  have z1 := hZ.cell 1
  have f1 := hZ.frozen 1
  have t1 := hT.cell 1
  have z2 := hZ.cell 2
  have f2 := hZ.frozen 2
  have t2 := hT.cell 2
  have z3 := hZ.cell 3
  have f3 := hZ.frozen 3
  have t3 := hT.cell 3
  have z4 := hZ.cell 4
  have f4 := hZ.frozen 4
  have t4 := hT.cell 4
  have z5 := hZ.cell 5
  have f5 := hZ.frozen 5
  have t5 := hT.cell 5
  have z6 := hZ.cell 6
  have f6 := hZ.frozen 6
  have t6 := hT.cell 6
  simp only [List.getElem?_toArray, List.getElem?_cons_zero, List.getElem?_cons_succ] at z0 z1 z2 z3 z4 z5 z6 t0 t1 t2 t3 t4 t5 t6
  clear hZ hT hUc hUk hUs
  s_c stepG_seq
  s_reg
  s_op
  s_op
  s_op
  s_c stepG_region_end
  s_c stepG_ret'
  s_stop
  clear z0 z1 z2 z3 z4 z5 z6 f0 f1 f2 f3 f4 f5 f6 t0 t1 t2 t3 t4 t5 t6
  have C1 : Chg (fun x => x = n) V (((((((V.setCell ⟨n, 0, none⟩ (.int .i64 a0)).setCell ⟨n, 1, none⟩ (.int .i64 a1)).setCell ⟨n, 2, none⟩ (.int .i64 a2)).setCell ⟨n, 3, none⟩ (.int .i64 a3)).setCell ⟨n, 4, none⟩ (.int .i64 a4)).setCell ⟨n, 5, none⟩ (.int .i64 a5)).setCell ⟨n, 6, none⟩ (.int .i64 a6)) := ((((((Chg.set V ⟨n, 0, none⟩ (.int .i64 a0)).trans (Chg.set _ ⟨n, 1, none⟩ (.int .i64 a1))).trans (Chg.set _ ⟨n, 2, none⟩ (.int .i64 a2))).trans (Chg.set _ ⟨n, 3, none⟩ (.int .i64 a3))).trans (Chg.set _ ⟨n, 4, none⟩ (.int .i64 a4))).trans (Chg.set _ ⟨n, 5, none⟩ (.int .i64 a5))).trans (Chg.set _ ⟨n, 6, none⟩ (.int .i64 a6))
  have hF : Ac.Blk (((((((V.setCell ⟨n, 0, none⟩ (.int .i64 a0)).setCell ⟨n, 1, none⟩ (.int .i64 a1)).setCell ⟨n, 2, none⟩ (.int .i64 a2)).setCell ⟨n, 3, none⟩ (.int .i64 a3)).setCell ⟨n, 4, none⟩ (.int .i64 a4)).setCell ⟨n, 5, none⟩ (.int .i64 a5)).setCell ⟨n, 6, none⟩ (.int .i64 a6)) n 66 #[.int .i64 a0, .int .i64 a1, .int .i64 a2, .int .i64 a3, .int .i64 a4, .int .i64 a5, .int .i64 a6] := (((((((HZ.out.set_ 0 (.int .i64 a0)).set_ 1 (.int .i64 a1)).set_ 2 (.int .i64 a2)).set_ 3 (.int .i64 a3)).set_ 4 (.int .i64 a4)).set_ 5 (.int .i64 a5)).set_ 6 (.int .i64 a6))
  generalize (((((((V.setCell ⟨n, 0, none⟩ (.int .i64 a0)).setCell ⟨n, 1, none⟩ (.int .i64 a1)).setCell ⟨n, 2, none⟩ (.int .i64 a2)).setCell ⟨n, 3, none⟩ (.int .i64 a3)).setCell ⟨n, 4, none⟩ (.int .i64 a4)).setCell ⟨n, 5, none⟩ (.int .i64 a5)).setCell ⟨n, 6, none⟩ (.int .i64 a6)) = V7 at C1 hF ⊢
  have y0 := hF.cell 0
  have y1 := hF.cell 1
  have y2 := hF.cell 2
  have y3 := hF.cell 3
  have y4 := hF.cell 4
  have y5 := hF.cell 5
  have y6 := hF.cell 6
  simp only [List.getElem?_toArray, List.getElem?_cons_zero, List.getElem?_cons_succ] at y0 y1 y2 y3 y4 y5 y6
  refine LoneTo.done ⟨.returned (.tuple #[.agg #[.int .i64 a0, .int .i64 a1, .int .i64 a2, .int .i64 a3, .int .i64 a4, .int .i64 a5, .int .i64 a6], .bool true]), _, rfl, ⟨rfl, (C1.block c (by have := HUS.out; have := HM.out; omega) (by omega)).trans HUC.out, ?_⟩, rfl, rfl, rfl, rfl, _, Tryz.func16, ?_⟩
  · have h1 := HUS.out
    have h2 := HM.out
    have h3 := HN.out
    have h4 := C1.size
    exact HUK.out.step C1 fun k hk hx => absurd hx (by omega)
  · simp only [results, Frame.at]
    simp [go_sem, y0, y1, y2, y3, y4, y5, y6, Tryz.f16]
end Go.Proofs.YtckdpejdnejhfaaGreat.Fd

/- Feed: small laws on channels for the walk: two held against each other, a length. -/
namespace Go.Proofs.YtckdpejdnejhfaaGreat.Fd
open Go.RowKit
section
variable {P : Program} (w : World) {t e : TypeId} {d : ChanDir}
theorem run_equalIn_chan (n : Nat) (a b : Option Nat) (h : P.underlying t = some (.chan d e)) : (Op.equalIn (n + 1) t (.chan a) (.chan b)).run P w = .ok (a == b) w := by
  simp [Op.equalIn, run_underlying h]
theorem run_eql_chan (a b : Option Nat) (h : P.underlying t = some (.chan d e)) : (binOp .eql t (.chan a) (.chan b)).run P w = .ok (.bool (a == b)) w := by
  have h1 : (Op.equal t (.chan a) (.chan b)).run P w = .ok (a == b) w := run_equalIn_chan w 9999 a b h
  simp only [binOp]
  simp [h1]
theorem run_neq_chan (a b : Option Nat) (h : P.underlying t = some (.chan d e)) : (binOp .neq t (.chan a) (.chan b)).run P w = .ok (.bool (!(a == b))) w := by
  have h1 : (Op.equal t (.chan a) (.chan b)).run P w = .ok (a == b) w := run_equalIn_chan w 9999 a b h
  simp only [binOp]
  simp [h1]
theorem run_len_chan (ty : TypeId) {c cap s r : Nat} {buf : Array Value} {cl : Bool} (h : P.underlying t = some (.chan d e)) (hc : w.heap[c]? = some (.chan cap buf cl s r false)) :
    (Builtin.len_ #[t] ty #[.chan (some c)]).run P w = .ok (goInt buf.size) w := by
  have h1 : (getObj c).run P w = .ok (.chan cap buf cl s r false) w := by simp [getObj, Sem.run, hc]
  simp [Builtin.len_, run_underlying h, h1, Result.andThen]
end
theorem un_room : (Tryz.prog).underlying 42 = some (.chan .both 66) := by kernel_rfl
end Go.Proofs.YtckdpejdnejhfaaGreat.Fd

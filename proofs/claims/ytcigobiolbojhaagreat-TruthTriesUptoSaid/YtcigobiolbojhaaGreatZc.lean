/- Joined by program: Vcg2 Costs Gains Ref08a Ref08b Ref08c Ref08d Tab Ref17a Ref17b. -/
import Derived.Test.YtcigobiolbojhaaGreatZb
import Derived.Deep.OwnRows
/- vcg.lost; slices.Clone of payments; vcg.Costs. -/
namespace Go.Proofs.YtcigobiolbojhaaGreat.Vb
open Go.RowKit

theorem Sl.keep' {w w' : World} {B n sz : Nat} {v : Value} {xs : List Value} (h : Sl w (· < B) v n sz xs) (hb : Below B w w') : Sl w' (· < B) v n sz xs := h.below hb (fun _ _ hb => hb)
theorem Buys.keep' {w w' : World} {B : Nat} {v : Value} {bs : List (List Off)} (h : Buys w (· < B) v bs) (hb : Below B w w') : Buys w' (· < B) v bs := by
  obtain ⟨vs, hs, ho⟩ := h
  exact ⟨vs, hs.keep' hb, fun k l hk => let ⟨u, hu, hl⟩ := ho k l hk; ⟨u, hu, hl.1.keep' hb, hl.2⟩⟩
theorem two_blk {w w1 : World} {cs ds : Array Value} {t u : TypeId} (hb : Below (w.heap.size + 2) ((w.alloc (.cells cs t)).alloc (.cells ds u)) w1) : Blk w1 w.heap.size t cs ∧ Blk w1 (w.heap.size + 1) u ds :=
  ⟨((Blk.new w t cs).alloc _).below hb (by omega), by
    have := Blk.new (w.alloc (.cells cs t)) u ds
    rw [World.size_alloc] at this
    exact this.below hb (by omega)⟩
theorem one_blk {w w1 : World} {cs : Array Value} {t : TypeId} (hb : Below (w.heap.size + 1) (w.alloc (.cells cs t)) w1) : Blk w1 w.heap.size t cs := (Blk.new w t cs).below hb (by omega)

set_option maxHeartbeats 1600000 in
theorem lost_ok (n : Int) (bs : List (List Off)) (v : Value) (R : Nat → Prop) (w : World) (hl : Buys w R v bs) (hi : instE n bs = 0) :
    Calls Tryz.prog 56 #[.agg #[.int .i64 n, v]] w fun e w' => ∃ A' cap' b5 b1 b2 mm, e = .returned (.tuple #[.agg #[.slice A' bs.length cap', .int .i64 (W bs (allOf n))], .func (.func 75) #[] #[.pointer (some ⟨b5, 0, none⟩), .pointer (some ⟨b1, 0, none⟩), .pointer (some ⟨b2, 0, none⟩)], .int .i64 0]) ∧
      w'.ownsRow w.heap.size 3 1 (.slice A' bs.length cap') bs.length (ints (bestC n bs)) ∧ LostAt w' w.heap.size b5 b1 b2 mm n v bs ∧ w.heap.size ≤ mm ∧ Below w.heap.size w w' := by
  obtain ⟨vs, ⟨_, A, cap, rfl, _⟩, _⟩ := id hl
  have HB := Lib.hid hl
  have HI := Lib.hid hi
  have hmm := @run_makeMap Tryz.prog
  clear hl hi
  go_enter Tryz.func56, Tryz.ntmps56
  go_wp2_with (go_at_call 74; refine (best_ok n bs _ R _ ((HB.out.alloc _).alloc _) HI.out).mono ?_; rintro e w1 ⟨A1, cap1, rfl, hown1, hb1⟩; have hb1a := hb1.mono (B' := w.heap.size + 2) (by simp); obtain ⟨c0, c1, y0, y1, fx, fy, hs1, hbw⟩ := two_new hb1a; have hk := (((two_blk hb1a).2.set_ 0 (.slice A1 bs.length cap1)).set_ 1 (.int .i64 (W bs (allOf n)))); simp at hk; have q0 := fun o o' => (((hk.alloc o).alloc o').cell 0); have q1 := fun o o' => (((hk.alloc o).alloc o').cell 1); have q2 := fun o o' i => (((hk.alloc o).alloc o').frozen i); simp at q0 q1; have HK := Lib.hid hk; have HX := Lib.hid (two_blk hb1a).1; have HO1 := Lib.hid hown1; clear hk; have HB1 := Lib.hid hbw; clear hown1 hb1 hb1a hbw)
  refine bodyPost_ret (v := .tuple #[.agg #[.slice A1 bs.length cap1, .int .i64 (W bs (allOf n))], .func (.func 75) #[] #[.pointer (some ⟨w1.heap.size + 1, 0, none⟩), .pointer (some ⟨w.heap.size, 0, none⟩), .pointer (some ⟨w.heap.size + 1, 0, none⟩)], .int .i64 0]) (by simp [results, Tryz.results56, go_sem, q0, q1]) rfl ⟨A1, cap1, w1.heap.size + 1, w.heap.size, w.heap.size + 1, w1.heap.size, rfl, ?_, ?_, by omega, ?_⟩
  · have h2 := ((ownsRow_setCell_below (ownsRow_setCell_below HO1.out (a := ⟨w.heap.size + 1, 0, none⟩) (by simp) (.slice A1 bs.length cap1)) (a := ⟨w.heap.size + 1, 1, none⟩) (by simp) (.int .i64 (W bs (allOf n)))).alloc (.map #[] 0)).alloc (.cells #[.map (some w1.heap.size)] 146)
    exact own_mono (ownsRow_setCell_below (ownsRow_setCell_below h2 (a := ⟨w.heap.size + 1, 0, none⟩) (by simp) _) (a := ⟨w.heap.size + 1, 1, none⟩) (by simp) _) (by simp; omega)
  · have hs2 : ((w1.setCell ⟨w.heap.size + 1, 0, none⟩ (.slice A1 bs.length cap1)).setCell ⟨w.heap.size + 1, 1, none⟩ (.int .i64 (W bs (allOf n)))).heap.size = w1.heap.size := by simp [World.setCell]
    have hx := ((HX.out.far (p := ⟨w.heap.size + 1, 0, none⟩) (by simp) (.slice A1 bs.length cap1)).far (p := ⟨w.heap.size + 1, 1, none⟩) (by simp) (.int .i64 (W bs (allOf n))))
    have hm : MapG Tryz.prog 3 2 (((w1.setCell ⟨w.heap.size + 1, 0, none⟩ (.slice A1 bs.length cap1)).setCell ⟨w.heap.size + 1, 1, none⟩ (.int .i64 (W bs (allOf n)))).alloc (.map #[] 0)) w1.heap.size (KnownL n bs) := by
      have := MapG.made (P := Tryz.prog) (kt := 3) (et := 2) (Good := KnownL n bs) ((w1.setCell ⟨w.heap.size + 1, 0, none⟩ (.slice A1 bs.length cap1)).setCell ⟨w.heap.size + 1, 1, none⟩ (.int .i64 (W bs (allOf n))))
      rwa [hs2] at this
    have h5 := Blk.new (((w1.setCell ⟨w.heap.size + 1, 0, none⟩ (.slice A1 bs.length cap1)).setCell ⟨w.heap.size + 1, 1, none⟩ (.int .i64 (W bs (allOf n)))).alloc (.map #[] 0)) 146 #[.map (some w1.heap.size)]
    rw [World.size_alloc, hs2] at h5
    have hbuy := (buys_lt HB.out (Nat.le_refl _)).grow HB1.out
    have hbl : Below w.heap.size w1 ((((w1.setCell ⟨w.heap.size + 1, 0, none⟩ (.slice A1 bs.length cap1)).setCell ⟨w.heap.size + 1, 1, none⟩ (.int .i64 (W bs (allOf n)))).alloc (.map #[] 0)).alloc (.cells #[.map (some w1.heap.size)] 146)) :=
      ((((Below.refl _ _).setCell (p := ⟨w.heap.size + 1, 0, none⟩) (by simp) _).setCell (p := ⟨w.heap.size + 1, 1, none⟩) (by simp) _).alloc (by rw [hs2]; omega) _).alloc (by rw [World.size_alloc, hs2]; omega) _
    have hbf : Below w.heap.size w1 (((((((w1.setCell ⟨w.heap.size + 1, 0, none⟩ (.slice A1 bs.length cap1)).setCell ⟨w.heap.size + 1, 1, none⟩ (.int .i64 (W bs (allOf n)))).alloc (.map #[] 0)).alloc (.cells #[.map (some w1.heap.size)] 146)).setCell ⟨w.heap.size + 1, 0, none⟩ (.slice A1 bs.length cap1)).setCell ⟨w.heap.size + 1, 1, none⟩ (.int .i64 (W bs (allOf n))))) :=
      (hbl.setCell (p := ⟨w.heap.size + 1, 0, none⟩) (by simp) _).setCell (p := ⟨w.heap.size + 1, 1, none⟩) (by simp) _
    have hK := ((((HK.out.alloc (.map #[] 0)).alloc (.cells #[.map (some w1.heap.size)] 146)).set_ 0 (.slice A1 bs.length cap1)).set_ 1 (.int .i64 (W bs (allOf n))))
    have hX := (((hx.alloc (.map #[] 0)).alloc (.cells #[.map (some w1.heap.size)] 146)).far (p := ⟨w.heap.size + 1, 0, none⟩) (by simp) (.slice A1 bs.length cap1)).far (p := ⟨w.heap.size + 1, 1, none⟩) (by simp) (.int .i64 (W bs (allOf n)))
    have hM := ((hm.alloc (.cells #[.map (some w1.heap.size)] 146)).setCell (p := ⟨w.heap.size + 1, 0, none⟩) (by simp; omega) (.slice A1 bs.length cap1)).setCell (p := ⟨w.heap.size + 1, 1, none⟩) (by simp; omega) (.int .i64 (W bs (allOf n)))
    have h5' := (h5.far (p := ⟨w.heap.size + 1, 0, none⟩) (by simp; omega) (.slice A1 bs.length cap1)).far (p := ⟨w.heap.size + 1, 1, none⟩) (by simp; omega) (.int .i64 (W bs (allOf n)))
    exact ⟨h5'.cell 0, hX.cell 0, hX.cell 1, (hK.cell 1).trans (by simp), hbuy.keep' hbf, by omega, hM, HI.out⟩
  · have hs2 : ((w1.setCell ⟨w.heap.size + 1, 0, none⟩ (.slice A1 bs.length cap1)).setCell ⟨w.heap.size + 1, 1, none⟩ (.int .i64 (W bs (allOf n)))).heap.size = w1.heap.size := by simp [World.setCell]
    exact HB1.out.trans ((((((((Below.refl _ _).setCell (p := ⟨w.heap.size + 1, 0, none⟩) (by simp) _).setCell (p := ⟨w.heap.size + 1, 1, none⟩) (by simp) _).alloc (by rw [hs2]; omega) _).alloc (by rw [World.size_alloc, hs2]; omega) _).setCell (p := ⟨w.heap.size + 1, 0, none⟩) (by simp) _).setCell (p := ⟨w.heap.size + 1, 1, none⟩) (by simp) _))
end Go.Proofs.YtcigobiolbojhaaGreat.Vb

/- vcg.Costs. -/
namespace Go.Proofs.YtcigobiolbojhaaGreat.Vb
open Go.RowKit

set_option maxHeartbeats 800000 in
theorem lost_err (n : Int) (bs : List (List Off)) (v : Value) (R : Nat → Prop) (w : World) (hl : Buys w R v bs) (hi : instE n bs ≠ 0) :
    Calls Tryz.prog 56 #[.agg #[.int .i64 n, v]] w fun e w' => e = .returned (.tuple #[.agg #[.slice none 0 0, .int .i64 0], .nilFunc, .int .i64 (instE n bs)]) ∧ Below w.heap.size w w' := by
  obtain ⟨vs, ⟨_, A, cap, rfl, _⟩, _⟩ := id hl
  have HB := Lib.hid hl
  have hcb : (instE n bs != 0) = true := by simpa using hi
  have HI := Lib.hid hi
  clear hl hi
  go_enter Tryz.func56, Tryz.ntmps56
  go_wp2_with (go_at_call 74; refine (best_err n bs _ R _ ((HB.out.alloc _).alloc _) HI.out).mono ?_; rintro e w1 ⟨rfl, hb1⟩; have hb1a := hb1.mono (B' := w.heap.size + 2) (by simp); obtain ⟨c0, c1, y0, y1, fx, fy, hs1, hbw⟩ := two_new hb1a; have HK := Lib.hid (two_blk hb1a).2; have HB1 := Lib.hid hbw; clear hb1 hb1a hbw)
  have hk := (((HK.out.set_ 0 (.slice none 0 0)).set_ 1 (.int .i64 0)).set_ 0 (.slice none 0 0)).set_ 1 (.int .i64 0)
  have q0 := hk.cell 0
  have q1 := hk.cell 1
  simp at q0 q1
  refine bodyPost_ret (v := .tuple #[.agg #[.slice none 0 0, .int .i64 0], .nilFunc, .int .i64 (instE n bs)]) (by simp [results, Tryz.results56, go_sem, q0, q1]) rfl ⟨rfl, ?_⟩
  exact (((HB1.out.setCell (p := ⟨w.heap.size + 1, 0, none⟩) (by simp) _).setCell (p := ⟨w.heap.size + 1, 1, none⟩) (by simp) _).setCell (p := ⟨w.heap.size + 1, 0, none⟩) (by simp) _).setCell (p := ⟨w.heap.size + 1, 1, none⟩) (by simp) _

/-- each number of the best choice is an offer's, or -1 -/
theorem pickAt_get (g : Nat → Int) (f : Nat) (left : Int) : ∀ (l : List Off) (p : Nat × Nat), pickAt g f left l = some p → ∃ o, l[p.1]? = some o ∧ o.g = p.2 ∧ pickB g f left o = true
  | [], p, h => by simp [pickAt] at h
  | o :: l, p, h => by
    unfold pickAt at h
    split at h
    · rename_i hb
      injection h with h
      subst h
      exact ⟨o, rfl, rfl, hb⟩
    · rw [Option.map_eq_some_iff] at h
      obtain ⟨q, hq, rfl⟩ := h
      obtain ⟨o', h1, h2, h3⟩ := pickAt_get g f left l q hq
      exact ⟨o', by simpa using h1, h2, h3⟩
theorem choose_get : ∀ (bs : List (List Off)) (f : Nat) (i : Nat) (c : Int), (choose bs f)[i]? = some c → c = -1 ∨ ∃ (j : Nat) (l : List Off) (o : Off), c = (j : Int) ∧ bs[i]? = some l ∧ l[j]? = some o
  | [], f, i, c, h => by simp [choose] at h
  | l :: bs, f, 0, c, h => by
    simp only [choose, List.getElem?_cons_zero, Option.some.injEq] at h
    unfold pickN at h
    cases hp : pickAt (W bs) f (W (l :: bs) f) l with
    | none => rw [hp] at h; exact .inl h.symm
    | some p =>
      rw [hp] at h
      obtain ⟨o, ho, _, _⟩ := pickAt_get _ _ _ _ _ hp
      exact .inr ⟨p.1, l, o, h.symm, rfl, ho⟩
  | l :: bs, f, i + 1, c, h => by
    simp only [choose, List.getElem?_cons_succ] at h
    exact choose_get bs _ i c h

/-- the coins of what a buyer wins -/
def coinAt (bs : List (List Off)) (i : Nat) (c : Int) : Int := if c < 0 then 0 else (((bs[i]?).getD [])[c.toNat]?.map (·.c)).getD 0
def payAt (n : Int) (bs : List (List Off)) (i : Nat) (c : Int) : Int := if c < 0 then 0 else coinAt bs i c - (W bs (allOf n) - woW n bs i)
/-- what each buyer pays -/
def paysC (n : Int) (bs : List (List Off)) : List Int := (bestC n bs).mapIdx fun i c => payAt n bs i c
theorem paysC_length (n : Int) (bs : List (List Off)) : (paysC n bs).length = bs.length := by simp [paysC, bestC, choose_length]
theorem paysC_get {n : Int} {bs : List (List Off)} {i : Nat} {c : Int} (h : (bestC n bs)[i]? = some c) : (paysC n bs)[i]? = some (payAt n bs i c) := by simp [paysC, h]

theorem own_far {w w' : World} {base : Nat} {e : TypeId} {sz n : Nat} {v : Value} {xs : List Value} {row : Option Nat} (h : w.ownsRow base e sz v n xs) (hg : w.grownBy w' row) (hr : ∀ g, row = some g → v.ownBlock ≠ some g) : w'.ownsRow base e sz v n xs := by
  refine h.kept hg ?_
  cases hv : v.ownBlock with
  | none => exact .inl rfl
  | some g => exact .inr fun e => hr g e.symm hv
theorem own_ne {w : World} {base base' : Nat} {e e' : TypeId} {sz sz' n n' : Nat} {v v' : Value} {xs xs' : List Value} (h : w.ownsRow base e sz v n xs) (h' : w.ownsRow base' e' sz' v' n' xs') (he : e ≠ e') {g : Nat} (hg : v.ownBlock = some g) : v'.ownBlock ≠ some g := by
  intro hg'
  rcases h.2 with ⟨rfl, _⟩ | ⟨g1, cap1, cur1, rfl, _, h1, _⟩
  · simp [Value.ownBlock] at hg
  · rcases h'.2 with ⟨rfl, _⟩ | ⟨g2, cap2, cur2, rfl, _, h2, _⟩
    · simp [Value.ownBlock] at hg'
    · simp [Value.ownBlock] at hg hg'
      subst hg hg'
      rw [h1] at h2
      injection h2 with h2
      injection h2 with _ h2
      exact he h2
theorem own_ne_blk {w : World} {base : Nat} {e t : TypeId} {sz n g : Nat} {v : Value} {xs : List Value} {cs : Array Value} (h : w.ownsRow base e sz v n xs) (hb : Blk w g t cs) (he : e ≠ t) : v.ownBlock ≠ some g := by
  intro hg
  rcases h.2 with ⟨rfl, _⟩ | ⟨g1, cap1, cur1, rfl, _, h1, _⟩
  · simp [Value.ownBlock] at hg
  · simp [Value.ownBlock] at hg
    subst hg
    unfold Blk at hb
    rw [h1] at hb
    injection hb with hb
    injection hb with _ hb
    exact he hb
theorem own_ne_map {P : Program} {kt et : TypeId} {w : World} {base : Nat} {e : TypeId} {sz n b : Nat} {v : Value} {xs : List Value} {Good : Value → Value → Prop} (h : w.ownsRow base e sz v n xs) (hm : MapG P kt et w b Good) : v.ownBlock ≠ some b := by
  intro hg
  rcases h.2 with ⟨rfl, _⟩ | ⟨g1, cap1, cur1, rfl, _, h1, _⟩
  · simp [Value.ownBlock] at hg
  · simp [Value.ownBlock] at hg
    subst hg
    obtain ⟨es, clock, h2, _⟩ := hm
    rw [h1] at h2
    cases h2

set_option maxRecDepth 100000 in
set_option maxHeartbeats 3200000 in
theorem costs_ok (n : Int) (bs : List (List Off)) (v : Value) (R : Nat → Prop) (w : World) (hl : Buys w R v bs) (hi : instE n bs = 0) :
    Calls Tryz.prog 33 #[.agg #[.int .i64 n, v]] w fun e w' => ∃ A1 c1 A2 c2, e = .returned (.tuple #[.agg #[.slice A1 bs.length c1, .int .i64 (W bs (allOf n)), .slice A2 bs.length c2], .int .i64 0]) ∧
      w'.ownsRow w.heap.size 3 1 (.slice A1 bs.length c1) bs.length (ints (bestC n bs)) ∧ w'.ownsRow w.heap.size 2 1 (.slice A2 bs.length c2) bs.length (ints (paysC n bs)) ∧ Below w.heap.size w w' := by
  obtain ⟨vs, ⟨_, A, cap, rfl, hnc, hcm, hcs⟩, hvs⟩ := id hl
  have HB := Lib.hid hl
  have HI := Lib.hid hi
  have HCS := Lib.hid hcs
  have HVS := Lib.hid hvs
  have hl32 := (instE_zero hi).2.2.1
  have HWF := Lib.hid (buys_wf hl)
  clear hl hi hcs hvs hcm
  go_enter Tryz.func33, Tryz.ntmps33
  go_wp2_with (go_at_call 56; refine (lost_ok n bs _ R _ ((HB.out.alloc _).alloc _) HI.out).mono ?_; rintro e w1 ⟨AC, cC, b5, b1, b2, mm, rfl, hown1, hlo1, hmm1, hb1⟩; have hb1a := hb1.mono (B' := w.heap.size + 2) (by simp); have hX := (two_blk hb1a).1; have hR := (two_blk hb1a).2; have hs1 := hb1a.size; simp at hs1; simp at hmm1; have HX := Lib.hid hX; have HR := Lib.hid hR; have HO1 := Lib.hid hown1; have HL1 := Lib.hid hlo1; have HB1 := Lib.hid hb1a; clear hown1 hlo1 hb1 hb1a hX hR)
  have hP0 : Blk ((w1.alloc (.cells #[.slice AC bs.length cC, .int .i64 (W bs (allOf n))] 111)).alloc (.cells #[.slice AC bs.length cC, .int .i64 (W bs (allOf n)), .slice none 0 0] 81)) (w1.heap.size + 1) 81 #[.slice AC bs.length cC, .int .i64 (W bs (allOf n)), .slice none 0 0] := by
    have := Blk.new (w1.alloc (.cells #[.slice AC bs.length cC, .int .i64 (W bs (allOf n))] 111)) 81 #[.slice AC bs.length cC, .int .i64 (W bs (allOf n)), .slice none 0 0]
    rwa [World.size_alloc] at this
  have hlt5 := World.block_lt_of_cell? _ _ HL1.out.c5
  have hltb := World.block_lt_of_cell? _ _ HL1.out.x0
  have hltc := World.block_lt_of_cell? _ _ HL1.out.w1
  have hltm := HL1.out.map.lt
  simp only at hlt5 hltb hltc
  go_loopw [29] (fun i wr => ∃ (k : Nat) (A' : Option Addr) (cap' : Nat), k ≤ bs.length ∧ i = .int .i64 k ∧ LostAt wr (w.heap.size + 2) b5 b1 b2 mm n (.slice A bs.length cap) bs ∧
      Blk wr (w1.heap.size + 1) 81 #[.slice AC bs.length cC, .int .i64 (W bs (allOf n)), .slice A' k cap'] ∧ wr.ownsRow (w1.heap.size + 2) 2 1 (.slice A' k cap') k (ints ((paysC n bs).take k)) ∧
      wr.ownsRow (w.heap.size + 2) 3 1 (.slice AC bs.length cC) bs.length (ints (bestC n bs)) ∧ Blk wr w.heap.size 24 #[.int .i64 n, .slice A bs.length cap] ∧
      Blk wr (w.heap.size + 1) 81 #[.slice none 0 0, .int .i64 0, .slice none 0 0] ∧ Below w.heap.size w wr ∧ w1.heap.size + 2 ≤ wr.heap.size)
    (fun i _ => bs.length - (intOf i).toNat)
  case atStart =>
    refine ⟨0, none, 0, Nat.zero_le _, rfl, ?_, hP0, World.ownsRow_nil _ _ _ _, ?_, (HX.out.alloc _).alloc _, (HR.out.alloc _).alloc _, ?_, by simp⟩
    · simpa using (HL1.out.alloc _).alloc _
    · simpa using (HO1.out.alloc _).alloc _
    · exact ((((((Below.refl _ _).alloc (Nat.le_refl _) _).alloc (by simp) _).trans (HB1.out.mono (by omega))).alloc (by omega) _).alloc (by simp; omega) _)
  case round =>
    obtain ⟨k, A', cap', hk, rfl, hlo, hP, hown, hch, hX, hR, hbw, hsz⟩ := hrel
    have HLO := Lib.hid hlo
    have HP := Lib.hid hP
    have HO := Lib.hid hown
    have HC := Lib.hid hch
    have HX2 := Lib.hid hX
    have HR2 := Lib.hid hR
    have HBW := Lib.hid hbw
    clear hP0
    by_cases hlt : k < bs.length
    · obtain ⟨c, hc⟩ : ∃ c, (bestC n bs)[k]? = some c := ⟨_, List.getElem?_eq_getElem (by rw [bestC, choose_length]; exact hlt)⟩
      have hpg := paysC_get hc
      obtain ⟨gC, capC, hAC, hgC, hgC2⟩ := World.ownsRow.form hch (by omega)
      injection hAC with hAC _ hcC
      subst hAC hcC
      have hcc : wr.cell? ⟨gC, k, none⟩ = some (.int .i64 c) := by
        have h1 := hch.cellAt k (by omega)
        rw [h1]
        simp [ints, hc]
      rcases choose_get bs (allOf n) k c hc with rfl | ⟨j, l, o, rfl, hl, ho⟩
      · have hpay : payAt n bs k (-1) = 0 := rfl
        rw [hpay] at hpg
        have HPG := Lib.hid hpg
        clear hlo hP hown hch hX hR hbw hpg hc hpay
        have g2 : wr.cell? ⟨w1.heap.size + 1, 2, none⟩ = some (.slice A' k cap') := (HP.out.cell 2)
        have g2a := cellAlloc g2 (.cells #[.int .i64 0] 2)
        have hszt : w1.heap.size + 2 ≤ wr.heap.size := hsz
        go_wp2_with (at_builtin; refine wpList_app _ rfl (.tmp 50) (.tmp 52) et_i64 rfl (w1.heap.size + 2) (.slice A' k cap') k (ints ((paysC n bs).take k)) rfl (HO.out.alloc _) _ _ 1 _ rfl (Sl.new wr #[.int .i64 0] _ 1 1 (by unfold maxLen; omega) rfl) (by simp [Value.oneCell']) (by omega) (by unfold maxLen; omega) (by simp; omega) ?_; intro A3 cap3 w3 hown3 hg3 hloc3; have hb3 : Blk w3 (w1.heap.size + 1) 81 #[.slice (some ⟨gC, 0, none⟩) bs.length cC, .int .i64 (W bs (allOf n)), .slice A' k cap'] := (HP.out.alloc _).grown hg3 (fun e => by have := (HO.out.lt _ e.symm).1; omega); have k0 : w3.cell? ⟨w1.heap.size + 1, 2, none⟩ = some (.slice A' k cap') := hb3.cell 2; have k1 := hb3.frozen 2; have HB3 := Lib.hid hb3; have HG3 := Lib.hid hg3; have HO3 := Lib.hid hown3; clear hb3 hg3 hown3 hloc3)
        go_roundw
        case rel =>
          have hro : ∀ g, (Value.slice A' k cap').ownBlock = some g → w1.heap.size + 2 ≤ g := fun g e => (HO.out.lt g e).1
          have hs3 := HG3.out.size
          simp at hs3
          refine ⟨k + 1, A3, cap3, by omega, by go_num, ?_, HB3.out.set_ 2 _, ?_, ?_, ?_, ?_, ?_, by simp [World.setCell]; omega⟩
          · exact ((HLO.out.alloc _).far HG3.out (fun g e => by have := hro g e; omega)).far (grownBy_setCell _ ⟨w1.heap.size + 1, 2, none⟩ _) (fun g e => by simp at e; omega)
          · have h1 := ownsRow_setCell_below HO3.out (a := ⟨w1.heap.size + 1, 2, none⟩) (by simp) (.slice A3 (k + 1) cap3)
            rw [List.take_add_one, HPG.out]
            simpa [ints] using h1
          · have h1 := own_far (HC.out.alloc (.cells #[.int .i64 0] 2)) HG3.out (fun g e => own_ne (HO.out.alloc (.cells #[.int .i64 0] 2)) (HC.out.alloc (.cells #[.int .i64 0] 2)) (by decide) e)
            exact own_far h1 (grownBy_setCell _ ⟨w1.heap.size + 1, 2, none⟩ _) (fun g e => by simp at e; subst e; exact own_ne_blk h1 HB3.out (by decide))
          · exact (((HX2.out.alloc _).grown HG3.out (fun e => by have := hro _ e.symm; omega)).far (p := ⟨w1.heap.size + 1, 2, none⟩) (by simp; omega) _)
          · exact (((HR2.out.alloc _).grown HG3.out (fun e => by have := hro _ e.symm; omega)).far (p := ⟨w1.heap.size + 1, 2, none⟩) (by simp; omega) _)
          · exact ((HBW.out.alloc (by omega) _).grown HG3.out (by simp; omega) (fun g e => by have := hro g e; omega)).setCell (p := ⟨w1.heap.size + 1, 2, none⟩) (by simp; omega) _
        case measure => simp [intOf]; omega
      · have HPG := Lib.hid hpg
        obtain ⟨hw0, hw1⟩ := woW_bd HWF.out HI.out k
        have hok := (okb_of HWF.out HI.out).1
        have hW0 := W_nonneg bs (allOf n)
        have hW1 : W bs (allOf n) ≤ 35184372088832 := by simpa using hok.W_le 0 (allOf n)
        obtain ⟨ho1, ho2, ho3, ho4⟩ := hok.offer hl ho
        have hpay : payAt n bs k (j : Int) = o.c - (W bs (allOf n) - woW n bs k) := by
          unfold payAt coinAt
          rw [if_neg (by omega), if_neg (by omega), hl]
          simp [ho]
        have hl8 := hok.len hl
        have hjl : j < l.length := (List.getElem?_eq_some_iff.1 ho).1
        obtain ⟨bq, off, rfl, _, hbq, hcs⟩ := HCS.out (by omega)
        obtain ⟨u, hu, hol⟩ := HVS.out k l hl
        have cl := (hbw.cell hbq).trans (hcs k u hu)
        obtain ⟨⟨_, A1, cap1, rfl, hnc1, _, hcs1⟩, _⟩ := hol
        obtain ⟨b1', off1, rfl, _, hb1', hcs1⟩ := hcs1 (by omega)
        have co : wr.cell? ⟨b1', off1 + j * 2 + 1, none⟩ = some (.int .i64 o.c) := (hbw.cell hb1').trans (hcs1 _ _ (Off.all_snd l j o ho))
        have cx : wr.cell? ⟨w.heap.size, 1, none⟩ = some (.slice (some ⟨bq, off, none⟩) bs.length cap) := hX.cell 1
        have hsub : IntKind.i64.wrap (o.c - (W bs (allOf n) - woW n bs k)) = o.c - (W bs (allOf n) - woW n bs k) := IntWalk.i64_in _ (by omega)
        have hk0 : (0 : Int) ≤ (k : Int) := by omega
        have hk1 : (k : Int) < (bs.length : Int) := by omega
        have hj0 : (0 : Int) ≤ (j : Int) := by omega
        have hj1 : (j : Int) < (l.length : Int) := by omega
        have HPAY := Lib.hid hpay
        have HCX := Lib.hid cx
        have HCL := Lib.hid cl
        have HCO := Lib.hid co
        clear hlo hP hown hch hX hR hbw hpg hc hpay hcs hcs1 hu hl ho
        go_wp2_with fail
        go_region_held3 (fun w' => w'.cell? ⟨w.heap.size, 1, none⟩ = some (.slice (some ⟨bq, off, none⟩) bs.length cap) ∧ w'.cell? ⟨bq, off + k, none⟩ = some (.slice (some ⟨b1', off1, none⟩) l.length cap1) ∧ w'.cell? ⟨b1', off1 + j * 2 + 1, none⟩ = some (.int .i64 o.c)) (go_keep)
          ((go_at_call 75; refine (each_any _ b5 b1 b2 mm n _ bs k hlt _ HLO.out.drew).mono ?_; rintro e w5 ⟨rfl, hl5, hg5⟩; have z0 := HLO.out.drew.keep hg5 (show wr.drew.cell? _ = _ from HCX.out); have z1 := HLO.out.drew.keep hg5 (show wr.drew.cell? _ = _ from HCL.out); have z2 := HLO.out.drew.keep hg5 (show wr.drew.cell? _ = _ from HCO.out); have z3 := HLO.out.drew.keep hg5 (show wr.drew.cell? _ = _ from hcc)))
        have hsz5 : w1.heap.size + 2 ≤ w5.heap.size := Nat.le_trans hsz hg5.size
        have HL5 := Lib.hid hl5
        have HP5 := Lib.hid (HP.out.drew.grown hg5 (fun e => by injection e with e; omega))
        have HO5 := Lib.hid (own_far (show wr.drew.ownsRow _ _ _ _ _ _ from HO.out) hg5 (fun g e => by injection e with e; subst e; exact own_ne_map HO.out HLO.out.map))
        have HC5 := Lib.hid (own_far (show wr.drew.ownsRow _ _ _ _ _ _ from HC.out) hg5 (fun g e => by injection e with e; subst e; exact own_ne_map HC.out HLO.out.map))
        have HX5 := Lib.hid (HX2.out.drew.grown hg5 (fun e => by injection e with e; omega))
        have HR5 := Lib.hid (HR2.out.drew.grown hg5 (fun e => by injection e with e; omega))
        have HB5 := Lib.hid (HBW.out.drew.grown hg5 (by have := HBW.out.size; simpa using this) (fun g e => by injection e with e; omega))
        rw [HPAY.out] at HPG
        clear hl5 hg5 hsub
        have g2 : w5.cell? ⟨w1.heap.size + 1, 2, none⟩ = some (.slice A' k cap') := (HP5.out.cell 2)
        have g2a := cellAlloc g2 (.cells #[.int .i64 (o.c - (W bs (allOf n) - woW n bs k))] 2)
        have hszt : w1.heap.size + 2 ≤ w5.heap.size := hsz5
        go_wp2_with (at_builtin; refine wpList_app _ rfl (.tmp 50) (.tmp 52) et_i64 rfl (w1.heap.size + 2) (.slice A' k cap') k (ints ((paysC n bs).take k)) rfl (HO5.out.alloc _) _ _ 1 _ rfl (Sl.new w5 #[.int .i64 (o.c - (W bs (allOf n) - woW n bs k))] _ 1 1 (by unfold maxLen; omega) rfl) (by simp [Value.oneCell']) (by omega) (by unfold maxLen; omega) (by simp; omega) ?_; intro A3 cap3 w3 hown3 hg3 hloc3; have hb3 : Blk w3 (w1.heap.size + 1) 81 #[.slice (some ⟨gC, 0, none⟩) bs.length cC, .int .i64 (W bs (allOf n)), .slice A' k cap'] := (HP5.out.alloc _).grown hg3 (fun e => by have := (HO5.out.lt _ e.symm).1; omega); have k0 : w3.cell? ⟨w1.heap.size + 1, 2, none⟩ = some (.slice A' k cap') := hb3.cell 2; have k1 := hb3.frozen 2; have HB3 := Lib.hid hb3; have HG3 := Lib.hid hg3; have HO3 := Lib.hid hown3; clear hb3 hg3 hown3 hloc3)
        go_roundw
        case rel =>
          have hro : ∀ g, (Value.slice A' k cap').ownBlock = some g → w1.heap.size + 2 ≤ g := fun g e => (HO5.out.lt g e).1
          have hs3 := HG3.out.size
          simp at hs3
          refine ⟨k + 1, A3, cap3, by omega, by go_num, ?_, HB3.out.set_ 2 _, ?_, ?_, ?_, ?_, ?_, by simp [World.setCell]; omega⟩
          · exact ((HL5.out.alloc _).far HG3.out (fun g e => by have := hro g e; omega)).far (grownBy_setCell _ ⟨w1.heap.size + 1, 2, none⟩ _) (fun g e => by simp at e; omega)
          · have h1 := ownsRow_setCell_below HO3.out (a := ⟨w1.heap.size + 1, 2, none⟩) (by simp) (.slice A3 (k + 1) cap3)
            rw [List.take_add_one, HPG.out]
            simpa [ints] using h1
          · have h1 := own_far (HC5.out.alloc (.cells #[.int .i64 (o.c - (W bs (allOf n) - woW n bs k))] 2)) HG3.out (fun g e => own_ne (HO5.out.alloc (.cells #[.int .i64 (o.c - (W bs (allOf n) - woW n bs k))] 2)) (HC5.out.alloc (.cells #[.int .i64 (o.c - (W bs (allOf n) - woW n bs k))] 2)) (by decide) e)
            exact own_far h1 (grownBy_setCell _ ⟨w1.heap.size + 1, 2, none⟩ _) (fun g e => by simp at e; subst e; exact own_ne_blk h1 HB3.out (by decide))
          · exact (((HX5.out.alloc _).grown HG3.out (fun e => by have := hro _ e.symm; omega)).far (p := ⟨w1.heap.size + 1, 2, none⟩) (by simp; omega) _)
          · exact (((HR5.out.alloc _).grown HG3.out (fun e => by have := hro _ e.symm; omega)).far (p := ⟨w1.heap.size + 1, 2, none⟩) (by simp; omega) _)
          · exact ((HB5.out.alloc (by omega) _).grown HG3.out (by simp; omega) (fun g e => by have := hro g e; omega)).setCell (p := ⟨w1.heap.size + 1, 2, none⟩) (by simp; omega) _
        case measure => simp [intOf]; omega
    · obtain rfl : k = bs.length := by omega
      have p0 := hP.cell 0
      have p1 := hP.cell 1
      have p2 := hP.cell 2
      have r0 := hR.cell 0
      have r1 := hR.cell 1
      have r2 := hR.cell 2
      have rf := hR.frozen
      simp at p0 p1 p2 r0 r1 r2
      have htk : (paysC n bs).take bs.length = paysC n bs := List.take_of_length_le (by rw [paysC_length]; exact Nat.le_refl _)
      rw [htk] at hown
      have HO := Lib.hid hown
      clear hlo hP hown hch hX hbw htk
      have hq := ((HR2.out.set_ 0 (.slice AC bs.length cC)).set_ 1 (.int .i64 (W bs (allOf n)))).set_ 2 (.slice A' bs.length cap')
      have q0 := hq.cell 0
      have q1 := hq.cell 1
      have q2 := hq.cell 2
      simp at q0 q1 q2
      clear hq hR
      go_wp2_with fail
      refine bodyPost_ret (v := .tuple #[.agg #[.slice AC bs.length cC, .int .i64 (W bs (allOf n)), .slice A' bs.length cap'], .int .i64 0]) (by simp [results, Tryz.results33, go_sem, q0, q1, q2]) rfl ⟨AC, cC, A', cap', rfl, ?_, ?_, ?_⟩
      · exact own_mono (ownsRow_setCell_below (ownsRow_setCell_below (ownsRow_setCell_below HC.out (a := ⟨w.heap.size + 1, 0, none⟩) (by simp) _) (a := ⟨w.heap.size + 1, 1, none⟩) (by simp) _) (a := ⟨w.heap.size + 1, 2, none⟩) (by simp) _) (by omega)
      · exact own_mono (ownsRow_setCell_below (ownsRow_setCell_below (ownsRow_setCell_below HO.out (a := ⟨w.heap.size + 1, 0, none⟩) (by simp; omega) _) (a := ⟨w.heap.size + 1, 1, none⟩) (by simp; omega) _) (a := ⟨w.heap.size + 1, 2, none⟩) (by simp; omega) _) (by omega)
      · exact ((HBW.out.setCell (p := ⟨w.heap.size + 1, 0, none⟩) (by simp) _).setCell (p := ⟨w.heap.size + 1, 1, none⟩) (by simp) _).setCell (p := ⟨w.heap.size + 1, 2, none⟩) (by simp) _
end Go.Proofs.YtcigobiolbojhaaGreat.Vb

/- vcg.Gains, vcg.Pivotal. -/
namespace Go.Proofs.YtcigobiolbojhaaGreat.Vb
open Go.RowKit

set_option maxHeartbeats 800000 in
theorem costs_err (n : Int) (bs : List (List Off)) (v : Value) (R : Nat → Prop) (w : World) (hl : Buys w R v bs) (hi : instE n bs ≠ 0) :
    Calls Tryz.prog 33 #[.agg #[.int .i64 n, v]] w fun e w' => e = .returned (.tuple #[.agg #[.slice none 0 0, .int .i64 0, .slice none 0 0], .int .i64 (instE n bs)]) ∧ Below w.heap.size w w' := by
  obtain ⟨vs, ⟨_, A, cap, rfl, _⟩, _⟩ := id hl
  have HB := Lib.hid hl
  have hcb : (instE n bs != 0) = true := by simpa using hi
  have HI := Lib.hid hi
  clear hl hi
  go_enter Tryz.func33, Tryz.ntmps33
  go_wp2_with (go_at_call 56; refine (lost_err n bs _ R _ ((HB.out.alloc _).alloc _) HI.out).mono ?_; rintro e w1 ⟨rfl, hb1⟩; have hb1a := hb1.mono (B' := w.heap.size + 2) (by simp); have hR := (two_blk hb1a).2; have r0 := fun o => (hR.alloc o).cell 0; have r1 := fun o => (hR.alloc o).cell 1; have r2 := fun o => (hR.alloc o).cell 2; have rf := fun o => (hR.alloc o).frozen; simp at r0 r1 r2; have hs1 := hb1a.size; simp at hs1; have HR := Lib.hid hR; have HB1 := Lib.hid hb1a; clear hb1 hb1a hR)
  have hq := (((HR.out.alloc (.cells #[.slice none 0 0, .int .i64 0] 111)).set_ 0 (.slice none 0 0)).set_ 1 (.int .i64 0)).set_ 2 (.slice none 0 0)
  have q0 := hq.cell 0
  have q1 := hq.cell 1
  have q2 := hq.cell 2
  simp at q0 q1 q2
  refine bodyPost_ret (v := .tuple #[.agg #[.slice none 0 0, .int .i64 0, .slice none 0 0], .int .i64 (instE n bs)]) (by simp [results, Tryz.results33, go_sem, q0, q1, q2]) rfl ⟨rfl, ?_⟩
  have h1 : Below w.heap.size w w1 := (((Below.refl _ _).alloc (Nat.le_refl _) _).alloc (by simp) _).trans (HB1.out.mono (by omega))
  exact (((h1.alloc (by omega) _).setCell (p := ⟨w.heap.size + 1, 0, none⟩) (by simp) _).setCell (p := ⟨w.heap.size + 1, 1, none⟩) (by simp) _).setCell (p := ⟨w.heap.size + 1, 2, none⟩) (by simp) _

/-- what each buyer gains -/
def gainAt (n : Int) (bs : List (List Off)) (i : Nat) : Int := W bs (allOf n) - woW n bs i
def gainsC (n : Int) (bs : List (List Off)) : List Int := (List.range bs.length).map (gainAt n bs)
def pivotTo (n : Int) (bs : List (List Off)) (k : Nat) : List Int := ((List.range k).filter fun i => decide (0 < gainAt n bs i)).map fun (i : Nat) => (i : Int)
def pivotC (n : Int) (bs : List (List Off)) : List Int := pivotTo n bs bs.length

theorem take_gains {n : Int} {bs : List (List Off)} {k : Nat} (h : k < bs.length) : (gainsC n bs).take (k + 1) = (gainsC n bs).take k ++ [gainAt n bs k] := by
  rw [List.take_add_one]
  simp [gainsC, h]

theorem one_blk' {w w1 : World} {cs : Array Value} {t : TypeId} (hb : Below (w.alloc (.cells cs t)).heap.size (w.alloc (.cells cs t)) w1) : Blk w1 w.heap.size t cs ∧ w.heap.size + 1 ≤ w1.heap.size ∧ Below w.heap.size w w1 := by
  have hb' := hb.mono (B' := w.heap.size + 1) (by simp)
  have hs := hb.size
  simp at hs
  exact ⟨one_blk hb', hs, ((Below.refl _ _).alloc (Nat.le_refl _) _).trans (hb'.mono (by omega))⟩

theorem pivotTo_yes {n : Int} {bs : List (List Off)} {k : Nat} (h : 0 < gainAt n bs k) : pivotTo n bs (k + 1) = pivotTo n bs k ++ [(k : Int)] := by
  simp [pivotTo, List.range_succ, List.filter_append, h]
theorem pivotTo_no {n : Int} {bs : List (List Off)} {k : Nat} (h : ¬ 0 < gainAt n bs k) : pivotTo n bs (k + 1) = pivotTo n bs k := by
  have : ¬ (0 < gainAt n bs k) := h
  simp [pivotTo, List.range_succ, List.filter_append, this]
theorem pivotTo_len (n : Int) (bs : List (List Off)) (k : Nat) : (pivotTo n bs k).length ≤ k := by
  have := List.length_filter_le (fun i => decide (0 < gainAt n bs i)) (List.range k)
  simpa [pivotTo] using this

end Go.Proofs.YtcigobiolbojhaaGreat.Vb

/- The reference of layer 8: All, May, Check, SameOffers, SameInstance. -/
namespace Go.Proofs.YtcigobiolbojhaaGreat.Vb
open Go.RowKit

set_option maxHeartbeats 400000 in
theorem refAll_any (n : Nat) (h0 : 1 ≤ n) (h1 : n ≤ 10) (w : World) :
    Calls Tryz.prog 77 #[.int .i64 n] w fun e w' => e = .returned (.int .u32 ((2 ^ n - 1 : Nat) : Int)) ∧ w = w' := by
  have hp := pow32 n (by omega)
  have hp2 : 2 ^ n ≤ 1024 := Nat.le_trans (Nat.pow_le_pow_right (by omega) h1) (by decide)
  have hp0 : 0 < 2 ^ n := Nat.two_pow_pos n
  have h3 : ((2 : Int) ^ n) = ((2 ^ n : Nat) : Int) := by simp
  have h4 := IntWalk.u32_in ((2 ^ n : Nat) : Int) (by omega)
  have h5 := IntWalk.u32_in (((2 ^ n : Nat) : Int) - 1) (by omega)
  have hr : IntKind.u32.wrap (IntKind.u32.wrap (2 ^ n) - 1) = ((2 ^ n - 1 : Nat) : Int) := by rw [h3, h4, h5]; omega
  have HR := Lib.hid hr
  clear hp hp2 hp0 h3 h4 h5 hr
  go_enter Tryz.func77, Tryz.ntmps77
  go_wp2
  go_ret
  exact ⟨by rw [← HR.out]; rfl, rfl⟩

theorem quiet_left {P : Program} {f : FuncId} {args : Array Value} {w : World} {n : Nat} {v : Value}
    (h : Calls P f args (w.drewN n) fun e w' => e = .returned v ∧ w.drewN n = w') : Calls P f args (w.drewN n) fun e w'' => e = .returned v ∧ ∃ m, w'' = w.drewN m :=
  h.mono fun _ _ ⟨he, hm⟩ => ⟨he, n, hm.symm⟩

set_option maxHeartbeats 1600000 in
theorem refMay_any (n : Nat) (h0 : 1 ≤ n) (h1 : n ≤ 10) (o : Off) (ho : o.wf) (w : World) :
    Calls Tryz.prog 58 #[.int .i64 n, .agg #[.int .u32 o.g, .int .i64 o.c]] w fun e w' => e = .returned (.bool (!badB (2 ^ n - 1) o)) ∧ Below w.heap.size w w' := by
  have hp2 : 2 ^ n ≤ 1024 := Nat.le_trans (Nat.pow_le_pow_right (by omega) h1) (by decide)
  have hp0 : 0 < 2 ^ n := Nat.two_pow_pos n
  obtain ⟨g, c⟩ := o
  obtain ⟨hg, hc0, hc1⟩ := ho
  simp only at hg hc0 hc1
  simp only
  obtain ⟨al, hal⟩ : ∃ al, al = 2 ^ n - 1 := ⟨_, rfl⟩
  have hall : al < 4294967296 := by omega
  rw [← hal]
  have HAL := Lib.hid hal
  have hbits : bits .andNot .u32 (g : Int) (al : Int) = ((andNot g al : Nat) : Int) := u32_andNot_nat g al hg hall
  clear hp2 hp0 hal
  have cA : ∀ W : World, (W.alloc (.cells #[.int .u32 g, .int .i64 c] 53)).cell? ⟨W.heap.size, 0, none⟩ = some (.int .u32 g) := fun W => by simp
  have cB : ∀ W : World, (W.alloc (.cells #[.int .u32 g, .int .i64 c] 53)).cell? ⟨W.heap.size, 1, none⟩ = some (.int .i64 c) := fun W => by simp
  by_cases hg0 : g = 0
  · have hb : (((g : Nat) : Int) != 0) = false := by simp [hg0]
    have hbad : (!badB al ⟨g, c⟩) = false := by simp [badB, hg0]
    have HBAD := Lib.hid hbad
    clear hg0 hbad
    go_enter Tryz.func58, Tryz.ntmps58
    go_wp2_with fail
    go_quiet (fail)
    go_wp2_with fail
    go_ret
    exact ⟨by rw [HBAD.out]; rfl, below_drewN ((Below.refl _ _).alloc (Nat.le_refl _) _) _⟩
  · have hb : (((g : Nat) : Int) != 0) = true := by simp [hg0]
    by_cases hin : andNot g al = 0
    · have hi : (((andNot g al : Nat) : Int) == 0) = true := by simp [hin]
      by_cases hc : 1 ≤ c
      · have hcd : decide (1 ≤ c) = true := by simp [hc]
        have hbad : (!badB al ⟨g, c⟩) = decide (c ≤ 1099511627776) := by simp [badB, hin]; rw [Bool.eq_iff_iff]; simp; omega
        have HBAD := Lib.hid hbad
        clear hg0 hin hbad
        go_enter Tryz.func58, Tryz.ntmps58
        go_wp2_with fail
        go_region_held3 (fun w' => w'.cell? ⟨w.heap.size, 0, none⟩ = some (.int .u32 g) ∧ w'.cell? ⟨w.heap.size, 1, none⟩ = some (.int .i64 c)) (go_keep)
          ((go_at_call 77; refine (refAll_any n h0 h1 _).mono ?_; rintro e w1 ⟨rfl, rfl⟩; rw [← HAL.out]))
        go_wp2_with fail
        go_ret
        exact ⟨by rw [HBAD.out]; simp, ((Below.refl _ _).alloc (Nat.le_refl _) _).drew⟩
      · have hcd : decide (1 ≤ c) = false := by simp; omega
        have hbad : (!badB al ⟨g, c⟩) = false := by simp [badB]; omega
        have HBAD := Lib.hid hbad
        clear hg0 hin hc hbad
        go_enter Tryz.func58, Tryz.ntmps58
        go_wp2_with fail
        go_quiet ((go_at_call 77; exact quiet_left (v := .int .u32 (al : Int)) ((refAll_any n h0 h1 _).mono (fun e w1 hh => by rw [HAL.out]; exact hh))))
        go_wp2_with fail
        go_ret
        exact ⟨by rw [HBAD.out]; rfl, below_drewN ((Below.refl _ _).alloc (Nat.le_refl _) _) _⟩
    · have hi : (((andNot g al : Nat) : Int) == 0) = false := by simp [hin]
      have hbad : (!badB al ⟨g, c⟩) = false := by simp [badB, hg0, hin]
      have HBAD := Lib.hid hbad
      clear hg0 hin hbad
      go_enter Tryz.func58, Tryz.ntmps58
      go_wp2_with fail
      go_quiet ((go_at_call 77; exact quiet_left (v := .int .u32 (al : Int)) ((refAll_any n h0 h1 _).mono (fun e w1 hh => by rw [HAL.out]; exact hh))))
      go_wp2_with fail
      go_ret
      exact ⟨by rw [HBAD.out]; rfl, below_drewN ((Below.refl _ _).alloc (Nat.le_refl _) _) _⟩
end Go.Proofs.YtcigobiolbojhaaGreat.Vb

/- The reference of layer 8: Check, Instance. -/
namespace Go.Proofs.YtcigobiolbojhaaGreat.Vb
open Go.RowKit

set_option maxHeartbeats 800000 in
theorem refCheck_any (n : Int) (l : List Off) (v : Value) (R : Nat → Prop) (w : World) (hl : Offs w R v l) :
    Calls Tryz.prog 36 #[.int .i64 n, v] w fun e w' => e = .returned (.tuple #[.int .i64 (checkI n l), .int .i64 (checkE n l)]) ∧ Below w.heap.size w w' := by
  obtain ⟨⟨hlen, A, cap, rfl, hncap, hcap, hcells⟩, hwf⟩ := hl
  unfold maxLen at hcap
  have HL := Lib.hid hlen
  have HC := Lib.hid hcells
  clear hlen hcells
  by_cases hn : n < 1 ∨ 10 < n
  · have hI : checkI n l = 0 := by unfold checkI; rw [if_pos hn]
    have hE : checkE n l = 2 := by unfold checkE; rw [if_pos hn]
    have HI := Lib.hid hI
    have HE := Lib.hid hE
    clear hI hE hwf
    rcases hn with hn | hn
    all_goals
      go_enter Tryz.func36, Tryz.ntmps36
      go_wp2
      all_goals go_ret2
      all_goals rw [HI.out, HE.out]
      all_goals exact ⟨rfl, Below.refl _ _⟩
  · by_cases h8 : 8 < l.length
    · have hI : checkI n l = 0 := by unfold checkI; rw [if_neg hn, if_pos h8]
      have hE : checkE n l = 3 := by unfold checkE; rw [if_neg hn, if_pos h8]
      have HI := Lib.hid hI
      have HE := Lib.hid hE
      have hn0 : 1 ≤ n := by omega
      have hn1 : n ≤ 10 := by omega
      clear hI hE hn hwf
      go_enter Tryz.func36, Tryz.ntmps36
      go_wp2
      go_ret2
      rw [HI.out, HE.out]
      exact ⟨rfl, Below.refl _ _⟩
    · have hI : checkI n l = match badAt (2 ^ n.toNat - 1) l with | some k => (k : Int) | none => 0 := by unfold checkI; rw [if_neg hn, if_neg h8]; rfl
      have hE : checkE n l = match badAt (2 ^ n.toNat - 1) l with | some _ => 180 | none => 0 := by unfold checkE; rw [if_neg hn, if_neg h8]; rfl
      obtain ⟨m, rfl⟩ : ∃ m : Nat, n = m := ⟨n.toNat, by omega⟩
      have hm0 : 1 ≤ m := by omega
      have hm1 : m ≤ 10 := by omega
      simp only [Int.toNat_natCast] at hI hE
      have HI := Lib.hid hI
      have HE := Lib.hid hE
      have HW := Lib.hid hwf
      clear hI hE hn hwf
      go_enter Tryz.func36, Tryz.ntmps36
      go_wp2
      go_loopw [6] (fun i wr => ∃ k : Nat, k ≤ l.length ∧ i = .int .i64 k ∧ Below w.heap.size w wr ∧ ∀ j x, j < k → l[j]? = some x → badB (2 ^ m - 1) x = false) (fun i _ => l.length - (intOf i).toNat)
      case atStart => exact ⟨0, Nat.zero_le _, rfl, Below.refl _ _, fun j x hj => by omega⟩
      case round =>
        obtain ⟨k, hk, rfl, hb, hno⟩ := hrel
        have HN := Lib.hid hno
        clear hno
        by_cases hlt : k < l.length
        · obtain ⟨bb, off, rfl, _, hbb, hcs⟩ := HC.out (by omega)
          obtain ⟨o, ho⟩ : ∃ o, l[k]? = some o := ⟨_, List.getElem?_eq_getElem hlt⟩
          have c0 : wr.cell? ⟨bb, off + k * 2, none⟩ = some (.int .u32 o.g) := (hb.cell hbb).trans (hcs _ _ (Off.all_fst l k o ho))
          have c1 : wr.cell? ⟨bb, off + k * 2 + 1, none⟩ = some (.int .i64 o.c) := (hb.cell hbb).trans (hcs _ _ (Off.all_snd l k o ho))
          have hwo := HW.out o (List.mem_of_getElem? ho)
          clear hcs
          have HO := Lib.hid ho
          have HWO := Lib.hid hwo
          clear ho hwo
          by_cases hbad : badB (2 ^ m - 1) o = true
          · have hnb : (!badB (2 ^ m - 1) o) = false := by rw [hbad]; rfl
            have HB := Lib.hid hbad
            have HNB := Lib.hid hnb
            clear hbad hnb
            go_wp2_with (go_at_call 58; refine (refMay_any m hm0 hm1 o HWO.out _).mono ?_; rintro e w1 ⟨rfl, hb1⟩; rw [HNB.out])
            go_ret2
            rw [HI.out, HE.out, badAt_some _ l k o HO.out HB.out HN.out]
            exact ⟨rfl, hb.trans (hb1.mono hb.size)⟩
          · have hbad : badB (2 ^ m - 1) o = false := by simpa using hbad
            have hnb : (!badB (2 ^ m - 1) o) = true := by rw [hbad]; rfl
            have HB := Lib.hid hbad
            have HNB := Lib.hid hnb
            clear hbad hnb
            go_wp2_with (go_at_call 58; refine (refMay_any m hm0 hm1 o HWO.out _).mono ?_; rintro e w1 ⟨rfl, hb1⟩; rw [HNB.out])
            go_roundw
            case rel =>
              refine ⟨k + 1, by omega, by go_num, hb.trans (hb1.mono hb.size), fun j x hj hx => ?_⟩
              by_cases hjk : j < k
              · exact HN.out j x hjk hx
              · obtain rfl : j = k := by omega
                rw [HO.out] at hx
                cases hx
                exact HB.out
            case measure => simp [intOf]; omega
        · go_wp2
          go_ret2
          rw [HI.out, HE.out, badAt_none _ l (fun o ho => ?_)]
          · exact ⟨rfl, hb⟩
          · obtain ⟨j, hj, rfl⟩ := List.getElem_of_mem ho
            exact HN.out j _ (by omega) (List.getElem?_eq_getElem hj)

theorem longAny_of : ∀ (bs : List (List Off)) (k : Nat) (l : List Off), bs[k]? = some l → longB l = true → bs.any longB = true :=
  fun _ _ l h hl => List.any_eq_true.2 ⟨l, List.mem_of_getElem? h, hl⟩

set_option maxHeartbeats 1600000 in
theorem refInstance_any (n : Int) (bs : List (List Off)) (v : Value) (R : Nat → Prop) (w : World) (hl : Buys w R v bs) :
    Calls Tryz.prog 35 #[.agg #[.int .i64 n, v]] w fun e w' => e = .returned (.int .i64 (instE n bs)) ∧ Below w.heap.size w w' := by
  obtain ⟨vs, ⟨hlen, A, cap, rfl, hncap, hcap, hcells⟩, hvs⟩ := id hl
  unfold maxLen at hcap
  have hnl : bs.length ≤ 9223372036854775807 := by omega
  have HC := Lib.hid hcells
  have HV := Lib.hid hvs
  clear hl hcells hvs hlen
  by_cases hn : n < 1 ∨ 10 < n
  · have hE : instE n bs = 2 := by unfold instE; rw [if_pos hn]
    have HE := Lib.hid hE
    clear hE
    rcases hn with hn | hn
    all_goals
      go_enter Tryz.func35, Tryz.ntmps35
      go_wp2
      all_goals go_ret
      all_goals rw [HE.out]
      all_goals exact ⟨rfl, (Below.refl _ _).alloc (Nat.le_refl _) _⟩
  · have hn0 : 1 ≤ n := by omega
    have hn1 : n ≤ 10 := by omega
    by_cases h32 : 32 < bs.length
    · have hE : instE n bs = 3 := by unfold instE; rw [if_neg hn, if_pos (Or.inl h32)]
      have HE := Lib.hid hE
      clear hE hn
      go_enter Tryz.func35, Tryz.ntmps35
      go_wp2
      all_goals go_ret
      all_goals rw [HE.out]
      all_goals exact ⟨rfl, (Below.refl _ _).alloc (Nat.le_refl _) _⟩
    · have hE : ∀ k l, bs[k]? = some l → longB l = true → instE n bs = 3 := fun k l h1 h2 => by unfold instE; rw [if_neg hn, if_pos (Or.inr (longAny_of bs k l h1 h2))]
      have hE2 : (∀ j x, j < bs.length → bs[j]? = some x → longB x = false) → instE n bs = instLoop n bs := fun h => by
        unfold instE
        rw [if_neg hn, if_neg]
        rintro (hh | hh)
        · exact h32 hh
        · obtain ⟨x, hx, hxx⟩ := List.any_eq_true.1 hh
          obtain ⟨j, hj, rfl⟩ := List.getElem_of_mem hx
          rw [h j _ hj (List.getElem?_eq_getElem hj)] at hxx
          cases hxx
      have HE := Lib.hid hE
      have HE2 := Lib.hid hE2
      clear hE hE2 hn
      go_enter Tryz.func35, Tryz.ntmps35
      go_wp2
      have ca : ∀ W : World, (W.alloc (.cells #[.int .i64 n, .slice A bs.length cap] 24)).cell? ⟨W.heap.size, 1, none⟩ = some (.slice A bs.length cap) := fun W => by simp
      go_loop [3] (fun i => ∃ k : Nat, k ≤ bs.length ∧ i = .int .i64 k ∧ ∀ j x, j < k → bs[j]? = some x → longB x = false) (fun i => bs.length - (intOf i).toNat)
      case atStart => exact ⟨0, Nat.zero_le _, rfl, fun j x hj => by omega⟩
      case round =>
        obtain ⟨k, hk, rfl, hno⟩ := hrel
        have HN := Lib.hid hno
        clear hno
        by_cases hlt : k < bs.length
        · obtain ⟨bb, off, rfl, _, hbb, hcs⟩ := HC.out (by omega)
          obtain ⟨l, ho⟩ : ∃ l, bs[k]? = some l := ⟨_, List.getElem?_eq_getElem hlt⟩
          obtain ⟨u, hu, hol⟩ := HV.out k l ho
          have c0 := cellAlloc (hcs _ _ hu)
          obtain ⟨⟨_, A', cap', rfl, _⟩, _⟩ := hol
          clear hcs hu
          have HO := Lib.hid ho
          clear ho
          by_cases h8 : 8 < l.length
          · have h8' := Lib.hid h8
            go_wp2
            go_ret
            rw [HE.out k l HO.out (by unfold longB; simpa using h8'.out)]
            exact ⟨rfl, (Below.refl _ _).alloc (Nat.le_refl _) _⟩
          · have h8' := Lib.hid h8
            go_wp2
            go_round
            case rel =>
              refine ⟨k + 1, by omega, by go_num, fun j x hj hx => ?_⟩
              by_cases hjk : j < k
              · exact HN.out j x hjk hx
              · obtain rfl : j = k := by omega
                rw [HO.out] at hx
                cases hx
                unfold longB
                simp
                omega
            case measure => simp [intOf]; omega
        · have HE3 := HE2.out (fun j x hj => HN.out j x (by omega))
          have HE4 := Lib.hid HE3
          clear HE3 HE2 HE HN
          go_wp2
          go_loopw [4] (fun i wr => ∃ k : Nat, k ≤ bs.length ∧ i = .int .i64 k ∧ Below (w.heap.size + 1) (w.alloc (.cells #[.int .i64 n, .slice A bs.length cap] 24)) wr ∧ ∀ j x, j < k → bs[j]? = some x → checkE n x = 0) (fun i _ => bs.length - (intOf i).toNat)
          case atStart => exact ⟨0, Nat.zero_le _, rfl, Below.refl _ _, fun j x hj => by omega⟩
          case round =>
            obtain ⟨k2, hk2, rfl, hb, hno⟩ := hrel
            have HN := Lib.hid hno
            clear hno
            have hb' : Below w.heap.size w wr := ((Below.refl _ _).alloc (Nat.le_refl _) _).trans (hb.mono (by omega))
            have cb0 : wr.cell? ⟨w.heap.size, 0, none⟩ = some (.int .i64 n) := (hb.cell (p := ⟨w.heap.size, 0, none⟩) (by simp)).trans (by simp)
            have cb1 : wr.cell? ⟨w.heap.size, 1, none⟩ = some (.slice A bs.length cap) := (hb.cell (p := ⟨w.heap.size, 1, none⟩) (by simp)).trans (by simp)
            by_cases hlt : k2 < bs.length
            · obtain ⟨bb, off, rfl, _, hbb, hcs⟩ := HC.out (by omega)
              obtain ⟨l, ho⟩ : ∃ l, bs[k2]? = some l := ⟨_, List.getElem?_eq_getElem hlt⟩
              obtain ⟨u, hu, hol⟩ := HV.out k2 l ho
              have c0 : wr.cell? ⟨bb, off + k2, none⟩ = some u := by have h := (hb'.cell hbb).trans (hcs _ _ hu); simpa using h
              have hbbr : bb < wr.heap.size := Nat.lt_of_lt_of_le hbb hb'.size
              have hwr : w.heap.size < wr.heap.size := by have := hb.size; simp at this; omega
              have HOL := Lib.hid (show Offs wr.drew R u l from (show Offs wr R u l from hol.grow hb'))
              obtain ⟨⟨_, A', cap', rfl, _⟩, _⟩ := hol
              clear hcs hu
              have HO := Lib.hid ho
              have HBB := Lib.hid hb
              have HBB' := Lib.hid hb'
              clear ho hb hb'
              by_cases hce : checkE n l = 0
              · have HCE := Lib.hid hce
                clear hce
                go_wp2_with fail
                go_region_held3 (fun w' => w'.cell? ⟨w.heap.size, 0, none⟩ = some (.int .i64 n) ∧ w'.cell? ⟨w.heap.size, 1, none⟩ = some (.slice (some ⟨bb, off, none⟩) bs.length cap) ∧ w'.cell? ⟨bb, off + k2, none⟩ = some (.slice A' l.length cap')) (go_keep)
                  ((go_at_call 36; refine (refCheck_any n l _ R _ HOL.out).mono ?_; rintro e w1 ⟨rfl, hb1⟩; have e0 := (hb1.cell (p := ⟨w.heap.size, 0, none⟩) (by simp; omega)).trans cb0; have e1 := (hb1.cell (p := ⟨w.heap.size, 1, none⟩) (by simp; omega)).trans cb1; have e2 := (hb1.cell (p := ⟨bb, off + k2, none⟩) (by simp; omega)).trans c0; have HB1 := Lib.hid hb1; clear hb1; rw [HCE.out]))
                go_wp2_with fail
                go_roundw
                case rel =>
                  refine ⟨k2 + 1, by omega, by go_num, (HBB.out.drew).trans (HB1.out.mono (by have := HBB.out.size; simp at this; simp; omega)), fun j x hj hx => ?_⟩
                  by_cases hjk : j < k2
                  · exact HN.out j x hjk hx
                  · obtain rfl : j = k2 := by omega
                    rw [HO.out] at hx
                    cases hx
                    exact HCE.out
                case measure => simp [intOf]; omega
              · have hcb : (checkE n l != 0) = true := by simpa using hce
                have HCE := Lib.hid hce
                clear hce
                go_wp2_with fail
                go_region_held3 (fun w' => w'.cell? ⟨w.heap.size, 0, none⟩ = some (.int .i64 n) ∧ w'.cell? ⟨w.heap.size, 1, none⟩ = some (.slice (some ⟨bb, off, none⟩) bs.length cap) ∧ w'.cell? ⟨bb, off + k2, none⟩ = some (.slice A' l.length cap')) (go_keep)
                  ((go_at_call 36; refine (refCheck_any n l _ R _ HOL.out).mono ?_; rintro e w1 ⟨rfl, hb1⟩; have e0 := (hb1.cell (p := ⟨w.heap.size, 0, none⟩) (by simp; omega)).trans cb0; have e1 := (hb1.cell (p := ⟨w.heap.size, 1, none⟩) (by simp; omega)).trans cb1; have e2 := (hb1.cell (p := ⟨bb, off + k2, none⟩) (by simp; omega)).trans c0; have HB1 := Lib.hid hb1; clear hb1))
                go_wp2_with fail
                go_ret
                refine ⟨ret_int ?_, (HBB'.out.drew).trans (HB1.out.mono (by have := HBB'.out.size; simpa using this))⟩
                rw [HE4.out, instLoop_some n bs k2 l HO.out HCE.out HN.out]
            · have HBB' := Lib.hid hb'
              clear hb hb'
              go_wp2
              go_ret
              refine ⟨ret_int ?_, HBB'.out⟩
              rw [HE4.out, instLoop_none n bs (fun o ho => ?_)]
              obtain ⟨j, hj, rfl⟩ := List.getElem_of_mem ho
              exact HN.out j _ (by omega) (List.getElem?_eq_getElem hj)
end Go.Proofs.YtcigobiolbojhaaGreat.Vb

/- The reference of layer 8: SameOffers, SameInstance, With. -/
namespace Go.Proofs.YtcigobiolbojhaaGreat.Vb
open Go.RowKit

set_option maxHeartbeats 800000 in
theorem refSameOff_true (l : List Off) (va vb : Value) (Ra Rb : Nat → Prop) (w : World) (ha : Offs w Ra va l) (hb : Offs w Rb vb l) :
    Calls Tryz.prog 41 #[va, vb] w fun e w' => e = .returned (.bool true) ∧ Below w.heap.size w w' := by
  obtain ⟨⟨hlen, A, cap, rfl, hncap, hcap, hcells⟩, hwf⟩ := ha
  obtain ⟨⟨_, A', cap', rfl, hncap', hcap', hcells'⟩, _⟩ := hb
  unfold maxLen at hcap hcap'
  have HC := Lib.hid hcells
  have HC' := Lib.hid hcells'
  have HW := Lib.hid hwf
  clear hcells hcells' hwf hlen
  go_enter Tryz.func41, Tryz.ntmps41
  go_wp2
  go_loopw [5] (fun i wr => ∃ k : Nat, k ≤ l.length ∧ i = .int .i64 k ∧ Below w.heap.size w wr) (fun i _ => l.length - (intOf i).toNat)
  case atStart => exact ⟨0, Nat.zero_le _, rfl, Below.refl _ _⟩
  case round =>
    obtain ⟨k, hk, rfl, hb⟩ := hrel
    by_cases hlt : k < l.length
    · obtain ⟨bb, off, rfl, _, hbb, hcs⟩ := HC.out (by omega)
      obtain ⟨bb', off', rfl, _, hbb', hcs'⟩ := HC'.out (by omega)
      obtain ⟨o, ho⟩ : ∃ o, l[k]? = some o := ⟨_, List.getElem?_eq_getElem hlt⟩
      have c0 : wr.cell? ⟨bb, off + k * 2, none⟩ = some (.int .u32 o.g) := (hb.cell hbb).trans (hcs _ _ (Off.all_fst l k o ho))
      have c1 : wr.cell? ⟨bb, off + k * 2 + 1, none⟩ = some (.int .i64 o.c) := (hb.cell hbb).trans (hcs _ _ (Off.all_snd l k o ho))
      have d0 : wr.cell? ⟨bb', off' + k * 2, none⟩ = some (.int .u32 o.g) := (hb.cell hbb').trans (hcs' _ _ (Off.all_fst l k o ho))
      have d1 : wr.cell? ⟨bb', off' + k * 2 + 1, none⟩ = some (.int .i64 o.c) := (hb.cell hbb').trans (hcs' _ _ (Off.all_snd l k o ho))
      clear hcs hcs' ho
      go_wp2_with fail
      go_quiet (fail)
      go_wp2_with fail
      go_roundw
      case rel =>
        exact ⟨k + 1, by omega, by go_num, below_drewN hb _⟩
      case measure => simp [intOf]; omega
    · go_wp2
      go_ret
      exact ⟨rfl, hb⟩

theorem Buys.any {w : World} {R : Nat → Prop} {v : Value} {bs : List (List Off)} (h : Buys w R v bs) : Buys w (fun _ => True) v bs := by
  obtain ⟨vs, hs, ho⟩ := h
  exact ⟨vs, hs.mono fun _ _ _ => trivial, fun k l hk => let ⟨u, hu, hl⟩ := ho k l hk; ⟨u, hu, hl.mono fun _ _ _ => trivial⟩⟩
theorem Offs.any {w : World} {R : Nat → Prop} {v : Value} {l : List Off} (h : Offs w R v l) : Offs w (fun _ => True) v l := h.mono fun _ _ _ => trivial

set_option maxHeartbeats 1600000 in
theorem refWith_err (n : Int) (bs : List (List Off)) (buyer : Int) (l : List Off) (v v2 : Value) (R R2 : Nat → Prop) (w : World) (hl : Buys w R v bs) (hl2 : Offs w R2 v2 l) (he : withE n bs buyer l ≠ 0) :
    Calls Tryz.prog 37 #[.agg #[.int .i64 n, v], .int .i64 buyer, v2] w fun e w' => e = .returned (.tuple #[.agg #[.int .i64 0, .slice none 0 0], .int .i64 (withE n bs buyer l)]) ∧ Below w.heap.size w w' := by
  obtain ⟨vs, ⟨hlen, A, cap, rfl, hncap, hcap, hcells⟩, hvs⟩ := id hl
  have HB := Lib.hid hl
  have HB2 := Lib.hid hl2
  clear hl hl2 hcells hvs hlen hcap
  by_cases hi : instE n bs = 0
  · have hlen32 := (instE_zero hi).2.2.1
    by_cases hbu : buyer < 0 ∨ (bs.length : Int) ≤ buyer
    · have hE : withE n bs buyer l = 2 := by unfold withE; rw [if_neg (by simpa using hi), if_pos hbu]
      have HE := Lib.hid hE
      have HI := Lib.hid hi
      clear hE he hi
      rcases hbu with hbu | hbu
      all_goals
        go_enter Tryz.func37, Tryz.ntmps37
        go_wp2_with (go_at_call 35; refine (refInstance_any n bs _ R _ ((HB.out.alloc _).alloc _)).mono ?_; rintro e w1 ⟨rfl, hb1⟩; rw [HI.out]; obtain ⟨cx0, cx1, cy0, cy1, fx, fy, hs1, hb1'⟩ := two_new (by simpa using hb1))
        all_goals refine bodyPost_ret (v := .tuple #[.agg #[.int .i64 0, .slice none 0 0], .int .i64 2]) (by simp [results, Tryz.results37, go_sem, cy0, cy1]) rfl ⟨by rw [HE.out], ?_⟩
        all_goals exact (hb1'.setCell (p := ⟨w.heap.size + 1, 0, none⟩) (by simp) _).setCell (p := ⟨w.heap.size + 1, 1, none⟩) (by simp) _
    · have hE : withE n bs buyer l = checkE n l := by unfold withE; rw [if_neg (by simpa using hi), if_neg hbu]
      rw [hE] at he
      have hcb : (checkE n l != 0) = true := by simpa using he
      have hb0 : 0 ≤ buyer := by omega
      have hb1 : buyer < bs.length := by omega
      have HE := Lib.hid hE
      have HI := Lib.hid hi
      clear hE he hi hbu
      go_enter Tryz.func37, Tryz.ntmps37
      go_wp2_with (first
        | (go_at_call 35; refine (refInstance_any n bs _ R _ ((HB.out.alloc _).alloc _)).mono ?_; rintro e w1 ⟨rfl, hb1⟩; rw [HI.out]; obtain ⟨cx0, cx1, cy0, cy1, fx, fy, hs1, hb1'⟩ := two_new (by simpa using hb1))
        | (go_at_call 36; refine (refCheck_any n l _ R2 _ (HB2.out.grow hb1')).mono ?_; rintro e w2 ⟨rfl, hb2⟩; obtain ⟨dx0, dx1, dy0, dy1, gx, gy, hs2, hb2'⟩ := two_new ((show Below (w.heap.size + 2) _ _ from by simpa using hb1).trans (hb2.mono (by omega)))))
      refine bodyPost_ret (v := .tuple #[.agg #[.int .i64 0, .slice none 0 0], .int .i64 (checkE n l)]) (by simp [results, Tryz.results37, go_sem, dy0, dy1]) rfl ⟨by rw [HE.out], ?_⟩
      exact (hb2'.setCell (p := ⟨w.heap.size + 1, 0, none⟩) (by simp) _).setCell (p := ⟨w.heap.size + 1, 1, none⟩) (by simp) _
  · have hE : withE n bs buyer l = instE n bs := by unfold withE; rw [if_pos (by simpa using hi)]
    have hcb : (instE n bs != 0) = true := by simpa using hi
    have HE := Lib.hid hE
    clear hE he hi
    go_enter Tryz.func37, Tryz.ntmps37
    go_wp2_with (go_at_call 35; refine (refInstance_any n bs _ R _ ((HB.out.alloc _).alloc _)).mono ?_; rintro e w1 ⟨rfl, hb1⟩; obtain ⟨cx0, cx1, cy0, cy1, fx, fy, hs1, hb1'⟩ := two_new (by simpa using hb1))
    refine bodyPost_ret (v := .tuple #[.agg #[.int .i64 0, .slice none 0 0], .int .i64 (instE n bs)]) (by simp [results, Tryz.results37, go_sem, cy0, cy1]) rfl ⟨by rw [HE.out], ?_⟩
    exact (hb1'.setCell (p := ⟨w.heap.size + 1, 0, none⟩) (by simp) _).setCell (p := ⟨w.heap.size + 1, 1, none⟩) (by simp) _
end Go.Proofs.YtcigobiolbojhaaGreat.Vb

/- The reference of layer 8: With where it may be. -/
namespace Go.Proofs.YtcigobiolbojhaaGreat.Vb
open Go.RowKit

theorem Sl.one_of {w : World} {R : Nat → Prop} {bs : List (List Off)} {vs : List Value} (hl : vs.length = bs.length) (ho : ∀ (k : Nat) (l : List Off), bs[k]? = some l → ∃ u, vs[k]? = some u ∧ Offs w R u l) : ∀ u ∈ vs, u.oneCell' = true := by
  intro u hu
  obtain ⟨j, hj, rfl⟩ := List.getElem_of_mem hu
  obtain ⟨u', h1, h2⟩ := ho j bs[j] (List.getElem?_eq_getElem (by omega))
  rw [List.getElem?_eq_getElem hj] at h1
  injection h1 with h1
  obtain ⟨⟨_, A, cap, h3, _⟩, _⟩ := h2
  rw [h1, h3]
  rfl

theorem own_some {w : World} {base : Nat} {e : TypeId} {n cap : Nat} {A : Option Addr} {xs : List Value} (h : w.ownsRow base e 1 (.slice A n cap) n xs) (h0 : 0 < n) :
    ∃ g, A = some ⟨g, 0, none⟩ ∧ base ≤ g ∧ g < w.heap.size ∧ n ≤ cap ∧ (∀ i, w.frozen? ⟨g, i, none⟩ = false) ∧ ∀ k, k < n → ∃ u, xs[k]? = some u ∧ w.cell? ⟨g, k, none⟩ = some u := by
  have hl := h.1
  rcases h.2 with ⟨_, h⟩ | ⟨g, cap', cur, hv, hg, hh, hnc, _⟩
  · omega
  · injection hv with hA _ hc
    subst hA hc
    refine ⟨g, rfl, hg, (Array.getElem?_eq_some_iff.1 hh).1, hnc, fun i => h.frozenAt i, fun k hk => ?_⟩
    have hx : xs[k]? = some xs[k] := List.getElem?_eq_getElem (by omega)
    exact ⟨_, hx, (h.cellAt k (by omega)).trans hx⟩

set_option maxHeartbeats 1600000 in
set_option maxRecDepth 100000 in
theorem refWith_ok (n : Int) (bs : List (List Off)) (buyer : Int) (l : List Off) (v v2 : Value) (R R2 : Nat → Prop) (w : World) (hl : Buys w R v bs) (hl2 : Offs w R2 v2 l) (he : withE n bs buyer l = 0) :
    Calls Tryz.prog 37 #[.agg #[.int .i64 n, v], .int .i64 buyer, v2] w fun e w' => ∃ A' cap', e = .returned (.tuple #[.agg #[.int .i64 n, .slice A' bs.length cap'], .int .i64 0]) ∧
      Buys w' (fun _ => True) (.slice A' bs.length cap') (bs.set buyer.toNat l) ∧ Below w.heap.size w w' := by
  have hi : instE n bs = 0 := by
    by_cases h : instE n bs = 0
    · exact h
    · unfold withE at he; rw [if_pos h] at he; exact absurd he h
  have hbu : ¬ (buyer < 0 ∨ (bs.length : Int) ≤ buyer) := by
    intro h
    unfold withE at he
    rw [if_neg (by simpa using hi), if_pos h] at he
    omega
  have hc : checkE n l = 0 := by unfold withE at he; rwa [if_neg (by simpa using hi), if_neg hbu] at he
  have hlen32 := (instE_zero hi).2.2.1
  have hb0 : 0 ≤ buyer := by omega
  have hb1 : buyer < bs.length := by omega
  clear hbu he
  obtain ⟨bu, rfl⟩ := Int.eq_ofNat_of_zero_le hb0
  rw [Int.toNat_natCast]
  have hbn : bu < bs.length := by omega
  obtain ⟨vs, hsv, hvs⟩ := id hl
  have hone := Sl.one_of (by have := hsv.1; omega) hvs
  have HSV := Lib.hid hsv
  have HVS := Lib.hid hvs
  have HONE := Lib.hid hone
  obtain ⟨hlen, A, cap, rfl, hncap, hcap, hcells⟩ := hsv
  obtain ⟨⟨_, A2, cap2, rfl, _⟩, _⟩ := id hl2
  have HB := Lib.hid hl
  have HB2 := Lib.hid hl2
  have HI := Lib.hid hi
  have HC := Lib.hid hc
  clear hl hl2 hcells hvs hcap hi hc hone
  go_enter Tryz.func37, Tryz.ntmps37
  go_wp2_with (first
    | (go_at_call 35; refine (refInstance_any n bs _ R _ ((HB.out.alloc _).alloc _)).mono ?_; rintro e w1 ⟨rfl, hb1⟩; rw [HI.out]; have hb1a := hb1.mono (B' := w.heap.size + 2) (by simp); obtain ⟨cx0, cx1, cy0, cy1, fx, fy, hs1, hb1'⟩ := two_new hb1a; have HB1 := Lib.hid hb1a; have HB1' := Lib.hid hb1'; clear hb1 hb1a hb1')
    | (go_at_call 36; refine (refCheck_any n l _ R2 _ (HB2.out.grow HB1'.out)).mono ?_; rintro e w2 ⟨rfl, hb2⟩; rw [HC.out]; have hb2a := HB1.out.trans (hb2.mono hs1); obtain ⟨dx0, dx1, dy0, dy1, gx, gy, hs2, hb2'⟩ := two_new hb2a; have HB3 := Lib.hid hb2a; have HB3' := Lib.hid hb2'; have dz1 := cellAlloc dx1; clear hb2 hb2a hb2' cx0 cx1 cy0 cy1 fx fy hs1)
    | (at_builtin; refine wpList_app _ rfl (.tmp 43) (.tmp 45) et_offs rfl (w2.heap.size + 1) (.slice none 0 0) 0 [] rfl (World.ownsRow_nil _ _ _ _) R _ bs.length vs rfl (((HSV.out.grow HB3'.out)).alloc _) HONE.out (by omega) (by unfold maxLen; omega) (by simp) ?_; intro A' cap' w4 hown4 hg4 hloc4; rw [Nat.zero_add, List.nil_append] at hown4; obtain ⟨g, rfl, hg0, hg1, hnc, hgf, hgc⟩ := own_some hown4 (by omega); obtain ⟨ug, _, hug⟩ := hgc bu hbn; rw [Nat.zero_add]; have hy4 : Blk w4 w2.heap.size 24 #[.int .i64 n, .slice none 0 0] := (Blk.new w2 _ _).grown hg4 (by simp [Value.ownBlock]); have y1 : w4.cell? ⟨w2.heap.size, 1, none⟩ = some (.slice none 0 0) := hy4.cell 1; have yf := hy4.frozen 1; have hy5 := hy4.set_ 1 (.slice (some ⟨g, 0, none⟩) bs.length cap'); have z1 : (w4.setCell ⟨w2.heap.size, 1, none⟩ (.slice (some ⟨g, 0, none⟩) bs.length cap')).cell? ⟨w2.heap.size, 1, none⟩ = some (.slice (some ⟨g, 0, none⟩) bs.length cap') := hy5.cell 1; have g5 : (w4.setCell ⟨w2.heap.size, 1, none⟩ (.slice (some ⟨g, 0, none⟩) bs.length cap')).cell? ⟨g, bu, none⟩ = some ug := (World.cell?_setCell_other w4 ⟨w2.heap.size, 1, none⟩ ⟨g, bu, none⟩ _ (fun e => by injection e with e; omega)).trans hug; have f5 : (w4.setCell ⟨w2.heap.size, 1, none⟩ (.slice (some ⟨g, 0, none⟩) bs.length cap')).frozen? ⟨g, bu, none⟩ = false := (by rw [World.frozen?_setCell]; exact hgf bu); have hy6 := hy5.far (p := ⟨g, bu, none⟩) (show w2.heap.size ≠ g by omega) (.slice A2 l.length cap2); have z60 : ((w4.setCell ⟨w2.heap.size, 1, none⟩ (.slice (some ⟨g, 0, none⟩) bs.length cap')).setCell ⟨g, bu, none⟩ (.slice A2 l.length cap2)).cell? ⟨w2.heap.size, 0, none⟩ = some (.int .i64 n) := hy6.cell 0; have z61 : ((w4.setCell ⟨w2.heap.size, 1, none⟩ (.slice (some ⟨g, 0, none⟩) bs.length cap')).setCell ⟨g, bu, none⟩ (.slice A2 l.length cap2)).cell? ⟨w2.heap.size, 1, none⟩ = some (.slice (some ⟨g, 0, none⟩) bs.length cap') := hy6.cell 1; have r6 : ∀ i v, w2.cell? ⟨w.heap.size + 1, i, none⟩ = some v → ((w4.setCell ⟨w2.heap.size, 1, none⟩ (.slice (some ⟨g, 0, none⟩) bs.length cap')).setCell ⟨g, bu, none⟩ (.slice A2 l.length cap2)).cell? ⟨w.heap.size + 1, i, none⟩ = some v := fun i v h => (World.cell?_setCell_other _ ⟨g, bu, none⟩ ⟨w.heap.size + 1, i, none⟩ _ (fun e => by injection e with e; omega)).trans ((World.cell?_setCell_other _ ⟨w2.heap.size, 1, none⟩ ⟨w.heap.size + 1, i, none⟩ _ (fun e => by injection e with e; omega)).trans (hg4.cell (cellAlloc h _) (by simp [Value.ownBlock]))); have r60 := r6 0 _ dy0; have r61 := r6 1 _ dy1; have rf : ∀ i, ((w4.setCell ⟨w2.heap.size, 1, none⟩ (.slice (some ⟨g, 0, none⟩) bs.length cap')).setCell ⟨g, bu, none⟩ (.slice A2 l.length cap2)).frozen? ⟨w.heap.size + 1, i, none⟩ = false := (fun i => by rw [World.frozen?_setCell, World.frozen?_setCell]; exact (World.frozen?_of_block (hg4.block _ (by simp; omega) (by simp [Value.ownBlock]))).trans ((World.frozen?_of_block (w := w2) (Below.heap_alloc _ _ _ (by simp; omega))).trans (gy i))); have HO4 := Lib.hid hown4; have HG4 := Lib.hid hg4; have HY5 := Lib.hid hy5; clear hown4 hg4 hloc4 hgc hy4 hy5 hy6 r6))
  have HBL : Hid (Below w.heap.size w ((((w4.setCell ⟨w2.heap.size, 1, none⟩ (.slice (some ⟨g, 0, none⟩) bs.length cap')).setCell ⟨g, bu, none⟩ (.slice A2 l.length cap2)).setCell ⟨w.heap.size + 1, 0, none⟩ (.int .i64 n)).setCell ⟨w.heap.size + 1, 1, none⟩ (.slice (some ⟨g, 0, none⟩) bs.length cap'))) :=
    (((((HB3'.out.alloc (by omega) _).grown HG4.out (by simp; omega) (fun g e => by simp [Value.ownBlock] at e)).setCell (p := ⟨w2.heap.size, 1, none⟩) (show w.heap.size ≤ w2.heap.size by omega) _).setCell (p := ⟨g, bu, none⟩) (show w.heap.size ≤ g by omega) _).setCell (p := ⟨w.heap.size + 1, 0, none⟩) (by simp) _).setCell (p := ⟨w.heap.size + 1, 1, none⟩) (by simp) _
  refine bodyPost_ret (v := .tuple #[.agg #[.int .i64 n, .slice (some ⟨g, 0, none⟩) bs.length cap'], .int .i64 0]) (by simp [results, Tryz.results37, go_sem, r60, r61]) rfl ⟨_, _, rfl, ?_, HBL.out⟩
  have o5 := own_far HO4.out (grownBy_setCell w4 ⟨w2.heap.size, 1, none⟩ (.slice (some ⟨g, 0, none⟩) bs.length cap')) (fun x e => by simp at e; simp [Value.ownBlock]; omega)
  have o6 := (o5.stored bu (.slice A2 l.length cap2)).1
  have o7 := own_far o6 (grownBy_setCell _ ⟨w.heap.size + 1, 0, none⟩ (.int .i64 n)) (fun x e => by simp at e; simp [Value.ownBlock]; omega)
  have o8 := own_far o7 (grownBy_setCell _ ⟨w.heap.size + 1, 1, none⟩ (.slice (some ⟨g, 0, none⟩) bs.length cap')) (fun x e => by simp at e; simp [Value.ownBlock]; omega)
  refine ⟨vs.set bu (.slice A2 l.length cap2), by rw [List.length_set]; exact (Sl.of_own o8).mono fun _ _ _ => trivial, fun j l' hj => ?_⟩
  rw [List.getElem?_set] at hj
  split at hj
  · rename_i hkj
    subst hkj
    injection hj with hj
    subst hj
    exact ⟨_, by rw [List.getElem?_set]; simp; omega, (HB2.out.grow HBL.out).any⟩
  · rename_i hkj
    obtain ⟨u', hu', ho'⟩ := HVS.out j l' hj
    exact ⟨u', by rw [List.getElem?_set, if_neg hkj]; exact hu', (ho'.grow HBL.out).any⟩
end Go.Proofs.YtcigobiolbojhaaGreat.Vb

/- The reference of layer 17: the table. -/
namespace Go.Proofs.YtcigobiolbojhaaGreat.Vb
open Go.RowKit

/-- the table's rows from lo on are right: what any buyers from k on have of any goods -/
def TabAt (w : World) (gT hi S N lo : Nat) (F : Nat → Value) (bs : List (List Off)) : Prop :=
  w.rowIs gT 37 (N + 1) F ∧ ∀ k, lo ≤ k → k ≤ N → ∃ g, gT < g ∧ g < hi ∧ F k = .slice (some ⟨g, 0, none⟩) S S ∧ w.rowIs g 2 S (fun f => .int .i64 (W (bs.drop k) f))

theorem TabAt.below {w w' : World} {gT hi S N lo : Nat} {F : Nat → Value} {bs : List (List Off)} (h : TabAt w gT hi S N lo F bs) (hb : Below hi w w') (h0 : gT < hi) : TabAt w' gT hi S N lo F bs :=
  ⟨h.1.of_block (hb.block gT h0), fun k h1 h2 => let ⟨g, a, b, c, d⟩ := h.2 k h1 h2; ⟨g, a, b, c, d.of_block (hb.block g b)⟩⟩
theorem TabAt.mono {w : World} {gT hi hi' S N lo lo' : Nat} {F : Nat → Value} {bs : List (List Off)} (h : TabAt w gT hi S N lo F bs) (h1 : hi ≤ hi') (h2 : lo ≤ lo') : TabAt w gT hi' S N lo' F bs :=
  ⟨h.1, fun k h3 h4 => let ⟨g, a, b, c, d⟩ := h.2 k (Nat.le_trans h2 h3) h4; ⟨g, a, by omega, c, d⟩⟩
theorem TabAt.grow {w w' : World} {gT hi S N lo : Nat} {F : Nat → Value} {bs : List (List Off)} (h : TabAt w gT hi S N lo F bs) (hb : Below w.heap.size w w') : TabAt w' gT hi S N lo F bs :=
  ⟨h.1.of_block (hb.block gT h.1.lt), fun k h1 h2 => let ⟨g, a, b, c, d⟩ := h.2 k h1 h2; ⟨g, a, b, c, d.of_block (hb.block g d.lt)⟩⟩
/-- a cell of the table -/
theorem TabAt.at {w : World} {gT hi S N lo : Nat} {F : Nat → Value} {bs : List (List Off)} (h : TabAt w gT hi S N lo F bs) {k : Nat} (h1 : lo ≤ k) (h2 : k ≤ N) :
    ∃ g, g < hi ∧ w.cell? ⟨gT, k, none⟩ = some (.slice (some ⟨g, 0, none⟩) S S) ∧ ∀ f, f < S → w.cell? ⟨g, f, none⟩ = some (.int .i64 (W (bs.drop k) f)) := by
  obtain ⟨g, _, hg, hF, hr⟩ := h.2 k h1 h2
  exact ⟨g, hg, by rw [h.1.cell (by omega), hF], fun f hf => hr.cell hf⟩

/-- a row in the making -/
def rowP (bs : List (List Off)) (k f : Nat) (x : Nat) : Value := .int .i64 (if x < f then W (bs.drop k) x else 0)

theorem pow_i64 (m : Nat) (h : m ≤ 10) : IntKind.i64.wrap (2 ^ m) = ((2 ^ m : Nat) : Int) := by
  have hp2 : 2 ^ m ≤ 1024 := Nat.le_trans (Nat.pow_le_pow_right (by omega) h) (by decide)
  have h3 : ((2 : Int) ^ m) = ((2 ^ m : Nat) : Int) := by simp
  rw [h3]
  generalize 2 ^ m = s at *
  exact IntWalk.i64_in _ (by omega)

set_option maxHeartbeats 1600000 in
set_option maxRecDepth 100000 in
theorem table_any (m S : Nat) (h0 : 1 ≤ m) (h1 : m ≤ 10) (hS : S = 2 ^ m) (bs : List (List Off)) (v : Value) (R : Nat → Prop) (w : World) (hl : Buys w R v bs) (hok : Okb bs) :
    Calls Tryz.prog 78 #[.agg #[.int .i64 m, v]] w fun e w' => ∃ gT hi F, e = .returned (.slice (some ⟨gT, 0, none⟩) (bs.length + 1) (bs.length + 1)) ∧
      TabAt w' gT hi S bs.length 0 F bs ∧ w.heap.size ≤ gT ∧ Below w.heap.size w w' := by
  obtain ⟨vs, ⟨hlen, A, cap, rfl, hncap, hcap, hcells⟩, hvs⟩ := id hl
  have hS1 : S ≤ 1024 := by rw [hS]; exact Nat.le_trans (Nat.pow_le_pow_right (by omega) h1) (by decide)
  have hS0 : 0 < S := by rw [hS]; exact Nat.two_pow_pos m
  have hsh : IntKind.i64.wrap (2 ^ m) = (S : Int) := by rw [hS]; exact pow_i64 m h1
  have hN := hok.1
  have hmk1 : ∀ W : World, (Instr.makeSlice 151 (.int .i64 ((bs.length : Int) + 1)) (.int .i64 ((bs.length : Int) + 1))).run Tryz.prog W = .ok (.slice (some ⟨W.heap.size, 0, none⟩) (bs.length + 1) (bs.length + 1)) (W.alloc (.cells (madeCells #[.slice none 0 0] (bs.length + 1)) 37)) := fun W => by
    rw [show ((bs.length : Int) + 1) = ((bs.length + 1 : Nat) : Int) from by omega]
    exact run_make_row' (P := Tryz.prog) 151 37 (.slice none 0 0) 24 Tryz.underlying151 (by kernel_rfl) rfl .i64 .i64 (bs.length + 1) (by omega) (by omega) W
  have hmk2 : ∀ W : World, (Instr.makeSlice 37 (.int .i64 (S : Int)) (.int .i64 (S : Int))).run Tryz.prog W = .ok (.slice (some ⟨W.heap.size, 0, none⟩) S S) (W.alloc (.cells (madeCells #[.int .i64 0] S) 2)) := fun W =>
    run_make_row' (P := Tryz.prog) 37 2 (.int .i64 0) 8 Tryz.underlying37 (by kernel_rfl) rfl .i64 .i64 S (by omega) (by omega) W
  have HC := Lib.hid hcells
  have HV := Lib.hid hvs
  have HOK := Lib.hid hok
  have HS := Lib.hid hS
  clear hcells hvs hok hlen hcap hl hS
  go_enter Tryz.func78, Tryz.ntmps78
  go_wp2_with fail
  have hw0 : ∃ W0, W0 = (w.alloc (.cells #[.int .i64 m, .slice A bs.length cap] 24)).alloc (.cells (madeCells #[.slice none 0 0] (bs.length + 1)) 37) := ⟨_, rfl⟩
  obtain ⟨W0, hW0⟩ := hw0
  have hX : Blk W0 w.heap.size 24 #[.int .i64 m, .slice A bs.length cap] := by rw [hW0]; exact (Blk.new w _ _).alloc _
  have hT : W0.rowIs (w.heap.size + 1) 37 (bs.length + 1) (fun _ => .slice none 0 0) := by rw [hW0]; simpa using World.rowIs_made (w.alloc (.cells #[.int .i64 m, .slice A bs.length cap] 24)) (.slice none 0 0) (bs.length + 1) 37
  have hbw : Below w.heap.size w W0 := by rw [hW0]; exact ((Below.refl _ _).alloc (Nat.le_refl _) _).alloc (by simp) _
  have hsz : W0.heap.size = w.heap.size + 2 := by rw [hW0]; simp
  rw [← hW0]
  have x1 : W0.cell? ⟨w.heap.size, 1, none⟩ = some (.slice A bs.length cap) := hX.cell 1
  have x1' := cellAlloc x1
  have t1 := fun o : Obj => (hT.alloc o).cell (i := bs.length) (by omega)
  have t2 := fun o : Obj => (hT.alloc o).frozen bs.length
  have HX := Lib.hid hX
  have HT := Lib.hid hT
  have HBW := Lib.hid hbw
  clear hX hT hbw hW0
  go_region
  go_wp2_with fail
  go_loopw [5] (fun i wr => ∃ (k : Nat) (F : Nat → Value), k ≤ bs.length ∧ i = .int .i64 ((k : Int) - 1) ∧ TabAt wr (w.heap.size + 1) wr.heap.size S bs.length k F bs ∧ Blk wr w.heap.size 24 #[.int .i64 m, .slice A bs.length cap] ∧ Below w.heap.size w wr) (fun i _ => (intOf i + 1).toNat)
  case atStart =>
    refine ⟨bs.length, _, Nat.le_refl _, by go_num, ⟨(((HT.out.set bs.length _).alloc _)), fun k h1 h2 => ?_⟩, ?_, ?_⟩
    · obtain rfl : k = bs.length := by omega
      refine ⟨w.heap.size + 2, by omega, by simp; omega, by simp, ?_⟩
      have hr := World.rowIs_made (W0.setCell ⟨w.heap.size + 1, bs.length, none⟩ (.slice (some ⟨w.heap.size + 2, 0, none⟩) S S)) (.int .i64 0) S 2
      have hz : (W0.setCell ⟨w.heap.size + 1, bs.length, none⟩ (.slice (some ⟨w.heap.size + 2, 0, none⟩) S S)).heap.size = w.heap.size + 2 := by simpa using hsz
      rw [hz] at hr
      exact World.rowIs.congr (g := fun f => .int .i64 (W (bs.drop bs.length) f)) hr (fun i _ => by simp only [W_end])
    · exact ((HX.out.far (by simp) _).alloc _)
    · exact ((HBW.out.setCell (by simp) _).alloc (by simp; omega) _).drew
  case round =>
    obtain ⟨k1, F, hk1, rfl, hT, hX, hb⟩ := hrel
    obtain ⟨wo, rfl⟩ : ∃ wo : World, wo = wr := ⟨_, rfl⟩
    cases k1 with
    | zero =>
      go_wp2_with fail
      go_ret
      exact ⟨_, _, F, rfl, hT, by omega, hb⟩
    | succ k =>
      have hki : (((k + 1 : Nat) : Int) - 1) = (k : Int) := by omega
      rw [hki]
      obtain ⟨s, hs⟩ : ∃ s, s = wo.heap.size := ⟨_, rfl⟩
      have hsg : w.heap.size + 2 ≤ s := by have := hT.1.lt; omega
      have t1 := fun o : Obj => (hT.1.alloc o).cell (i := k) (by omega)
      have t2 := fun o : Obj => (hT.1.alloc o).frozen k
      obtain ⟨bq, off, rfl, _, hbb, hcs⟩ := HC.out (by omega)
      obtain ⟨l, ho⟩ : ∃ l, bs[k]? = some l := ⟨_, List.getElem?_eq_getElem (by omega)⟩
      obtain ⟨u, hu, hol⟩ := HV.out k l ho
      obtain ⟨⟨_, A1, cap1, rfl, hnc1, hcap1, hcs1⟩, hwf1⟩ := hol
      have cq := hcs _ _ hu
      have hll := HOK.out.len ho
      have hT2 : TabAt ((wo.alloc (.cells (madeCells #[.int .i64 0] S) 2)).setCell ⟨w.heap.size + 1, k, none⟩ (.slice (some ⟨wo.heap.size, 0, none⟩) S S)) (w.heap.size + 1) wo.heap.size S bs.length (k + 1) (fun j => if j = k then .slice (some ⟨wo.heap.size, 0, none⟩) S S else F j) bs := by
        refine ⟨(hT.1.alloc _).set k _, fun k' h1 h2 => ?_⟩
        obtain ⟨g, a, b, c, d⟩ := hT.2 k' h1 h2
        exact ⟨g, a, b, by simp only [if_neg (show k' ≠ k by omega)]; exact c, (d.alloc _).setOther (by simp; omega) _⟩
      have hR2 : ((wo.alloc (.cells (madeCells #[.int .i64 0] S) 2)).setCell ⟨w.heap.size + 1, k, none⟩ (.slice (some ⟨wo.heap.size, 0, none⟩) S S)).rowIs wo.heap.size 2 S (rowP bs k 0) := by
        have hr := World.rowIs_made wo (.int .i64 0) S 2
        exact World.rowIs.congr (g := rowP bs k 0) (hr.setOther (a := ⟨w.heap.size + 1, k, none⟩) (by simp; omega) _) (fun i _ => by simp [rowP])
      have hX2 : Blk ((wo.alloc (.cells (madeCells #[.int .i64 0] S) 2)).setCell ⟨w.heap.size + 1, k, none⟩ (.slice (some ⟨wo.heap.size, 0, none⟩) S S)) w.heap.size 24 #[.int .i64 m, .slice (some ⟨bq, off, none⟩) bs.length cap] := (hX.alloc _).far (by simp) _
      have hb2 : Below w.heap.size w ((wo.alloc (.cells (madeCells #[.int .i64 0] S) 2)).setCell ⟨w.heap.size + 1, k, none⟩ (.slice (some ⟨wo.heap.size, 0, none⟩) S S)) := (hb.alloc (by omega) _).setCell (by simp) _
      have hz2 : ((wo.alloc (.cells (madeCells #[.int .i64 0] S) 2)).setCell ⟨w.heap.size + 1, k, none⟩ (.slice (some ⟨wo.heap.size, 0, none⟩) S S)).heap.size = s + 1 := by simp [hs]
      obtain ⟨wA, hwA⟩ : ∃ wA, wA = ((wo.alloc (.cells (madeCells #[.int .i64 0] S) 2)).setCell ⟨w.heap.size + 1, k, none⟩ (.slice (some ⟨wo.heap.size, 0, none⟩) S S)) := ⟨_, rfl⟩
      have HT2 := Lib.hid hT2
      have HR2 := Lib.hid hR2
      have HX2 := Lib.hid hX2
      have HB2 := Lib.hid hb2
      have HZ2 := Lib.hid hz2
      have HO := Lib.hid ho
      have HC1 := Lib.hid hcs1
      have HWA := Lib.hid hwA
      have HHS := Lib.hid hs
      clear hT2 hR2 hX2 hb2 hz2 hT hX hb hcs hcs1 hwf1 ho hu hwA hs
      go_wp2_with fail
      rw [← HWA.out] at HT2 HR2 HX2 HB2 HZ2
      rw [← HWA.out, ← HHS.out]
      rw [← HHS.out] at HT2 HR2
      clear t1 t2
      go_loopw [6] (fun i wr => ∃ f : Nat, f ≤ S ∧ i = .int .i64 f ∧ Below s wA wr ∧ wr.rowIs s 2 S (rowP bs k f)) (fun i _ => S - (intOf i).toNat)
      case atStart => exact ⟨0, Nat.zero_le _, rfl, Below.refl _ _, HR2.out⟩
      case round =>
        obtain ⟨f, hf, rfl, hb2, hr2⟩ := hrel
        obtain ⟨wp, rfl⟩ : ∃ wp : World, wp = wr := ⟨_, rfl⟩
        have HBP := Lib.hid hb2
        have HRP := Lib.hid hr2
        by_cases hlf : f < S
        · have hTp := HT2.out.below hb2 (by omega)
          obtain ⟨g', hg', c0, cs⟩ := hTp.at (k := k + 1) (Nat.le_refl _) (by omega)
          have c1 := cs f hlf
          have hk1i : IntKind.i64.wrap ((k : Int) + 1) = (k : Int) + 1 := IntWalk.i64_in _ (by omega)
          have HTP := Lib.hid hTp
          clear hTp cs hb2 hr2
          go_wp2_with fail
          go_loopw [7, 8] (fun b i wr => ∃ j : Nat, j ≤ l.length ∧ i = .int .i64 j ∧ b = .int .i64 ((l.take j).foldl (stepO (W (bs.drop (k + 1))) f) (W (bs.drop (k + 1)) f)) ∧ Below (s + 1) wp wr) (fun _ i _ => l.length - (intOf i).toNat)
          case atStart => exact ⟨0, Nat.zero_le _, rfl, rfl, Below.refl _ _⟩
          case round =>
            obtain ⟨j, hj, rfl, rfl, hb3⟩ := hrel
            have hbA : Below w.heap.size w wp := HB2.out.trans (HBP.out.mono (by omega))
            have hbw3 : Below w.heap.size w wr := hbA.trans (hb3.mono (by omega))
            have hX3 : Blk wr w.heap.size 24 #[.int .i64 m, .slice (some ⟨bq, off, none⟩) bs.length cap] := (HX2.out.below HBP.out (by omega)).below hb3 (by omega)
            have x1 : wr.cell? ⟨w.heap.size, 1, none⟩ = some (.slice (some ⟨bq, off, none⟩) bs.length cap) := hX3.cell 1
            have q1 := (hbw3.cell hbb).trans cq
            have hTr := HTP.out.below (hb3.mono (by omega)) (by omega)
            have hrr := HRP.out.of_block (hb3.block s (by omega))
            have hsz3 : s + 1 ≤ wr.heap.size := by have := hrr.lt; omega
            have HB3 := Lib.hid hb3
            have HBW3 := Lib.hid hbw3
            by_cases hlj : j < l.length
            · obtain ⟨b1, off1, rfl, _, hb1, hcs1⟩ := HC1.out (by omega)
              obtain ⟨o, ho⟩ : ∃ o, l[j]? = some o := ⟨_, List.getElem?_eq_getElem hlj⟩
              have e0 := (hbw3.cell hb1).trans (hcs1 _ _ (Off.all_fst l j o ho))
              have e1 : wr.cell? ⟨b1, off1 + j * 2 + 1, none⟩ = some (.int .i64 o.c) := (hbw3.cell hb1).trans (hcs1 _ _ (Off.all_snd l j o ho))
              obtain ⟨ho1, ho2, ho3, ho4⟩ := HOK.out.offer HO.out ho
              have hB0 := W_nonneg (bs.drop (k + 1)) (andNot f o.g)
              have hB1 := HOK.out.W_le (k + 1) (andNot f o.g)
              have hsucc : (l.take (j + 1)).foldl (stepO (W (bs.drop (k + 1))) f) (W (bs.drop (k + 1)) f) = stepO (W (bs.drop (k + 1))) f ((l.take j).foldl (stepO (W (bs.drop (k + 1))) f) (W (bs.drop (k + 1)) f)) o := by
                rw [List.take_add_one, ho, List.foldl_append]
                rfl
              have hbits : bits .andNot .u32 (o.g : Int) (f : Int) = ((andNot o.g f : Nat) : Int) := u32_andNot_nat o.g f (by omega) (by omega)
              have hbits2 : bits .andNot .u32 (f : Int) (o.g : Int) = ((andNot f o.g : Nat) : Int) := u32_andNot_nat f o.g (by omega) (by omega)
              have hfo : andNot f o.g < S := Nat.lt_of_le_of_lt (andNot_le _ _) hlf
              obtain ⟨g2, hg2, p0, ps⟩ := hTr.at (k := k + 1) (Nat.le_refl _) (by omega)
              have p1 := ps _ hfo
              have p0' := cellAlloc p0
              have p1' := cellAlloc p1
              have hwrap : IntKind.u32.wrap (f : Int) = f := IntWalk.u32_in _ (by omega)
              have HSU := Lib.hid hsucc
              clear hcs1 hsucc hb3 hbw3 hX3 hTr hrr ho ps hbA c0 c1
              generalize hbest : (l.take j).foldl (stepO (W (bs.drop (k + 1))) f) (W (bs.drop (k + 1)) f) = best at *
              have HBE := Lib.hid hbest
              clear hbest
              by_cases hfit : andNot o.g f = 0
              · have hfb : (((andNot o.g f : Nat) : Int) == 0) = true := by simp [hfit]
                have HFI := Lib.hid hfit
                have hsum : IntKind.i64.wrap (o.c + W (bs.drop (k + 1)) (andNot f o.g)) = o.c + W (bs.drop (k + 1)) (andNot f o.g) := IntWalk.i64_in _ (by omega)
                clear hfit
                go_wp2_with fail
                go_region
                go_wp2_with fail
                go_roundw
                case rel =>
                  refine ⟨j + 1, by omega, by go_num, ?_, (HB3.out.alloc (by omega) _).drew⟩
                  rw [HSU.out]
                  unfold stepO
                  rw [if_pos HFI.out]
                  congr 1
                  split <;> omega
                case measure => simp [intOf]; omega
              · have hfb : (((andNot o.g f : Nat) : Int) == 0) = false := by simp [hfit]
                have HFI := Lib.hid hfit
                clear hfit
                go_wp2_with fail
                go_roundw
                case rel =>
                  refine ⟨j + 1, by omega, by go_num, ?_, HB3.out.alloc (by omega) _⟩
                  rw [HSU.out]
                  unfold stepO
                  rw [if_neg HFI.out]
                case measure => simp [intOf]; omega
            · obtain rfl : j = l.length := by omega
              rw [List.take_length, ← W_drop HO.out f]
              have p0 := hTr.1.cell (i := k) (by omega)
              simp only [if_true] at p0
              have r0 := hrr.cell hlf
              have rf := hrr.frozen f
              have hw0 := W_nonneg (bs.drop k) f
              have hw1 := HOK.out.W_le k f
              have HRR := Lib.hid hrr
              clear hb3 hbw3 hX3 hTr hrr hbA c0 c1
              go_wp2_with fail
              go_roundw
              case rel =>
                refine ⟨f + 1, by omega, by go_num, (HBP.out.trans (HB3.out.mono (by omega))).setCell (by simp) _, (HRR.out.set f _).congr fun i hi => ?_⟩
                unfold rowP
                by_cases hif : i = f
                · subst hif
                  simp
                · simp only [if_neg hif]
                  by_cases hlt : i < f
                  · rw [if_pos hlt, if_pos (by omega)]
                  · rw [if_neg hlt, if_neg (by omega)]
              case measure => simp [intOf]; omega
        · obtain rfl : f = S := by omega
          go_wp2_with fail
          go_roundw
          case rel =>
            have hT3 := HT2.out.below hb2 (by omega)
            refine ⟨k, _, by omega, by go_num, ⟨hT3.1, fun k' h1 h2 => ?_⟩, HX2.out.below hb2 (by omega), HB2.out.trans (hb2.mono (by omega))⟩
            by_cases hkk : k' = k
            · subst hkk
              exact ⟨s, by omega, hr2.lt, by simp, hr2.congr fun i hi => by simp [rowP, hi]⟩
            · obtain ⟨g, a, b, c, d⟩ := hT3.2 k' (by omega) h2
              exact ⟨g, a, by have := d.lt; omega, c, d⟩
          case measure => simp [intOf]
end Go.Proofs.YtcigobiolbojhaaGreat.Vb

/- The reference of layer 17: W, Without, Won. -/
namespace Go.Proofs.YtcigobiolbojhaaGreat.Vb
open Go.RowKit

theorem Buys.wf {w : World} {R : Nat → Prop} {v : Value} {bs : List (List Off)} (h : Buys w R v bs) : ∀ l ∈ bs, ∀ o ∈ l, o.wf := by
  obtain ⟨vs, _, hvs⟩ := h
  intro l hl o ho
  obtain ⟨k, hk, rfl⟩ := List.getElem_of_mem hl
  obtain ⟨_, _, h⟩ := hvs k _ (List.getElem?_eq_getElem hk)
  exact h.2 o ho

theorem allOf_nat {m : Nat} (h : m ≤ 10) : allOf (m : Int) = 2 ^ m - 1 := by unfold allOf; rw [if_neg (by omega), Int.toNat_natCast]

set_option maxHeartbeats 800000 in
theorem refW_any (n : Int) (bs : List (List Off)) (v : Value) (R : Nat → Prop) (w : World) (hl : Buys w R v bs) (hi : instE n bs = 0) :
    Calls Tryz.prog 60 #[.agg #[.int .i64 n, v]] w fun e w' => e = .returned (.int .i64 (W bs (allOf n))) ∧ Below w.heap.size w w' := by
  have hok := (okb_of hl.wf hi).1
  obtain ⟨hn1, hn2, _⟩ := instE_zero hi
  obtain ⟨m, rfl⟩ := Int.eq_ofNat_of_zero_le (show 0 ≤ n by omega)
  have hm0 : 1 ≤ m := by omega
  have hm1 : m ≤ 10 := by omega
  obtain ⟨S, hS⟩ : ∃ S, S = 2 ^ m := ⟨_, rfl⟩
  have hS1 : S ≤ 1024 := by rw [hS]; exact Nat.le_trans (Nat.pow_le_pow_right (by omega) hm1) (by decide)
  have hS0 : 0 < S := by rw [hS]; exact Nat.two_pow_pos m
  have hal : allOf (m : Int) = S - 1 := by rw [allOf_nat hm1, hS]
  obtain ⟨vs, ⟨_, A, cap, rfl, _⟩, _⟩ := id hl
  have HB := Lib.hid hl
  have HAL := Lib.hid hal
  have HS := Lib.hid hS
  have HOK := Lib.hid hok
  clear hl hi hal hS hok
  have c0 : (w.alloc (.cells #[.int .i64 m, .slice A bs.length cap] 24)).cell? ⟨w.heap.size, 0, none⟩ = some (.int .i64 m) := by simp
  have c1 : (w.alloc (.cells #[.int .i64 m, .slice A bs.length cap] 24)).cell? ⟨w.heap.size, 1, none⟩ = some (.slice A bs.length cap) := by simp
  go_enter Tryz.func60, Tryz.ntmps60
  go_wp2_with (go_at_call 78; refine (table_any m S hm0 hm1 HS.out bs _ R _ (HB.out.alloc _) HOK.out).mono ?_; rintro e w1 ⟨gT, hi, F, rfl, hT, hg, hb1⟩; obtain ⟨g, hg2, p0, ps⟩ := hT.at (k := 0) (Nat.zero_le _) (Nat.zero_le _); have p1 := ps (S - 1) (by omega); have HB1 := Lib.hid hb1; clear hT hb1 ps)
  have hsub : IntKind.i64.wrap ((S : Int) - 1) = (S : Int) - 1 := IntWalk.i64_in _ (by omega)
  have hidx : ((S : Int) - 1).toNat = S - 1 := by omega
  go_wp2_with fail
  go_quiet (fail)
  go_wp2_with fail
  go_ret
  exact ⟨by rw [HAL.out]; rfl, below_drewN (((Below.refl _ _).alloc (Nat.le_refl _) _).trans (HB1.out.mono (by simp))) _⟩

set_option maxHeartbeats 800000 in
theorem refWithout_any (n : Int) (bs : List (List Off)) (buyer : Int) (v : Value) (R : Nat → Prop) (w : World) (hl : Buys w R v bs) :
    Calls Tryz.prog 61 #[.agg #[.int .i64 n, v], .int .i64 buyer] w fun e w' => e = .returned (.tuple #[.int .i64 (woW n bs buyer), .int .i64 (withE n bs buyer [])]) ∧ Below w.heap.size w w' := by
  obtain ⟨vs, ⟨_, A, cap, rfl, _⟩, _⟩ := id hl
  have HB := Lib.hid hl
  clear hl
  by_cases he : withE n bs buyer [] = 0
  · have hW : woW n bs buyer = W (bs.set buyer.toNat []) (allOf n) := by unfold woW; rw [if_pos he]
    have hI := instE_nil (i := buyer.toNat) (withE_inst he)
    have HW := Lib.hid hW
    have HE := Lib.hid he
    have HI := Lib.hid hI
    clear hW he hI
    go_enter Tryz.func61, Tryz.ntmps61
    go_wp2_with (first
      | (go_at_call 37; refine (refWith_ok n bs buyer [] _ _ R (fun _ => True) _ (HB.out.alloc _) (Offs.nil _ _) HE.out).mono ?_; rintro e w1 ⟨A1, cap1, rfl, hob, hb1⟩; have HOB := Lib.hid hob; have HB1 := Lib.hid (hb1.mono (B' := w.heap.size + 1) (by simp)); clear hob hb1)
      | (go_at_call 60; refine (refW_any n (bs.set buyer.toNat []) (.slice A1 bs.length cap1) _ _ (HOB.out.alloc _) HI.out).mono ?_; rintro e w2 ⟨rfl, hb2⟩; have HB2 := Lib.hid hb2; clear hb2))
    go_ret2
    refine ⟨by rw [HW.out, HE.out]; rfl, ?_⟩
    have h1 := (one_new HB1.out).2.2.2.2
    exact (h1.alloc h1.size _).trans (HB2.out.mono (by have := h1.size; simp; omega))
  · have hW : woW n bs buyer = 0 := by unfold woW; rw [if_neg he]
    have hcb : (withE n bs buyer [] != 0) = true := by simpa using he
    have HW := Lib.hid hW
    have HE := Lib.hid he
    clear hW he
    go_enter Tryz.func61, Tryz.ntmps61
    go_wp2_with (go_at_call 37; refine (refWith_err n bs buyer [] _ _ R (fun _ => True) _ (HB.out.alloc _) (Offs.nil _ _) HE.out).mono ?_; rintro e w1 ⟨rfl, hb1⟩; have HB1 := Lib.hid (hb1.mono (B' := w.heap.size + 1) (by simp)); clear hb1)
    go_ret2
    refine ⟨by rw [HW.out]; rfl, ?_⟩
    have h1 := (one_new HB1.out).2.2.2.2
    exact h1.alloc h1.size _

theorem coinAt_neg {bs : List (List Off)} {i : Nat} {c : Int} (h : c < 0) : coinAt bs i c = 0 := by unfold coinAt; rw [if_pos h]
theorem coinAt_some {bs : List (List Off)} {i j : Nat} {l : List Off} {o : Off} (h1 : bs[i]? = some l) (h2 : l[j]? = some o) : coinAt bs i (j : Int) = o.c := by
  unfold coinAt
  rw [if_neg (by omega), h1]
  simp [h2]

set_option maxHeartbeats 800000 in
theorem refWon_any (n : Int) (bs : List (List Off)) (cs : List Int) (v vc : Value) (R Rc : Nat → Prop) (k : Nat) (c : Int) (kI : Int) (w : World) (hl : Buys w R v bs) (hcs : Sl w Rc vc cs.length 1 (ints cs))
    (hk : cs[k]? = some c) (hkI : kI = k) (hgood : c = -1 ∨ ∃ (j : Nat) (l : List Off) (o : Off), c = (j : Int) ∧ bs[k]? = some l ∧ l[j]? = some o) :
    Calls Tryz.prog 62 #[.agg #[.int .i64 n, v], vc, .int .i64 kI] w fun e w' => e = .returned (.int .i64 (coinAt bs k c)) ∧ Below w.heap.size w w' := by
  subst hkI
  obtain ⟨vs, ⟨hlen, A, cap, rfl, hncap, hcap, hcells⟩, hvs⟩ := id hl
  obtain ⟨_, Ac, capc, rfl, hncapc, hcapc, hcellsc⟩ := hcs
  unfold maxLen at hcap hcapc
  have hkl : k < cs.length := (List.getElem?_eq_some_iff.1 hk).1
  have hcc : (ints cs)[k]? = some (.int .i64 c) := by simp [ints, hk]
  obtain ⟨bc, offc, rfl, _, hbc, hcs1⟩ := hcellsc (by omega)
  have c0 := cellAlloc (hcs1 _ _ hcc)
  clear hcs1 hcc hl hlen
  rcases hgood with rfl | ⟨j, l, o, rfl, h1, h2⟩
  · have hz := coinAt_neg (bs := bs) (i := k) (c := -1) (by decide)
    have HZ := Lib.hid hz
    clear hz hcells hvs hk
    go_enter Tryz.func62, Tryz.ntmps62
    go_wp2_with fail
    go_ret
    exact ⟨by rw [HZ.out]; rfl, (Below.refl _ _).alloc (Nat.le_refl _) _⟩
  · have hkb : k < bs.length := (List.getElem?_eq_some_iff.1 h1).1
    have hjl : j < l.length := (List.getElem?_eq_some_iff.1 h2).1
    have hz := coinAt_some h1 h2
    obtain ⟨bb, off, rfl, _, hbb, hcs2⟩ := hcells (by omega)
    obtain ⟨u, hu, hol⟩ := hvs k l h1
    have c1 := cellAlloc (hcs2 _ _ hu)
    obtain ⟨⟨_, A1, cap1, rfl, hnc1, hcap1, hcs3⟩, _⟩ := hol
    unfold maxLen at hcap1
    obtain ⟨b1, off1, rfl, _, hb1, hcs3⟩ := hcs3 (by omega)
    have c2 : ∀ O : Obj, (w.alloc O).cell? ⟨b1, off1 + j * 2 + 1, none⟩ = some (.int .i64 o.c) := cellAlloc (hcs3 _ _ (Off.all_snd l j o h2))
    have hj0 : (0 : Int) ≤ (j : Int) := by omega
    have HZ := Lib.hid hz
    clear hz hcs2 hcs3 hcells hvs hk h1 h2 hu
    go_enter Tryz.func62, Tryz.ntmps62
    go_wp2_with fail
    go_quiet (fail)
    go_wp2_with fail
    go_ret
    exact ⟨by rw [HZ.out]; rfl, below_drewN ((Below.refl _ _).alloc (Nat.le_refl _) _) _⟩
end Go.Proofs.YtcigobiolbojhaaGreat.Vb

/- The reference of layer 17: Best. -/
namespace Go.Proofs.YtcigobiolbojhaaGreat.Vb
open Go.RowKit

set_option maxRecDepth 100000 in
set_option maxHeartbeats 3200000 in
theorem refBest_any (n : Int) (bs : List (List Off)) (v : Value) (R : Nat → Prop) (w : World) (hl : Buys w R v bs) (hi : instE n bs = 0) :
    Calls Tryz.prog 59 #[.agg #[.int .i64 n, v]] w fun e w' => ∃ A' cap', e = .returned (.slice A' bs.length cap') ∧
      w'.ownsRow w.heap.size 3 1 (.slice A' bs.length cap') bs.length (ints (bestC n bs)) ∧ Below w.heap.size w w' := by
  have hok := (okb_of hl.wf hi).1
  obtain ⟨hn1, hn2, hl32, _⟩ := instE_zero hi
  obtain ⟨m, rfl⟩ := Int.eq_ofNat_of_zero_le (show 0 ≤ n by omega)
  have hm0 : 1 ≤ m := by omega
  have hm1 : m ≤ 10 := by omega
  obtain ⟨S, hS⟩ : ∃ S, S = 2 ^ m := ⟨_, rfl⟩
  have hS1 : S ≤ 1024 := by rw [hS]; exact Nat.le_trans (Nat.pow_le_pow_right (by omega) hm1) (by decide)
  have hS0 : 0 < S := by rw [hS]; exact Nat.two_pow_pos m
  have hal : bestC (m : Int) bs = choose bs (S - 1) := by unfold bestC; rw [allOf_nat hm1, hS]
  have hall : ((2 ^ m - 1 : Nat) : Int) = ((S - 1 : Nat) : Int) := by rw [hS]
  obtain ⟨vs, ⟨_, A, cap, rfl, hnc, hcm, hcs⟩, hvs⟩ := id hl
  have HB := Lib.hid hl
  have HAL := Lib.hid hal
  have HALL := Lib.hid hall
  have HS := Lib.hid hS
  have HOK := Lib.hid hok
  have HCS := Lib.hid hcs
  have HVS := Lib.hid hvs
  clear hl hi hal hS hok hall hcs hvs hcm
  go_enter Tryz.func59, Tryz.ntmps59
  go_wp2_with (first
    | (go_at_call 78; refine (table_any m S hm0 hm1 HS.out bs _ R _ (HB.out.alloc _) HOK.out).mono ?_; rintro e w1 ⟨gT, hi, F, rfl, hT, hg, hb1⟩; obtain ⟨hX, hs1, hbw⟩ := one_blk' hb1; have x0 : w1.cell? ⟨w.heap.size, 0, none⟩ = some (.int .i64 m) := hX.cell 0; have x1 : w1.cell? ⟨w.heap.size, 1, none⟩ = some (.slice A bs.length cap) := hX.cell 1; have HT := Lib.hid hT; have HX := Lib.hid hX; have HBW := Lib.hid hbw; clear hb1 hT hX hbw)
    | (go_at_call 77; refine (refAll_any m hm0 hm1 _).mono ?_; rintro e w2 ⟨rfl, rfl⟩; rw [HALL.out]))
  go_loopw [4, 5, 6] (fun fr sl i wr => ∃ (k fi : Nat) (cs : List Int) (A' : Option Addr) (cap' : Nat), k ≤ bs.length ∧ i = .int .i64 k ∧ fr = .int .u32 fi ∧ sl = .slice A' k cap' ∧ fi < S ∧ choose bs (S - 1) = cs ++ choose (bs.drop k) fi ∧
      wr.ownsRow w1.heap.size 3 1 (.slice A' k cap') k (ints cs) ∧ Below w1.heap.size w1 wr)
    (fun _ _ i _ => bs.length - (intOf i).toNat)
  case atStart => exact ⟨0, S - 1, [], none, 0, Nat.zero_le _, rfl, rfl, rfl, by omega, rfl, World.ownsRow_nil _ _ _ _, Below.refl _ _⟩
  case round =>
    obtain ⟨wo, rfl⟩ : ∃ wo : World, wo = wr := ⟨_, rfl⟩
    obtain ⟨k, fi, cs, A', cap', hk, rfl, rfl, rfl, hfi, hch, hown, hb⟩ := hrel
    have HOWN := Lib.hid hown
    have HCH := Lib.hid hch
    have HBB := Lib.hid hb
    have hxo : Blk wo w.heap.size 24 #[.int .i64 m, .slice A bs.length cap] := HX.out.grow hb
    have o1 : wo.cell? ⟨w.heap.size, 1, none⟩ = some (.slice A bs.length cap) := hxo.cell 1
    have hbo : Below w.heap.size w wo := HBW.out.trans (hb.mono (by omega))
    have hto := HT.out.grow hb
    have hlo := hb.size
    clear x0 x1
    by_cases hlt : k < bs.length
    · obtain ⟨bq, off, rfl, _, hbq, hcs⟩ := HCS.out (by omega)
      obtain ⟨l, hl⟩ : ∃ l, bs[k]? = some l := ⟨_, List.getElem?_eq_getElem hlt⟩
      obtain ⟨u, hu, hol⟩ := HVS.out k l hl
      have cl := hcs k u hu
      have HL := Lib.hid hl
      have hl8 : l.length ≤ 8 := HOK.out.len hl
      obtain ⟨⟨_, A1, cap1, rfl, hnc1, hcm1, hcs1⟩, _⟩ := hol
      unfold maxLen at hcm1
      have HC1 := Lib.hid hcs1
      have HCL := Lib.hid cl
      have HXO := Lib.hid hxo
      have HBO := Lib.hid hbo
      have HTO := Lib.hid hto
      have hk0 : (0 : Int) ≤ (k : Int) := by omega
      clear hcs hu hl hcs1 cl hxo hbo hto hb hown hch
      go_wp2_with fail
      clear o1
      go_loopw [7, 8] (fun nn i wr2 => ∃ j : Nat, j ≤ l.length ∧ i = .int .i64 j ∧ ((nn = .int .i64 (-1) ∧ ∀ (i : Nat) (x : Off), i < j → l[i]? = some x → pickB (W (bs.drop (k + 1))) fi (W (bs.drop k) fi) x = false) ∨
            ∃ (jj : Nat) (o : Off), nn = .int .i64 jj ∧ l[jj]? = some o ∧ pickB (W (bs.drop (k + 1))) fi (W (bs.drop k) fi) o = true ∧ ∀ (i : Nat) (x : Off), i < jj → l[i]? = some x → pickB (W (bs.drop (k + 1))) fi (W (bs.drop k) fi) x = false) ∧
          Below wo.heap.size wo wr2)
        (fun _ i _ => l.length - (intOf i).toNat)
      case atStart => exact ⟨0, Nat.zero_le _, rfl, .inl ⟨rfl, fun i x h => by omega⟩, Below.refl _ _⟩
      case round =>
        obtain ⟨j, hj, rfl, hnn, hb2⟩ := hrel
        have hx2 : Blk wr w.heap.size 24 #[.int .i64 m, .slice (some ⟨bq, off, none⟩) bs.length cap] := HXO.out.grow hb2
        have x1 : wr.cell? ⟨w.heap.size, 1, none⟩ = some (.slice (some ⟨bq, off, none⟩) bs.length cap) := hx2.cell 1
        have hbw2 : Below w.heap.size w wr := HBO.out.trans (hb2.mono (by omega))
        have q1 := (hbw2.cell hbq).trans HCL.out
        have ht2 := HTO.out.grow hb2
        have hl2 := hb2.size
        have HB2 := Lib.hid hb2
        rcases hnn with ⟨rfl, hno⟩ | ⟨jj, o, rfl, ho, hpb, hno⟩
        · by_cases hlj : j < l.length
          · obtain ⟨b1, off1, rfl, _, hb1, hcs1⟩ := HC1.out (by omega)
            obtain ⟨o, ho⟩ : ∃ o, l[j]? = some o := ⟨_, List.getElem?_eq_getElem hlj⟩
            have o0 := (hbw2.cell hb1).trans (hcs1 _ _ (Off.all_fst l j o ho))
            have o1 : wr.cell? ⟨b1, off1 + j * 2 + 1, none⟩ = some (.int .i64 o.c) := (hbw2.cell hb1).trans (hcs1 _ _ (Off.all_snd l j o ho))
            obtain ⟨ho1, ho2, ho3, ho4⟩ := HOK.out.offer HL.out ho
            have hB0 := W_nonneg (bs.drop (k + 1)) (andNot fi o.g)
            have hB1 := HOK.out.W_le (k + 1) (andNot fi o.g)
            have hbits : bits .andNot .u32 (o.g : Int) (fi : Int) = ((andNot o.g fi : Nat) : Int) := u32_andNot_nat o.g fi (by omega) (by omega)
            have hbits2 : bits .andNot .u32 (fi : Int) (o.g : Int) = ((andNot fi o.g : Nat) : Int) := u32_andNot_nat fi o.g (by omega) (by omega)
            have hfo : andNot fi o.g < S := Nat.lt_of_le_of_lt (andNot_le _ _) hfi
            obtain ⟨ga, _, p0, ps⟩ := ht2.at (k := k + 1) (Nat.zero_le _) (by omega)
            obtain ⟨gb, _, p2, ps2⟩ := ht2.at (k := k) (Nat.zero_le _) (by omega)
            have p1 := cellAlloc (ps _ hfo)
            have p3 := cellAlloc (ps2 _ hfi)
            have p0 := cellAlloc p0
            have p2 := cellAlloc p2
            have HO := Lib.hid ho
            have HNO := Lib.hid hno
            clear hcs1 ho hno hb2 hx2 hbw2 ht2 ps ps2
            by_cases hfit : andNot o.g fi = 0
            · have hfb : (((andNot o.g fi : Nat) : Int) == 0) = true := by simp [hfit]
              have HFI := Lib.hid hfit
              have hsum : IntKind.i64.wrap (o.c + W (bs.drop (k + 1)) (andNot fi o.g)) = o.c + W (bs.drop (k + 1)) (andNot fi o.g) := IntWalk.i64_in _ (by omega)
              have hk1 : IntKind.i64.wrap ((k : Int) + 1) = (k : Int) + 1 := IntWalk.i64_in _ (by omega)
              clear hfit
              by_cases heq : o.c + W (bs.drop (k + 1)) (andNot fi o.g) = W (bs.drop k) fi
              · have hpb : pickB (W (bs.drop (k + 1))) fi (W (bs.drop k) fi) o = true := by simp [pickB, HFI.out, heq]
                have HPB := Lib.hid hpb
                have heb : (o.c + W (bs.drop (k + 1)) (andNot fi o.g) == W (bs.drop k) fi) = true := by simp [heq]
                clear heq hpb
                go_wp2_with fail
                go_quiet (fail)
                go_wp2_with fail
                go_roundw
                case rel =>
                  exact ⟨j + 1, by omega, by go_num, .inr ⟨j, o, rfl, HO.out, HPB.out, HNO.out⟩, below_drewN (HB2.out.alloc (by omega) _) _⟩
                case measure => simp [intOf]; omega
              · have hpb : pickB (W (bs.drop (k + 1))) fi (W (bs.drop k) fi) o = false := by simp [pickB, heq]
                have HPB := Lib.hid hpb
                have heb : (o.c + W (bs.drop (k + 1)) (andNot fi o.g) == W (bs.drop k) fi) = false := by simp [heq]
                clear heq hpb
                go_wp2_with fail
                go_quiet (fail)
                go_wp2_with fail
                go_roundw
                case rel =>
                  refine ⟨j + 1, by omega, by go_num, .inl ⟨rfl, fun i x hi hx => ?_⟩, below_drewN (HB2.out.alloc (by omega) _) _⟩
                  by_cases hij : i < j
                  · exact HNO.out i x hij hx
                  · obtain rfl : i = j := by omega
                    rw [HO.out] at hx
                    cases hx
                    exact HPB.out
                case measure => simp [intOf]; omega
            · have hfb : (((andNot o.g fi : Nat) : Int) == 0) = false := by simp [hfit]
              have hpb : pickB (W (bs.drop (k + 1))) fi (W (bs.drop k) fi) o = false := by simp [pickB, hfit]
              have HPB := Lib.hid hpb
              clear hfit hpb
              go_wp2_with fail
              go_quiet (fail)
              go_wp2_with fail
              go_roundw
              case rel =>
                refine ⟨j + 1, by omega, by go_num, .inl ⟨rfl, fun i x hi hx => ?_⟩, below_drewN (HB2.out.alloc (by omega) _) _⟩
                by_cases hij : i < j
                · exact HNO.out i x hij hx
                · obtain rfl : i = j := by omega
                  rw [HO.out] at hx
                  cases hx
                  exact HPB.out
              case measure => simp [intOf]; omega
          · obtain rfl : j = l.length := by omega
            have hpn : pickN (W (bs.drop (k + 1))) fi (W (bs.drop k) fi) l = (-1, fi) := pickN_none hno
            have HPN := Lib.hid hpn
            have HOT := Lib.hid (own_grow HOWN.out hb2)
            clear hno hb2 hpn hx2 hbw2 ht2
            go_wp2_with (at_builtin; refine wpList_app _ rfl (.tmp 87) (.tmp 89) et_int rfl w1.heap.size (.slice A' k cap') k (ints cs) rfl (HOT.out.alloc _) _ _ 1 _ rfl (Sl.new wr #[.int .i64 (-1)] _ 1 1 (by unfold maxLen; omega) rfl) (by simp [Value.oneCell']) (by omega) (by unfold maxLen; omega) (by simp; omega) ?_; intro A3 cap3 w3 hown3 hg3 hloc3; have HG3 := Lib.hid hg3; have HO3 := Lib.hid hown3; clear hg3 hown3 hloc3)
            go_roundw
            case rel =>
              refine ⟨k + 1, fi, cs ++ [(-1)], A3, cap3, by omega, by go_num, rfl, rfl, hfi, ?_, ?_, ?_⟩
              · rw [HCH.out, choose_drop HL.out fi, HPN.out]
                simp
              · simpa [ints] using HO3.out
              · exact ((HBB.out.trans (HB2.out.mono hlo)).alloc (by omega) _).grown HG3.out (by simp; omega) (fun g e => (HOT.out.lt g e).1)
            case measure => simp [intOf]; omega
        · have hpn := pickN_some ho hpb hno
          have hjl : jj < l.length := (List.getElem?_eq_some_iff.1 ho).1
          obtain ⟨b1, off1, rfl, _, hb1, hcs1⟩ := HC1.out (by omega)
          have o0 := (hbw2.cell hb1).trans (hcs1 _ _ (Off.all_fst l jj o ho))
          obtain ⟨ho1, ho2, ho3, ho4⟩ := HOK.out.offer HL.out ho
          have hbits2 : bits .andNot .u32 (fi : Int) (o.g : Int) = ((andNot fi o.g : Nat) : Int) := u32_andNot_nat fi o.g (by omega) (by omega)
          have hfo : andNot fi o.g < S := Nat.lt_of_le_of_lt (andNot_le _ _) hfi
          have hjj : (0 : Int) ≤ (jj : Int) := by omega
          have HPN := Lib.hid hpn
          have HOT := Lib.hid (own_grow HOWN.out hb2)
          clear hno hb2 hpn hx2 hbw2 ht2 ho hpb hcs1
          by_cases hlj : j < l.length
          all_goals
            go_wp2_with (at_builtin; refine wpList_app _ rfl (.tmp 87) (.tmp 89) et_int rfl w1.heap.size (.slice A' k cap') k (ints cs) rfl (HOT.out.alloc _) _ _ 1 _ rfl (Sl.new wr #[.int .i64 (jj : Nat)] _ 1 1 (by unfold maxLen; omega) rfl) (by simp [Value.oneCell']) (by omega) (by unfold maxLen; omega) (by simp; omega) ?_; intro A3 cap3 w3 hown3 hg3 hloc3; have HG3 := Lib.hid hg3; have HO3 := Lib.hid hown3; clear hg3 hown3 hloc3)
            go_roundw
            case rel =>
              refine ⟨k + 1, andNot fi o.g, cs ++ [((jj : Nat) : Int)], A3, cap3, by omega, by go_num, rfl, rfl, hfo, ?_, ?_, ?_⟩
              · rw [HCH.out, choose_drop HL.out fi, HPN.out]
                simp
              · simpa [ints] using HO3.out
              · exact ((HBB.out.trans (HB2.out.mono hlo)).alloc (by omega) _).grown HG3.out (by simp; omega) (fun g e => (HOT.out.lt g e).1)
            case measure => simp [intOf]; omega
    · obtain rfl : k = bs.length := by omega
      have hcs : choose bs (S - 1) = cs := by rw [hch]; simp [choose]
      have HCC := Lib.hid hcs
      have HBO := Lib.hid hbo
      clear hcs hch hown hb hxo hbo hto
      go_wp2_with fail
      go_ret
      refine ⟨A', cap', rfl, ?_, HBO.out⟩
      rw [HAL.out, HCC.out]
      exact own_mono HOWN.out (by omega)
end Go.Proofs.YtcigobiolbojhaaGreat.Vb

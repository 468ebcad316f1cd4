/- Joined by program: Clear2 Blk First Best Vcg1 Vcg2 Costs Gains Ref08a Ref08b. -/
import Derived.Test.YtcigobiolbojhaaZa
/- clear.From, clear.W. -/
namespace Go.Proofs.Ytcigobiolbojhaa.Vb
open Go.RowKit

theorem allOf_1024 {n : Int} (h : n ≤ 10) : allOf n < 1024 := by
  unfold allOf
  split
  · omega
  · have hp : 2 ^ n.toNat ≤ 1024 := Nat.le_trans (Nat.pow_le_pow_right (by omega) (show n.toNat ≤ 10 by omega)) (by decide)
    have hp0 : 0 < 2 ^ n.toNat := Nat.two_pow_pos _
    omega

/-- W of an instance, 0 of one that may not be. -/
def bestW (n : Int) (bs : List (List Off)) : Int := if instE n bs = 0 then W bs (allOf n) else 0

set_option maxHeartbeats 800000 in
theorem from_any (n : Int) (bs : List (List Off)) (v : Value) (R : Nat → Prop) (w : World) (hl : Buys w R v bs) :
    Calls Try.prog 90 #[.agg #[.int .i64 n, v], .int .i64 0, .int .u32 (allOf n : Nat)] w fun e w' => e = .returned (.tuple #[.int .i64 (bestW n bs), .int .i64 (instE n bs)]) ∧ Below w.heap.size w w' := by
  obtain ⟨vs, ⟨_, A, cap, rfl, _⟩, _⟩ := id hl
  have HB := Lib.hid hl
  have hwf := Lib.hid (buys_wf hl)
  clear hl
  by_cases hi : instE n bs = 0
  · have hW : bestW n bs = W bs (allOf n) := by unfold bestW; rw [if_pos hi]
    have h10 := allOf_1024 (instE_zero hi).2.1
    have hok := Lib.hid (okb_of hwf.out hi).1
    have HI := Lib.hid hi
    have HW := Lib.hid hW
    clear hi hW
    go_enter Try.func90, Try.ntmps90
    go_wp2_with (first
      | (go_at_call 120; refine (may_any n bs _ R _ (HB.out.alloc _)).mono ?_; rintro e w1 ⟨rfl, hb1⟩; rw [HI.out]; have hb1a := hb1.mono (B' := w.heap.size + 1) (by simp); obtain ⟨c0, c1, fz, hs1, hbw⟩ := one_new hb1a; have HBW := Lib.hid hbw; clear hbw hb1 hb1a)
      | (go_at_call 121; refine (of_any n bs _ R _ (HB.out.grow HBW.out) hok.out).mono ?_; rintro e w2 ⟨bb, m, rfl, hbd, hm, hb2⟩; have HBD := Lib.hid hbd; have HM := Lib.hid hm; have HB2 := Lib.hid hb2; clear hbd hm hb2)
      | (go_at_call 126; refine (w_any _ bb m n _ bs _ 0 (allOf n) _ _ _ rfl rfl rfl (by omega) h10 HBD.out).mono ?_; rintro e w3 ⟨rfl, hb3, hg3⟩; have HG3 := Lib.hid hg3; clear hb3 hg3))
    go_ret2
    refine ⟨by rw [HW.out, HI.out]; rfl, ?_⟩
    exact (HBW.out.trans (HB2.out.mono HBW.out.size)).grown HG3.out (by have := HBW.out.size; have := HB2.out.size; omega) (fun k e => by injection e with e; have := HM.out; have := HBW.out.size; omega)
  · have hW : bestW n bs = 0 := by unfold bestW; rw [if_neg hi]
    have hcb : (instE n bs != 0) = true := by simpa using hi
    have HI := Lib.hid hi
    have HW := Lib.hid hW
    clear hi hW
    go_enter Try.func90, Try.ntmps90
    go_wp2_with (go_at_call 120; refine (may_any n bs _ R _ (HB.out.alloc _)).mono ?_; rintro e w1 ⟨rfl, hb1⟩; have hb1a := hb1.mono (B' := w.heap.size + 1) (by simp); obtain ⟨c0, c1, fz, hs1, hbw⟩ := one_new hb1a; have HBW := Lib.hid hbw; clear hbw hb1 hb1a)
    go_ret2
    exact ⟨by rw [HW.out]; rfl, HBW.out⟩

set_option maxHeartbeats 800000 in
theorem W_any (n : Int) (bs : List (List Off)) (v : Value) (R : Nat → Prop) (w : World) (hl : Buys w R v bs) :
    Calls Try.prog 33 #[.agg #[.int .i64 n, v]] w fun e w' => e = .returned (.tuple #[.int .i64 (bestW n bs), .int .i64 (instE n bs)]) ∧ Below w.heap.size w w' := by
  obtain ⟨vs, ⟨_, A, cap, rfl, _⟩, _⟩ := id hl
  have HB := Lib.hid hl
  clear hl
  have d0 : (w.alloc (.cells #[.int .i64 n, .slice A bs.length cap] 24)).cell? ⟨w.heap.size, 0, none⟩ = some (.int .i64 n) := by simp
  have d1 : (w.alloc (.cells #[.int .i64 n, .slice A bs.length cap] 24)).cell? ⟨w.heap.size, 1, none⟩ = some (.slice A bs.length cap) := by simp
  go_enter Try.func33, Try.ntmps33
  go_wp2_with fail
  go_region_held3 (fun w' => w'.cell? ⟨w.heap.size, 0, none⟩ = some (.int .i64 n) ∧ w'.cell? ⟨w.heap.size, 1, none⟩ = some (.slice A bs.length cap)) (go_keep)
    (first
      | (go_at_call 88; refine (whole_any n _ _ _ _).mono ?_; rintro e w1 ⟨rfl, hb1⟩; have e0 := (hb1.cell (p := ⟨w.heap.size, 0, none⟩) (by simp)).trans d0; have e1 := (hb1.cell (p := ⟨w.heap.size, 1, none⟩) (by simp)).trans d1; have HB1 := Lib.hid hb1; clear hb1)
      | (go_at_call 90; refine (from_any n bs _ R _ (((HB.out.alloc _).drew).grow HB1.out)).mono ?_; rintro e w2 ⟨rfl, hb2⟩; have z0 := (hb2.cell (p := ⟨w.heap.size, 0, none⟩) (by have := HB1.out.size; simp at this; simp; omega)).trans e0; have z1 := (hb2.cell (p := ⟨w.heap.size, 1, none⟩) (by have := HB1.out.size; simp at this; simp; omega)).trans e1; have HB2 := Lib.hid hb2; clear hb2))
  all_goals go_wp2_with fail
  all_goals go_ret2
  all_goals refine ⟨by simp, ?_⟩
  all_goals exact ((Below.refl _ _).alloc (Nat.le_refl _) _).drew.trans ((HB1.out.mono (by simp)).trans (HB2.out.mono (by have := HB1.out.size; simp at this; omega)))
end Go.Proofs.Ytcigobiolbojhaa.Vb

/- A block known whole; the best choice: plain. -/
namespace Go.Proofs.Ytcigobiolbojhaa.Vb
open Go.RowKit

def Blk (w : World) (g : Nat) (t : TypeId) (cs : Array Value) : Prop := w.heap[g]? = some (.cells cs t (0, 0))
section
variable {w w' : World} {g : Nat} {t : TypeId} {cs : Array Value}
theorem Blk.lt (h : Blk w g t cs) : g < w.heap.size := by
  rcases Nat.lt_or_ge g w.heap.size with hlt | hge
  · exact hlt
  · unfold Blk at h; rw [Array.getElem?_eq_none hge] at h; cases h
theorem Blk.cell (h : Blk w g t cs) (i : Nat) : w.cell? ⟨g, i, none⟩ = cs[i]? := cell_of_row w g i cs t (0, 0) h
theorem Blk.frozen (h : Blk w g t cs) (i : Nat) : w.frozen? ⟨g, i, none⟩ = false := by
  unfold Blk at h
  simp [World.frozen?, h]
theorem Blk.new (w : World) (t : TypeId) (cs : Array Value) : Blk (w.alloc (.cells cs t)) w.heap.size t cs := heap_alloc_new w _
theorem Blk.drew (h : Blk w g t cs) : Blk w.drew g t cs := h
theorem Blk.drewN (h : Blk w g t cs) (n : Nat) : Blk (w.drewN n) g t cs := h
theorem Blk.alloc (h : Blk w g t cs) (o : Obj) : Blk (w.alloc o) g t cs := (Below.heap_alloc w o g h.lt).trans h
theorem Blk.set_ (h : Blk w g t cs) (i : Nat) (u : Value) : Blk (w.setCell ⟨g, i, none⟩ u) g t (cs.setIfInBounds i u) := by
  unfold Blk at h ⊢
  simp [World.setCell, Array.getElem?_modify, h]
theorem Blk.far (h : Blk w g t cs) {p : Addr} (hp : g ≠ p.block) (u : Value) : Blk (w.setCell p u) g t cs := (Below.heap_setCell w p u g hp).trans h
theorem Blk.below {B : Nat} (h : Blk w g t cs) (hb : Below B w w') (hg : g < B) : Blk w' g t cs := (hb.block g hg).trans h
theorem Blk.grow (h : Blk w g t cs) (hb : Below w.heap.size w w') : Blk w' g t cs := (hb.block g h.lt).trans h
theorem Blk.grown {row : Option Nat} (h : Blk w g t cs) (hb : w.grownBy w' row) (hg : some g ≠ row) : Blk w' g t cs := (hb.block g h.lt hg).trans h
end

theorem grownBy_far {a b c : World} {row row2 : Option Nat} (h : a.grownBy b row) (hg : b.grownBy c row2) (hr : ∀ g, row2 = some g → a.heap.size ≤ g) : a.grownBy c row :=
  ⟨hg.os.trans h.os, hg.tape.trans h.tape, hg.output.trans h.output, Nat.le_trans h.size hg.size, fun i hi hne => (hg.block i (Nat.lt_of_lt_of_le hi h.size) (fun e => by have := hr i e.symm; omega)).trans (h.block i hi hne)⟩
theorem BoardAt.far {w w' : World} {B bb m : Nat} {n : Int} {v : Value} {bs : List (List Off)} {row : Option Nat} (h : BoardAt w B bb m n v bs) (hg : w.grownBy w' row) (hr : ∀ g, row = some g → bb < g ∧ m < g) : BoardAt w' B bb m n v bs :=
  have hne : some bb ≠ row := fun e => by have := hr bb e.symm; omega
  ⟨hg.cell h.c0 hne, hg.cell h.c1 hne, hg.cell h.c2 hne, h.buys.grown hg (fun b _ hb e => by have := hr b e.symm; have := h.hB; omega), h.hB, h.map.grown hg (fun e => by have := hr m e.symm; omega), h.ok⟩

/-- the least offer's number with which the greatest worth can be had -/
def pickB (g : Nat → Int) (f : Nat) (left : Int) (o : Off) : Bool := decide (andNot o.g f = 0) && decide (o.c + g (andNot f o.g) = left)
def pickAt (g : Nat → Int) (f : Nat) (left : Int) : List Off → Option (Nat × Nat)
  | [] => none
  | o :: l => if pickB g f left o then some (0, o.g) else (pickAt g f left l).map fun p => (p.1 + 1, p.2)
/-- a buyer's number, and what is free behind it -/
def pickN (g : Nat → Int) (f : Nat) (left : Int) (l : List Off) : Int × Nat := match pickAt g f left l with | some (j, o) => ((j : Int), andNot f o) | none => (-1, f)
def choose : List (List Off) → Nat → List Int
  | [], _ => []
  | l :: bs, f => (pickN (W bs) f (W (l :: bs) f) l).1 :: choose bs (pickN (W bs) f (W (l :: bs) f) l).2

theorem choose_length : ∀ (bs : List (List Off)) (f : Nat), (choose bs f).length = bs.length
  | [], _ => rfl
  | l :: bs, f => by simp [choose, choose_length bs]
theorem choose_drop {bs : List (List Off)} {k : Nat} {l : List Off} (h : bs[k]? = some l) (f : Nat) :
    choose (bs.drop k) f = (pickN (W (bs.drop (k + 1))) f (W (bs.drop k) f) l).1 :: choose (bs.drop (k + 1)) (pickN (W (bs.drop (k + 1))) f (W (bs.drop k) f) l).2 := by
  have hlt : k < bs.length := (List.getElem?_eq_some_iff.1 h).1
  rw [List.drop_eq_getElem_cons hlt]
  have : bs[k] = l := by rw [List.getElem?_eq_getElem hlt] at h; injection h
  rw [this]
  rfl
theorem pickAt_none (g : Nat → Int) (f : Nat) (left : Int) : ∀ l : List Off, (∀ o ∈ l, pickB g f left o = false) → pickAt g f left l = none
  | [], _ => rfl
  | o :: l, h => by simp [pickAt, h o (by simp), pickAt_none g f left l (fun x hx => h x (by simp [hx]))]
theorem pickAt_some (g : Nat → Int) (f : Nat) (left : Int) : ∀ (l : List Off) (k : Nat) (o : Off), l[k]? = some o → pickB g f left o = true → (∀ j x, j < k → l[j]? = some x → pickB g f left x = false) → pickAt g f left l = some (k, o.g)
  | [], k, o, h, _, _ => by simp at h
  | x :: l, 0, o, h, hb, _ => by simp at h; subst h; simp [pickAt, hb]
  | x :: l, k + 1, o, h, hb, hn => by
    have h0 := hn 0 x (by omega) rfl
    have := pickAt_some g f left l k o (by simpa using h) hb (fun j y hj hy => hn (j + 1) y (by omega) (by simpa using hy))
    simp [pickAt, h0, this]
theorem pickN_none {g : Nat → Int} {f : Nat} {left : Int} {l : List Off} (h : ∀ j x, j < l.length → l[j]? = some x → pickB g f left x = false) : pickN g f left l = (-1, f) := by
  unfold pickN
  rw [pickAt_none g f left l (fun o ho => ?_)]
  obtain ⟨j, hj, rfl⟩ := List.getElem_of_mem ho
  exact h j _ hj (List.getElem?_eq_getElem hj)
theorem pickN_some {g : Nat → Int} {f : Nat} {left : Int} {l : List Off} {k : Nat} {o : Off} (h1 : l[k]? = some o) (h2 : pickB g f left o = true) (h3 : ∀ j x, j < k → l[j]? = some x → pickB g f left x = false) :
    pickN g f left l = ((k : Int), andNot f o.g) := by
  unfold pickN
  rw [pickAt_some g f left l k o h1 h2 h3]
end Go.Proofs.Ytcigobiolbojhaa.Vb

/- (*board).first from the first buyer on: the best choice. -/
namespace Go.Proofs.Ytcigobiolbojhaa.Vb
open Go.RowKit

def ints (l : List Int) : List Value := l.map (Value.int .i64)

set_option maxRecDepth 100000 in
set_option maxHeartbeats 3200000 in
theorem first_any (B bb m : Nat) (n : Int) (v : Value) (bs : List (List Off)) (f : Nat) (hf : f < 1024) (w : World) (hb : BoardAt w B bb m n v bs) :
    Calls Try.prog 122 #[.pointer (some ⟨bb, 0, none⟩), .int .i64 0, .int .u32 f] w fun e w' => ∃ A' cap', e = .returned (.agg #[.slice A' bs.length cap', .int .i64 (W bs f)]) ∧
      w'.ownsRow w.heap.size 3 1 (.slice A' bs.length cap') bs.length (ints (choose bs f)) ∧ BoardAt w' B bb m n v bs ∧ w.grownBy w' (some m) := by
  obtain ⟨vs, ⟨_, A, cap, rfl, hnc, hcm, hcs⟩, hvs⟩ := id hb.buys
  have hl32 : bs.length ≤ 32 := hb.ok.1
  have HB := Lib.hid hb
  have HCS := Lib.hid hcs
  have HVS := Lib.hid hvs
  have hml := hb.map.lt
  obtain ⟨c0, c1, c2, _, _, _, _⟩ := hb
  clear hcs hvs hcm
  go_enter Try.func122, Try.ntmps122
  go_wp2_with (go_at_call 126; refine (w_any B bb m n _ bs _ 0 f _ _ _ rfl rfl rfl (by omega) hf (HB.out.alloc _)).mono ?_; rintro e w1 ⟨rfl, hb1, hg1⟩; have d1 := cellAlloc hb1.c1; have hg1' := hg1.size; simp at hg1'; have HB1 := Lib.hid hb1; have HG1 := Lib.hid hg1; clear hb1 hg1)
  have hblk0 : Blk (w1.alloc (.cells #[.slice none 0 0, .int .i64 (W bs f)] 66)) w1.heap.size 66 #[.slice none 0 0, .int .i64 (W bs f)] := Blk.new _ _ _
  have hres0 : Blk (w1.alloc (.cells #[.slice none 0 0, .int .i64 (W bs f)] 66)) w.heap.size 66 #[.slice none 0 0, .int .i64 0] := ((Blk.new w _ _).grown HG1.out (fun e => by injection e with e; omega)).alloc _
  have hgr0 : w.grownBy (w1.alloc (.cells #[.slice none 0 0, .int .i64 (W bs f)] 66)) (some m) := ((World.grownBy_alloc w _ _).trans HG1.out).trans (World.grownBy_alloc w1 _ _)
  have hbd0 : BoardAt (w1.alloc (.cells #[.slice none 0 0, .int .i64 (W bs f)] 66)) B bb m n (.slice A bs.length cap) bs := HB1.out.alloc _
  clear d1
  go_loopw [2, 24] (fun fr i wr => ∃ (k fi : Nat) (cs : List Int) (A' : Option Addr) (cap' : Nat), k ≤ bs.length ∧ i = .int .i64 k ∧ fr = .int .u32 fi ∧ fi < 1024 ∧ choose bs f = cs ++ choose (bs.drop k) fi ∧
      BoardAt wr B bb m n (.slice A bs.length cap) bs ∧ w.grownBy wr (some m) ∧ Blk wr w.heap.size 66 #[.slice none 0 0, .int .i64 0] ∧ Blk wr w1.heap.size 66 #[.slice A' k cap', .int .i64 (W bs f)] ∧
      wr.ownsRow (w1.heap.size + 1) 3 1 (.slice A' k cap') k (ints cs))
    (fun _ i _ => bs.length - (intOf i).toNat)
  case atStart => exact ⟨0, f, [], none, 0, Nat.zero_le _, rfl, rfl, hf, rfl, hbd0, hgr0, hres0, hblk0, World.ownsRow_nil _ _ _ _⟩
  case round =>
    obtain ⟨wo, rfl⟩ : ∃ wo : World, wo = wr := ⟨_, rfl⟩
    obtain ⟨k, fi, cs, A', cap', hk, rfl, rfl, hfi, hch, hbr, hgr, hres, hblk, hown⟩ := hrel
    clear hblk0 hres0 hgr0 hbd0
    have HBR := Lib.hid hbr
    have HGR := Lib.hid hgr
    have HRES := Lib.hid hres
    have HBLK := Lib.hid hblk
    have HOWN := Lib.hid hown
    have HCH := Lib.hid hch
    have hwlt := hblk.lt
    by_cases hlt : k < bs.length
    · obtain ⟨bq, off, rfl, _, hbq, hcs⟩ := HCS.out (by omega)
      obtain ⟨l, hl⟩ : ∃ l, bs[k]? = some l := ⟨_, List.getElem?_eq_getElem hlt⟩
      obtain ⟨u, hu, hol⟩ := HVS.out k l hl
      have cl := hcs k u hu
      have HL := Lib.hid hl
      have hl8 : l.length ≤ 8 := hbr.ok.len hl
      obtain ⟨⟨_, A1, cap1, rfl, hnc1, _, hcs1⟩, _⟩ := hol
      have HC1 := Lib.hid hcs1
      have HCL := Lib.hid cl
      have hk0 : (0 : Int) ≤ (k : Int) := by omega
      clear hcs hu hl hcs1 cl hbr hgr hres hblk hown hch
      go_wp2_with (go_at_call 126; refine (w_any B bb m n _ bs _ k fi _ _ _ rfl rfl rfl (by omega) hfi HBR.out).mono ?_; rintro e w2 ⟨rfl, hb2, hg2⟩; have e1 := hb2.c1; have el := HB.out.keep (HGR.out.trans hg2) HCL.out; have hg2' := hg2.size; have HB2 := Lib.hid hb2; have HG2 := Lib.hid hg2; clear hb2 hg2)
      go_loopw [2, 9, 43] (fun fr nn i wr2 => ∃ j : Nat, j ≤ l.length ∧ i = .int .i64 j ∧ nn = .int .i64 (-1) ∧ fr = .int .u32 fi ∧ (∀ (i : Nat) (x : Off), i < j → l[i]? = some x → pickB (W (bs.drop (k + 1))) fi (W (bs.drop k) fi) x = false) ∧
          BoardAt wr2 B bb m n (.slice (some ⟨bq, off, none⟩) bs.length cap) bs ∧ wo.grownBy wr2 (some m))
        (fun _ _ i _ => l.length - (intOf i).toNat)
      case atStart => exact ⟨0, Nat.zero_le _, rfl, rfl, rfl, fun i x h => by omega, HB2.out, HG2.out⟩
      case round =>
        obtain ⟨j, hj, rfl, rfl, rfl, hno, hbt, hgt⟩ := hrel
        have HNO := Lib.hid hno
        have HBT := Lib.hid hbt
        have HGT := Lib.hid hgt
        by_cases hlj : j < l.length
        · obtain ⟨b1, off1, rfl, _, hb1, hcs1⟩ := HC1.out (by omega)
          obtain ⟨o, ho⟩ : ∃ o, l[j]? = some o := ⟨_, List.getElem?_eq_getElem hlj⟩
          have o0 : wr.cell? ⟨b1, off1 + j * 2, none⟩ = some (.int .u32 o.g) := HB.out.keep (HGR.out.trans hgt) (hcs1 _ _ (Off.all_fst l j o ho))
          have o1 : wr.cell? ⟨b1, off1 + j * 2 + 1, none⟩ = some (.int .i64 o.c) := HB.out.keep (HGR.out.trans hgt) (hcs1 _ _ (Off.all_snd l j o ho))
          obtain ⟨ho1, ho2, ho3, ho4⟩ := HB.out.ok.offer HL.out ho
          have hB0 := W_nonneg (bs.drop (k + 1)) (andNot fi o.g)
          have hB1 := HB.out.ok.W_le (k + 1) (andNot fi o.g)
          have hbits : bits .andNot .u32 (o.g : Int) (fi : Int) = ((andNot o.g fi : Nat) : Int) := u32_andNot_nat o.g fi (by omega) (by omega)
          have hbits2 : bits .andNot .u32 (fi : Int) (o.g : Int) = ((andNot fi o.g : Nat) : Int) := u32_andNot_nat fi o.g (by omega) (by omega)
          have hfo : andNot fi o.g < 1024 := Nat.lt_of_le_of_lt (andNot_le _ _) hfi
          have HO := Lib.hid ho
          clear hcs1 ho hno hbt hgt
          by_cases hfit : andNot o.g fi = 0
          · have hfb : (((andNot o.g fi : Nat) : Int) == 0) = true := by simp [hfit]
            have HFI := Lib.hid hfit
            have hsum : IntKind.i64.wrap (o.c + W (bs.drop (k + 1)) (andNot fi o.g)) = o.c + W (bs.drop (k + 1)) (andNot fi o.g) := IntWalk.i64_in _ (by omega)
            have hk1 : IntKind.i64.wrap ((k : Int) + 1) = (k : Int) + 1 := IntWalk.i64_in _ (by omega)
            clear hfit
            by_cases heq : o.c + W (bs.drop (k + 1)) (andNot fi o.g) = W (bs.drop k) fi
            · have hpb : pickB (W (bs.drop (k + 1))) fi (W (bs.drop k) fi) o = true := by simp [pickB, HFI.out, heq]
              have hpn := pickN_some HO.out hpb HNO.out
              have HPN := Lib.hid hpn
              have heb : (o.c + W (bs.drop (k + 1)) (andNot fi o.g) == W (bs.drop k) fi) = true := by simp [heq]
              clear heq hpn hpb
              go_wp2_with fail
              go_region_held3 (fun w' => w'.cell? ⟨wr.heap.size, 0, none⟩ = some (.int .u32 o.g) ∧ w'.cell? ⟨wr.heap.size, 1, none⟩ = some (.int .i64 o.c)) (go_keep)
                ((go_at_call 126; refine (w_any B bb m n _ bs _ (k + 1) (andNot fi o.g) _ _ _ (by omega) rfl rfl (by omega) hfo ((HBT.out.alloc _).drew)).mono ?_; rintro e w2 ⟨rfl, hb2, hg2⟩; have z0 : w2.cell? ⟨wr.heap.size, 0, none⟩ = some (.int .u32 o.g) := (HBT.out.alloc _).drew.keep hg2 (by simp); have z1 : w2.cell? ⟨wr.heap.size, 1, none⟩ = some (.int .i64 o.c) := (HBT.out.alloc _).drew.keep hg2 (by simp)))
              have HBT2 := Lib.hid hb2
              have HGT2 := Lib.hid (HGT.out.trans ((grownBy_of_below (((Below.refl _ _).alloc (Nat.le_refl _) _).drew) _ : wr.grownBy (wr.alloc (.cells #[.int .u32 o.g, .int .i64 o.c] 45)).drew (some m)).trans hg2))
              clear hb2 hg2 hsum hk1
              have hgt : wo.grownBy w2 (some m) := HGT2.out
              have hbk : Blk w2 w1.heap.size 66 #[.slice A' k cap', .int .i64 (W bs f)] := HBLK.out.grown hgt (fun e => by injection e with e; omega)
              have g0 : w2.cell? ⟨w1.heap.size, 0, none⟩ = some (.slice A' k cap') := hbk.cell 0
              have hot : w2.ownsRow (w1.heap.size + 1) 3 1 (.slice A' k cap') k (ints cs) := HOWN.out.kept hgt (by
                cases hv : (Value.slice A' k cap').ownBlock with
                | none => exact .inl rfl
                | some g => exact .inr fun e => by injection e with e; have := (HOWN.out.lt g hv).1; omega)
              have hlt' := hgt.size
              have HBK := Lib.hid hbk
              have HOT := Lib.hid hot
              clear hgt hbk hot
              have g0a := cellAlloc g0 (.cells #[.int .i64 (j : Nat)] 3)
              go_wp2_with (at_builtin; refine wpList_app _ rfl (.tmp 75) (.tmp 77) et_int rfl (w1.heap.size + 1) (.slice A' k cap') k (ints cs) rfl (HOT.out.alloc _) _ _ 1 _ rfl (Sl.new w2 #[.int .i64 (j : Nat)] _ 1 1 (by unfold maxLen; omega) rfl) (by simp [Value.oneCell']) (by omega) (by unfold maxLen; omega) (by simp; omega) ?_; intro A3 cap3 w3 hown3 hg3 hloc3; have hb3 : Blk w3 w1.heap.size 66 #[.slice A' k cap', .int .i64 (W bs f)] := (HBK.out.alloc _).grown hg3 (fun e => by have := (HOT.out.lt _ e.symm).1; omega); have k0 : w3.cell? ⟨w1.heap.size, 0, none⟩ = some (.slice A' k cap') := hb3.cell 0; have k1 := hb3.frozen 0; have HB3 := Lib.hid hb3; have HG3 := Lib.hid hg3; have HO3 := Lib.hid hown3; clear hb3 hg3 hown3 hloc3)
              go_roundw
              case rel =>
                have hro : ∀ g, (Value.slice A' k cap').ownBlock = some g → w1.heap.size + 1 ≤ g := fun g e => (HOT.out.lt g e).1
                have hbl := World.block_lt_of_cell? w _ HB.out.c0
                simp only at hbl
                refine ⟨k + 1, andNot fi o.g, cs ++ [((j : Nat) : Int)], A3, cap3, by omega, by go_num, rfl, hfo, ?_, ?_, ?_, ?_, ?_, ?_⟩
                · rw [HCH.out, choose_drop HL.out fi, HPN.out]
                  simp
                · exact ((HBT2.out.alloc _).far HG3.out (fun g e => by have := hro g e; omega)).far (grownBy_setCell _ ⟨w1.heap.size, 0, none⟩ _) (fun g e => by simp at e; omega)
                · exact grownBy_far (grownBy_far ((HGR.out.trans HGT2.out).trans (World.grownBy_alloc _ _ _)) HG3.out (fun g e => by have := hro g e; omega)) (grownBy_setCell _ ⟨w1.heap.size, 0, none⟩ _) (fun g e => by simp at e; omega)
                · exact ((((HRES.out.grown HGT2.out (fun e => by injection e with e; omega)).alloc _).grown HG3.out (fun e => by have := hro _ e.symm; omega)).far (p := ⟨w1.heap.size, 0, none⟩) (by simp; omega) _)
                · exact HB3.out.set_ 0 _
                · have := ownsRow_setCell_below HO3.out (a := ⟨w1.heap.size, 0, none⟩) (by simp) (.slice A3 (k + 1) cap3)
                  simpa [ints] using this
              case measure => simp [intOf]; omega
            · have hpb : pickB (W (bs.drop (k + 1))) fi (W (bs.drop k) fi) o = false := by simp [pickB, heq]
              have HPB := Lib.hid hpb
              have heb : (o.c + W (bs.drop (k + 1)) (andNot fi o.g) == W (bs.drop k) fi) = false := by simp [heq]
              clear heq hpb
              go_wp2_with fail
              go_region_held3 (fun w' => w'.cell? ⟨wr.heap.size, 0, none⟩ = some (.int .u32 o.g) ∧ w'.cell? ⟨wr.heap.size, 1, none⟩ = some (.int .i64 o.c)) (go_keep)
                ((go_at_call 126; refine (w_any B bb m n _ bs _ (k + 1) (andNot fi o.g) _ _ _ (by omega) rfl rfl (by omega) hfo ((HBT.out.alloc _).drew)).mono ?_; rintro e w2 ⟨rfl, hb2, hg2⟩; have z0 : w2.cell? ⟨wr.heap.size, 0, none⟩ = some (.int .u32 o.g) := (HBT.out.alloc _).drew.keep hg2 (by simp); have z1 : w2.cell? ⟨wr.heap.size, 1, none⟩ = some (.int .i64 o.c) := (HBT.out.alloc _).drew.keep hg2 (by simp)))
              have HBT2 := Lib.hid hb2
              have HGT2 := Lib.hid (HGT.out.trans ((grownBy_of_below (((Below.refl _ _).alloc (Nat.le_refl _) _).drew) _ : wr.grownBy (wr.alloc (.cells #[.int .u32 o.g, .int .i64 o.c] 45)).drew (some m)).trans hg2))
              clear hb2 hg2 hsum hk1
              go_wp2_with fail
              go_roundw
              case rel =>
                refine ⟨j + 1, by omega, by go_num, rfl, rfl, fun i x hi hx => ?_, HBT2.out, HGT2.out⟩
                by_cases hij : i < j
                · exact HNO.out i x hij hx
                · obtain rfl : i = j := by omega
                  rw [HO.out] at hx
                  cases hx
                  exact HPB.out
              case measure => simp [intOf]; omega
          · have hfb : (((andNot o.g fi : Nat) : Int) == 0) = false := by simp [hfit]
            have hpb : pickB (W (bs.drop (k + 1))) fi (W (bs.drop k) fi) o = false := by simp [pickB, hfit]
            have HPB := Lib.hid hpb
            clear hfit hpb
            go_wp2_with fail
            go_quiet (fail)
            go_wp2_with fail
            go_roundw
            case rel =>
              refine ⟨j + 1, by omega, by go_num, rfl, rfl, fun i x hi hx => ?_, (HBT.out.alloc _).drewN nq, HGT.out.trans (grownBy_of_below (below_drewN ((Below.refl _ _).alloc (Nat.le_refl _) _) nq) _)⟩
              by_cases hij : i < j
              · exact HNO.out i x hij hx
              · obtain rfl : i = j := by omega
                rw [HO.out] at hx
                cases hx
                exact HPB.out
            case measure => simp [intOf]; omega
        · obtain rfl : j = l.length := by omega
          have hpn : pickN (W (bs.drop (k + 1))) fi (W (bs.drop k) fi) l = (-1, fi) := pickN_none hno
          have HPN := Lib.hid hpn
          clear hno hbt hgt hpn
          have hgt : wo.grownBy wr (some m) := HGT.out
          have hbk : Blk wr w1.heap.size 66 #[.slice A' k cap', .int .i64 (W bs f)] := HBLK.out.grown hgt (fun e => by injection e with e; omega)
          have g0 : wr.cell? ⟨w1.heap.size, 0, none⟩ = some (.slice A' k cap') := hbk.cell 0
          have hot : wr.ownsRow (w1.heap.size + 1) 3 1 (.slice A' k cap') k (ints cs) := HOWN.out.kept hgt (by
            cases hv : (Value.slice A' k cap').ownBlock with
            | none => exact .inl rfl
            | some g => exact .inr fun e => by injection e with e; have := (HOWN.out.lt g hv).1; omega)
          have hlt' := hgt.size
          have HBK := Lib.hid hbk
          have HOT := Lib.hid hot
          clear hgt hbk hot
          have g0a := cellAlloc g0 (.cells #[.int .i64 (-1)] 3)
          go_wp2_with (at_builtin; refine wpList_app _ rfl (.tmp 75) (.tmp 77) et_int rfl (w1.heap.size + 1) (.slice A' k cap') k (ints cs) rfl (HOT.out.alloc _) _ _ 1 _ rfl (Sl.new wr #[.int .i64 (-1)] _ 1 1 (by unfold maxLen; omega) rfl) (by simp [Value.oneCell']) (by omega) (by unfold maxLen; omega) (by simp; omega) ?_; intro A3 cap3 w3 hown3 hg3 hloc3; have hb3 : Blk w3 w1.heap.size 66 #[.slice A' k cap', .int .i64 (W bs f)] := (HBK.out.alloc _).grown hg3 (fun e => by have := (HOT.out.lt _ e.symm).1; omega); have k0 : w3.cell? ⟨w1.heap.size, 0, none⟩ = some (.slice A' k cap') := hb3.cell 0; have k1 := hb3.frozen 0; have HB3 := Lib.hid hb3; have HG3 := Lib.hid hg3; have HO3 := Lib.hid hown3; clear hb3 hg3 hown3 hloc3)
          go_roundw
          case rel =>
            have hro : ∀ g, (Value.slice A' k cap').ownBlock = some g → w1.heap.size + 1 ≤ g := fun g e => (HOT.out.lt g e).1
            have hbl := World.block_lt_of_cell? w _ HB.out.c0
            simp only at hbl
            refine ⟨k + 1, fi, cs ++ [(-1)], A3, cap3, by omega, by go_num, rfl, hfi, ?_, ?_, ?_, ?_, ?_, ?_⟩
            · rw [HCH.out, choose_drop HL.out fi, HPN.out]
              simp
            · exact ((HBT.out.alloc _).far HG3.out (fun g e => by have := hro g e; omega)).far (grownBy_setCell _ ⟨w1.heap.size, 0, none⟩ _) (fun g e => by simp at e; omega)
            · exact grownBy_far (grownBy_far ((HGR.out.trans HGT.out).trans (World.grownBy_alloc _ _ _)) HG3.out (fun g e => by have := hro g e; omega)) (grownBy_setCell _ ⟨w1.heap.size, 0, none⟩ _) (fun g e => by simp at e; omega)
            · exact ((((HRES.out.grown HGT.out (fun e => by injection e with e; omega)).alloc _).grown HG3.out (fun e => by have := hro _ e.symm; omega)).far (p := ⟨w1.heap.size, 0, none⟩) (by simp; omega) _)
            · exact HB3.out.set_ 0 _
            · have := ownsRow_setCell_below HO3.out (a := ⟨w1.heap.size, 0, none⟩) (by simp) (.slice A3 (k + 1) cap3)
              simpa [ints] using this
          case measure => simp [intOf]; omega
    · obtain rfl : k = bs.length := by omega
      have hcs : choose bs f = cs := by rw [hch]; simp [choose]
      have y0 := hres.cell 0
      have y1 := hres.cell 1
      have y2 := hres.frozen
      have x0 : wo.cell? ⟨w1.heap.size, 0, none⟩ = some (.slice A' bs.length cap') := hblk.cell 0
      have x1 : wo.cell? ⟨w1.heap.size, 1, none⟩ = some (.int .i64 (W bs f)) := hblk.cell 1
      simp at y0 y1
      clear hbr hgr hres hblk hown hch
      have hbl := World.block_lt_of_cell? w _ HB.out.c0
      simp only at hbl
      have HCS := Lib.hid hcs
      clear hcs
      go_wp2_with fail
      refine bodyPost_ret (v := .agg #[.slice A' bs.length cap', .int .i64 (W bs f)]) (by simp [results, Try.results122, go_sem, y0, y1]) rfl ⟨A', cap', rfl, ?_, ?_, ?_⟩
      · rw [HCS.out]
        exact own_mono (ownsRow_setCell_below (ownsRow_setCell_below HOWN.out (a := ⟨w.heap.size, 0, none⟩) (by simp; omega) _) (a := ⟨w.heap.size, 1, none⟩) (by simp; omega) _) (by omega)
      · exact (HBR.out.far (grownBy_setCell _ ⟨w.heap.size, 0, none⟩ _) (fun g e => by simp at e; omega)).far (grownBy_setCell _ ⟨w.heap.size, 1, none⟩ _) (fun g e => by simp at e; omega)
      · exact grownBy_far (grownBy_far HGR.out (grownBy_setCell _ ⟨w.heap.size, 0, none⟩ _) (fun g e => by simp at e; omega)) (grownBy_setCell _ ⟨w.heap.size, 1, none⟩ _) (fun g e => by simp at e; omega)
end Go.Proofs.Ytcigobiolbojhaa.Vb

/- clear.Part, clear.Best, clear.Without. -/
namespace Go.Proofs.Ytcigobiolbojhaa.Vb
open Go.RowKit

/-- the best choice of an instance -/
def bestC (n : Int) (bs : List (List Off)) : List Int := choose bs (allOf n)

set_option maxHeartbeats 800000 in
theorem part_ok (n : Int) (bs : List (List Off)) (v : Value) (R : Nat → Prop) (w : World) (hl : Buys w R v bs) (hi : instE n bs = 0) :
    Calls Try.prog 87 #[.agg #[.int .i64 n, v], .int .i64 0, .int .u32 (allOf n : Nat)] w fun e w' => ∃ A' cap', e = .returned (.tuple #[.agg #[.slice A' bs.length cap', .int .i64 (W bs (allOf n))], .int .i64 0]) ∧
      w'.ownsRow w.heap.size 3 1 (.slice A' bs.length cap') bs.length (ints (bestC n bs)) ∧ Below w.heap.size w w' := by
  obtain ⟨vs, ⟨_, A, cap, rfl, _⟩, _⟩ := id hl
  have HB := Lib.hid hl
  have hwf := Lib.hid (buys_wf hl)
  clear hl
  have h10 := allOf_1024 (instE_zero hi).2.1
  have hok := Lib.hid (okb_of hwf.out hi).1
  have HI := Lib.hid hi
  clear hi
  go_enter Try.func87, Try.ntmps87
  go_wp2_with (first
    | (go_at_call 120; refine (may_any n bs _ R _ ((HB.out.alloc _).alloc _)).mono ?_; rintro e w1 ⟨rfl, hb1⟩; rw [HI.out]; have hb1a := hb1.mono (B' := w.heap.size + 2) (by simp); obtain ⟨c0, c1, y0, y1, fx, fy, hs1, hbw⟩ := two_new hb1a; have HB1 := Lib.hid hb1a; have HBW := Lib.hid hbw; clear hbw hb1 hb1a)
    | (go_at_call 121; refine (of_any n bs _ R _ (HB.out.grow HBW.out) hok.out).mono ?_; rintro e w2 ⟨bb, m, rfl, hbd, hm, hb2⟩; have HBD := Lib.hid hbd; have HM := Lib.hid hm; have HB2 := Lib.hid hb2; clear hbd hm hb2)
    | (go_at_call 122; refine (first_any _ bb m n _ bs (allOf n) h10 _ HBD.out).mono ?_; rintro e w3 ⟨A3, cap3, rfl, hown3, hb3, hg3⟩; have hb4 := (HB1.out.trans (HB2.out.mono hs1)).grown hg3 (by have := HB2.out.size; omega) (fun k e => by injection e with e; have := HM.out; omega); obtain ⟨d0, d1, z0, z1, gx, gy, hs3, hbw3⟩ := two_new hb4; have HO3 := Lib.hid hown3; have HBW3 := Lib.hid hbw3; have hs23 := HB2.out.size; clear hown3 hb3 hg3 hb4 hbw3))
  refine bodyPost_ret (v := .tuple #[.agg #[.slice A3 bs.length cap3, .int .i64 (W bs (allOf n))], .int .i64 0]) (by simp [results, Try.results87, go_sem, z0, z1]) rfl ⟨A3, cap3, rfl, ?_, ?_⟩
  · exact own_mono (ownsRow_setCell_below (ownsRow_setCell_below HO3.out (a := ⟨w.heap.size + 1, 0, none⟩) (by simp; omega) _) (a := ⟨w.heap.size + 1, 1, none⟩) (by simp; omega) _) (by omega)
  · exact (HBW3.out.setCell (p := ⟨w.heap.size + 1, 0, none⟩) (by simp) _).setCell (p := ⟨w.heap.size + 1, 1, none⟩) (by simp) _

set_option maxHeartbeats 800000 in
theorem part_err (n : Int) (bs : List (List Off)) (v : Value) (R : Nat → Prop) (w : World) (hl : Buys w R v bs) (hi : instE n bs ≠ 0) :
    Calls Try.prog 87 #[.agg #[.int .i64 n, v], .int .i64 0, .int .u32 (allOf n : Nat)] w fun e w' => e = .returned (.tuple #[.agg #[.slice none 0 0, .int .i64 0], .int .i64 (instE n bs)]) ∧ Below w.heap.size w w' := by
  obtain ⟨vs, ⟨_, A, cap, rfl, _⟩, _⟩ := id hl
  have HB := Lib.hid hl
  have hcb : (instE n bs != 0) = true := by simpa using hi
  clear hl hi
  go_enter Try.func87, Try.ntmps87
  go_wp2_with (go_at_call 120; refine (may_any n bs _ R _ ((HB.out.alloc _).alloc _)).mono ?_; rintro e w1 ⟨rfl, hb1⟩; have hb1a := hb1.mono (B' := w.heap.size + 2) (by simp); obtain ⟨c0, c1, y0, y1, fx, fy, hs1, hbw⟩ := two_new hb1a; have HBW := Lib.hid hbw; clear hbw hb1 hb1a)
  refine bodyPost_ret (v := .tuple #[.agg #[.slice none 0 0, .int .i64 0], .int .i64 (instE n bs)]) (by simp [results, Try.results87, go_sem, y0, y1]) rfl ⟨rfl, ?_⟩
  exact (HBW.out.setCell (p := ⟨w.heap.size + 1, 0, none⟩) (by simp) _).setCell (p := ⟨w.heap.size + 1, 1, none⟩) (by simp) _

set_option maxHeartbeats 800000 in
theorem best_ok (n : Int) (bs : List (List Off)) (v : Value) (R : Nat → Prop) (w : World) (hl : Buys w R v bs) (hi : instE n bs = 0) :
    Calls Try.prog 31 #[.agg #[.int .i64 n, v]] w fun e w' => ∃ A' cap', e = .returned (.tuple #[.agg #[.slice A' bs.length cap', .int .i64 (W bs (allOf n))], .int .i64 0]) ∧
      w'.ownsRow w.heap.size 3 1 (.slice A' bs.length cap') bs.length (ints (bestC n bs)) ∧ Below w.heap.size w w' := by
  obtain ⟨vs, ⟨_, A, cap, rfl, _⟩, _⟩ := id hl
  have HB := Lib.hid hl
  have HI := Lib.hid hi
  clear hl hi
  go_enter Try.func31, Try.ntmps31
  go_wp2_with fail
  have hw0 : ∃ W0, W0 = (w.alloc (.cells #[.int .i64 n, .slice A bs.length cap] 24)).alloc (.cells #[.slice none 0 0, .int .i64 0] 66) := ⟨_, rfl⟩
  obtain ⟨W0, hW0⟩ := hw0
  obtain ⟨c0, c1, y0, y1, fx, fy, hs0, hbw⟩ := two_new (w1 := W0) (by rw [hW0]; exact Below.refl _ _)
  have HB0 := Lib.hid (show Buys W0 R _ _ from by rw [hW0]; exact (HB.out.alloc _).alloc _)
  have HBW := Lib.hid hbw
  rw [← hW0]
  clear hbw hW0
  go_region_held3 (fun w' => w'.cell? ⟨w.heap.size, 0, none⟩ = some (.int .i64 n) ∧ w'.cell? ⟨w.heap.size, 1, none⟩ = some (.slice A bs.length cap)) (go_keep)
    (first
      | (go_at_call 88; refine (whole_any n _ _ _ _).mono ?_; rintro e w1 ⟨rfl, hb1⟩; have e0 := (hb1.cell (p := ⟨w.heap.size, 0, none⟩) (by simp; omega)).trans c0; have e1 := (hb1.cell (p := ⟨w.heap.size, 1, none⟩) (by simp; omega)).trans c1; have e2 := (hb1.cell (p := ⟨w.heap.size + 1, 0, none⟩) (by simp; omega)).trans y0; have e3 := (hb1.cell (p := ⟨w.heap.size + 1, 1, none⟩) (by simp; omega)).trans y1; have e4 : ∀ i, w1.frozen? ⟨w.heap.size + 1, i, none⟩ = false := fun i => (hb1.frozen (p := ⟨w.heap.size + 1, i, none⟩) (by simp; omega)).trans (fy i); have hs1 := hb1.size; simp at hs1; have HB1 := Lib.hid hb1; clear hb1)
      | (go_at_call 87; refine (part_ok n bs _ R _ (HB0.out.drew.grow HB1.out) HI.out).mono ?_; rintro e w2 ⟨A2, cap2, rfl, hown2, hb2⟩; have z0 := (hb2.cell (p := ⟨w.heap.size, 0, none⟩) (by simp; omega)).trans e0; have z1 := (hb2.cell (p := ⟨w.heap.size, 1, none⟩) (by simp; omega)).trans e1; have z2 := (hb2.cell (p := ⟨w.heap.size + 1, 0, none⟩) (by simp; omega)).trans e2; have z3 := (hb2.cell (p := ⟨w.heap.size + 1, 1, none⟩) (by simp; omega)).trans e3; have z4 : ∀ i, w2.frozen? ⟨w.heap.size + 1, i, none⟩ = false := fun i => (hb2.frozen (p := ⟨w.heap.size + 1, i, none⟩) (by simp; omega)).trans (e4 i); have HB2 := Lib.hid hb2; have HO2 := Lib.hid hown2; clear hb2 hown2))
  go_wp2_with fail
  refine bodyPost_ret (v := .tuple #[.agg #[.slice A2 bs.length cap2, .int .i64 (W bs (allOf n))], .int .i64 0]) (by simp [results, Try.results31, go_sem, z2, z3]) rfl ⟨A2, cap2, rfl, ?_, ?_⟩
  · exact own_mono (ownsRow_setCell_below (ownsRow_setCell_below HO2.out (a := ⟨w.heap.size + 1, 0, none⟩) (by simp; omega) _) (a := ⟨w.heap.size + 1, 1, none⟩) (by simp; omega) _) (by omega)
  · exact (((HBW.out.drew.trans (HB1.out.mono (by simp; omega))).trans (HB2.out.mono (by omega))).setCell (p := ⟨w.heap.size + 1, 0, none⟩) (by simp) _).setCell (p := ⟨w.heap.size + 1, 1, none⟩) (by simp) _

set_option maxHeartbeats 800000 in
theorem best_err (n : Int) (bs : List (List Off)) (v : Value) (R : Nat → Prop) (w : World) (hl : Buys w R v bs) (hi : instE n bs ≠ 0) :
    Calls Try.prog 31 #[.agg #[.int .i64 n, v]] w fun e w' => e = .returned (.tuple #[.agg #[.slice none 0 0, .int .i64 0], .int .i64 (instE n bs)]) ∧ Below w.heap.size w w' := by
  obtain ⟨vs, ⟨_, A, cap, rfl, _⟩, _⟩ := id hl
  have HB := Lib.hid hl
  have HI := Lib.hid hi
  clear hl hi
  go_enter Try.func31, Try.ntmps31
  go_wp2_with fail
  have hw0 : ∃ W0, W0 = (w.alloc (.cells #[.int .i64 n, .slice A bs.length cap] 24)).alloc (.cells #[.slice none 0 0, .int .i64 0] 66) := ⟨_, rfl⟩
  obtain ⟨W0, hW0⟩ := hw0
  obtain ⟨c0, c1, y0, y1, fx, fy, hs0, hbw⟩ := two_new (w1 := W0) (by rw [hW0]; exact Below.refl _ _)
  have HB0 := Lib.hid (show Buys W0 R _ _ from by rw [hW0]; exact (HB.out.alloc _).alloc _)
  have HBW := Lib.hid hbw
  rw [← hW0]
  clear hbw hW0
  go_region_held3 (fun w' => w'.cell? ⟨w.heap.size, 0, none⟩ = some (.int .i64 n) ∧ w'.cell? ⟨w.heap.size, 1, none⟩ = some (.slice A bs.length cap)) (go_keep)
    (first
      | (go_at_call 88; refine (whole_any n _ _ _ _).mono ?_; rintro e w1 ⟨rfl, hb1⟩; have e0 := (hb1.cell (p := ⟨w.heap.size, 0, none⟩) (by simp; omega)).trans c0; have e1 := (hb1.cell (p := ⟨w.heap.size, 1, none⟩) (by simp; omega)).trans c1; have e2 := (hb1.cell (p := ⟨w.heap.size + 1, 0, none⟩) (by simp; omega)).trans y0; have e3 := (hb1.cell (p := ⟨w.heap.size + 1, 1, none⟩) (by simp; omega)).trans y1; have e4 : ∀ i, w1.frozen? ⟨w.heap.size + 1, i, none⟩ = false := fun i => (hb1.frozen (p := ⟨w.heap.size + 1, i, none⟩) (by simp; omega)).trans (fy i); have hs1 := hb1.size; simp at hs1; have HB1 := Lib.hid hb1; clear hb1)
      | (go_at_call 87; refine (part_err n bs _ R _ (HB0.out.drew.grow HB1.out) HI.out).mono ?_; rintro e w2 ⟨rfl, hb2⟩; have z0 := (hb2.cell (p := ⟨w.heap.size, 0, none⟩) (by simp; omega)).trans e0; have z1 := (hb2.cell (p := ⟨w.heap.size, 1, none⟩) (by simp; omega)).trans e1; have z2 := (hb2.cell (p := ⟨w.heap.size + 1, 0, none⟩) (by simp; omega)).trans e2; have z3 := (hb2.cell (p := ⟨w.heap.size + 1, 1, none⟩) (by simp; omega)).trans e3; have z4 : ∀ i, w2.frozen? ⟨w.heap.size + 1, i, none⟩ = false := fun i => (hb2.frozen (p := ⟨w.heap.size + 1, i, none⟩) (by simp; omega)).trans (e4 i); have HB2 := Lib.hid hb2; clear hb2))
  go_wp2_with fail
  refine bodyPost_ret (v := .tuple #[.agg #[.slice none 0 0, .int .i64 0], .int .i64 (instE n bs)]) (by simp [results, Try.results31, go_sem, z2, z3]) rfl ⟨rfl, ?_⟩
  exact (((HBW.out.drew.trans (HB1.out.mono (by simp; omega))).trans (HB2.out.mono (by omega))).setCell (p := ⟨w.heap.size + 1, 0, none⟩) (by simp) _).setCell (p := ⟨w.heap.size + 1, 1, none⟩) (by simp) _
end Go.Proofs.Ytcigobiolbojhaa.Vb

/- vcg.Without; what is lost without a buyer. -/
namespace Go.Proofs.Ytcigobiolbojhaa.Vb
open Go.RowKit

theorem checkE_nil {n : Int} (h : 1 ≤ n ∧ n ≤ 10) : checkE n [] = 0 := by
  unfold checkE
  rw [if_neg (by omega), if_neg (by simp)]
  rfl
theorem instE_of {n : Int} {bs : List (List Off)} (h1 : 1 ≤ n) (h2 : n ≤ 10) (h3 : bs.length ≤ 32) (h4 : ∀ l ∈ bs, l.length ≤ 8) (h5 : ∀ l ∈ bs, checkE n l = 0) : instE n bs = 0 := by
  unfold instE
  rw [if_neg (by omega), if_neg, instLoop_none n bs h5]
  rintro (h | h)
  · omega
  · obtain ⟨l, hl, hb⟩ := List.any_eq_true.1 h
    have := h4 l hl
    simp [longB] at hb
    omega
theorem instE_set {n : Int} {bs : List (List Off)} {l : List Off} {i : Nat} (h : instE n bs = 0) (hl : l.length ≤ 8) (hc : checkE n l = 0) : instE n (bs.set i l) = 0 := by
  obtain ⟨h1, h2, h3, h4, h5⟩ := instE_zero h
  refine instE_of h1 h2 (by simpa using h3) (fun x hx => ?_) (fun x hx => ?_)
  · rcases List.mem_or_eq_of_mem_set hx with h | rfl
    · exact h4 x h
    · exact hl
  · rcases List.mem_or_eq_of_mem_set hx with h | rfl
    · exact h5 x h
    · exact hc
theorem instE_nil {n : Int} {bs : List (List Off)} {i : Nat} (h : instE n bs = 0) : instE n (bs.set i []) = 0 :=
  instE_set h (by simp) (checkE_nil ⟨(instE_zero h).1, (instE_zero h).2.1⟩)
theorem withE_nil {n : Int} {bs : List (List Off)} {i : Int} (h : instE n bs = 0) (h0 : 0 ≤ i) (h1 : i < bs.length) : withE n bs i [] = 0 := by
  unfold withE
  rw [if_neg (by simpa using h), if_neg (by omega)]
  exact checkE_nil ⟨(instE_zero h).1, (instE_zero h).2.1⟩
theorem withE_inst {n : Int} {bs : List (List Off)} {i : Int} {l : List Off} (h : withE n bs i l = 0) : instE n bs = 0 := by
  by_cases hi : instE n bs = 0
  · exact hi
  · unfold withE at h; rw [if_pos hi] at h; exact absurd h hi

/-- W without a buyer; 0 beside an error -/
def woW (n : Int) (bs : List (List Off)) (i : Int) : Int := if withE n bs i [] = 0 then W (bs.set i.toNat []) (allOf n) else 0

theorem struct_new {w w1 : World} {c0 c1 : Value} {t : TypeId} (hb : Below (w.heap.size + 1) (w.alloc (.cells #[c0, c1] t)) w1) : w1.cell? ⟨w.heap.size, 0, none⟩ = some c0 ∧ w1.cell? ⟨w.heap.size, 1, none⟩ = some c1 :=
  ⟨(one_new hb).1, (one_new hb).2.1⟩

set_option maxHeartbeats 800000 in
theorem vcgWithout_any (n : Int) (bs : List (List Off)) (buyer : Int) (v : Value) (R : Nat → Prop) (w : World) (hl : Buys w R v bs) :
    Calls Try.prog 24 #[.agg #[.int .i64 n, v], .int .i64 buyer] w fun e w' => e = .returned (.tuple #[.int .i64 (woW n bs buyer), .int .i64 (withE n bs buyer [])]) ∧ Below w.heap.size w w' := by
  obtain ⟨vs, ⟨_, A, cap, rfl, _⟩, _⟩ := id hl
  have HB := Lib.hid hl
  clear hl
  by_cases he : withE n bs buyer [] = 0
  · have hW : woW n bs buyer = W (bs.set buyer.toNat []) (allOf n) := by unfold woW; rw [if_pos he]
    have hI := instE_nil (i := buyer.toNat) (withE_inst he)
    have hbw : bestW n (bs.set buyer.toNat []) = W (bs.set buyer.toNat []) (allOf n) := by unfold bestW; rw [if_pos hI]
    have HW := Lib.hid hW
    have HE := Lib.hid he
    have HI := Lib.hid hI
    have HBW := Lib.hid hbw
    clear hW he hI hbw
    go_enter Try.func24, Try.ntmps24
    go_wp2_with (first
      | (go_at_call 32; refine (without_ok n bs buyer _ R _ (HB.out.alloc _) HE.out).mono ?_; rintro e w1 ⟨A1, cap1, rfl, hob, hb1⟩; have HOB := Lib.hid hob; have HB1 := Lib.hid (hb1.mono (B' := w.heap.size + 1) (by simp)); clear hob hb1)
      | (go_at_call 33; refine (W_any n (bs.set buyer.toNat []) (.slice A1 bs.length cap1) _ _ ((HOB.out.alloc _).buys)).mono ?_; rintro e w2 ⟨rfl, hb2⟩; rw [HBW.out, HI.out]; have HB2 := Lib.hid hb2; clear hb2))
    go_ret2
    refine ⟨by rw [HW.out, HE.out]; rfl, ?_⟩
    have h1 := (one_new HB1.out).2.2.2.2
    exact (h1.alloc h1.size _).trans (HB2.out.mono (by have := h1.size; simp; omega))
  · have hW : woW n bs buyer = 0 := by unfold woW; rw [if_neg he]
    have hcb : (withE n bs buyer [] != 0) = true := by simpa using he
    have HW := Lib.hid hW
    have HE := Lib.hid he
    clear hW he
    go_enter Try.func24, Try.ntmps24
    go_wp2_with (go_at_call 32; refine (without_err n bs buyer _ R _ (HB.out.alloc _) HE.out).mono ?_; rintro e w1 ⟨rfl, hb1⟩; have HB1 := Lib.hid (hb1.mono (B' := w.heap.size + 1) (by simp)); clear hb1)
    go_ret2
    refine ⟨by rw [HW.out]; rfl, ?_⟩
    have h1 := (one_new HB1.out).2.2.2.2
    exact h1.alloc h1.size _

/-- what is known of W without a buyer -/
def KnownL (n : Int) (bs : List (List Off)) (key val : Value) : Prop := ∃ i : Nat, i < bs.length ∧ bs.length ≤ 32 ∧ key = .int .i64 i ∧ val = .int .i64 (woW n bs i)
def buyerKeys : List Value := (List.range 32).map fun i => .int .i64 (i : Nat)
theorem buyerKeys_length : buyerKeys.length < maxLen := by
  have : buyerKeys.length = 32 := by simp [buyerKeys]
  rw [this]
  decide
theorem knownL_in (n : Int) (bs : List (List Off)) : ∀ k v, KnownL n bs k v → k ∈ buyerKeys := by
  rintro key val ⟨i, hi, hl, rfl, _⟩
  exact List.mem_map.2 ⟨i, List.mem_range.2 (by omega), rfl⟩
theorem intKeyed : Maps.Keyed Try.prog 3 := Maps.int_keyed Try.underlying3

structure LostAt (w : World) (B b5 b1 b2 mm : Nat) (n : Int) (v : Value) (bs : List (List Off)) : Prop where
  c5 : w.cell? ⟨b5, 0, none⟩ = some (.map (some mm))
  x0 : w.cell? ⟨b1, 0, none⟩ = some (.int .i64 n)
  x1 : w.cell? ⟨b1, 1, none⟩ = some v
  w1 : w.cell? ⟨b2, 1, none⟩ = some (.int .i64 (W bs (allOf n)))
  buys : Buys w (· < B) v bs
  hB : B ≤ mm
  map : MapG Try.prog 3 2 w mm (KnownL n bs)
  ok : instE n bs = 0
section
variable {w w' : World} {B b5 b1 b2 mm : Nat} {n : Int} {v : Value} {bs : List (List Off)}
theorem LostAt.keep (h : LostAt w B b5 b1 b2 mm n v bs) (hg : w.grownBy w' (some mm)) {p : Addr} {u : Value} (hc : w.cell? p = some u) : w'.cell? p = some u := hg.cell hc (fun e => h.map.not_cells hc (by injection e))
theorem LostAt.grown (h : LostAt w B b5 b1 b2 mm n v bs) (hg : w.grownBy w' (some mm)) (hm : MapG Try.prog 3 2 w' mm (KnownL n bs)) : LostAt w' B b5 b1 b2 mm n v bs :=
  ⟨h.keep hg h.c5, h.keep hg h.x0, h.keep hg h.x1, h.keep hg h.w1, h.buys.grown hg (fun b _ hb e => by injection e with e; have := h.hB; omega), h.hB, hm, h.ok⟩
theorem LostAt.grow (h : LostAt w B b5 b1 b2 mm n v bs) (hb : Below w.heap.size w w') : LostAt w' B b5 b1 b2 mm n v bs := h.grown (grownBy_of_below hb _) (h.map.grow hb)
theorem LostAt.alloc (h : LostAt w B b5 b1 b2 mm n v bs) (o : Obj) : LostAt (w.alloc o) B b5 b1 b2 mm n v bs := h.grow ((Below.refl _ _).alloc (Nat.le_refl _) o)
theorem LostAt.drew (h : LostAt w B b5 b1 b2 mm n v bs) : LostAt w.drew B b5 b1 b2 mm n v bs := ⟨h.c5, h.x0, h.x1, h.w1, h.buys, h.hB, h.map, h.ok⟩
/-- a row beyond all of it is written -/
theorem LostAt.far {row : Option Nat} (h : LostAt w B b5 b1 b2 mm n v bs) (hg : w.grownBy w' row) (hr : ∀ g, row = some g → b5 < g ∧ b1 < g ∧ b2 < g ∧ mm < g) : LostAt w' B b5 b1 b2 mm n v bs :=
  ⟨hg.cell h.c5 (fun e => by have := hr _ e.symm; simp at this), hg.cell h.x0 (fun e => by have := hr _ e.symm; simp at this), hg.cell h.x1 (fun e => by have := hr _ e.symm; simp at this),
    hg.cell h.w1 (fun e => by have := hr _ e.symm; simp at this), h.buys.grown hg (fun b _ hb e => by have := hr b e.symm; have := h.hB; omega), h.hB, h.map.grown hg (fun e => by have := hr mm e.symm; omega), h.ok⟩
end

theorem woW_bd {n : Int} {bs : List (List Off)} (hw : ∀ l ∈ bs, ∀ o ∈ l, o.wf) (h : instE n bs = 0) (i : Int) : 0 ≤ woW n bs i ∧ woW n bs i ≤ 35184372088832 := by
  unfold woW
  split
  · have hok := (okb_of (bs := bs.set i.toNat []) (fun l hl o ho => by
      rcases List.mem_or_eq_of_mem_set hl with h | rfl
      · exact hw l h o ho
      · cases ho) (instE_nil h)).1
    exact ⟨W_nonneg _ _, by simpa using hok.W_le 0 (allOf n)⟩
  · omega

set_option maxHeartbeats 1600000 in
theorem each_any (B b5 b1 b2 mm : Nat) (n : Int) (v : Value) (bs : List (List Off)) (i : Nat) (hi : i < bs.length) (w : World) (h : LostAt w B b5 b1 b2 mm n v bs) :
    Calls Try.prog 118 #[.int .i64 i, .pointer (some ⟨b5, 0, none⟩), .pointer (some ⟨b1, 0, none⟩), .pointer (some ⟨b2, 0, none⟩)] w fun e w' => e = .returned (.int .i64 (W bs (allOf n) - woW n bs i)) ∧ LostAt w' B b5 b1 b2 mm n v bs ∧ w.grownBy w' (some mm) := by
  have hwf := buys_wf h.buys
  have hlen := (instE_zero h.ok).2.2.1
  obtain ⟨hw0, hw1⟩ := woW_bd hwf h.ok i
  have hW0 := W_nonneg bs (allOf n)
  have hW1 : W bs (allOf n) ≤ 35184372088832 := by simpa using (okb_of hwf h.ok).1.W_le 0 (allOf n)
  have hkey := Maps.keyOf_int_mk (P := Try.prog) Try.underlying3 (a := (i : Int)) (WalkArith.wf_i64 (by omega))
  obtain ⟨vs, ⟨_, A, cap, rfl, _⟩, _⟩ := id h.buys
  have H := Lib.hid h
  have HK := Lib.hid hkey
  have hwe := withE_nil (i := (i : Int)) h.ok (by omega) (by omega)
  have HWE := Lib.hid hwe
  have hlook := h.map.look intKeyed Try.underlying181 zero64 hkey true
  obtain ⟨c5, x0, x1, w1, _, _, _, _⟩ := h
  clear hwf hkey hwe
  rcases hlook with hrun | ⟨vv, hrun, hgood⟩
  · have hq := hrun w rfl
    clear hrun
    go_enter Try.func118, Try.ntmps118
    go_wp2_with (go_at_call 24; refine (vcgWithout_any n bs _ _ _ _ H.out.buys).mono ?_; rintro e w2 ⟨rfl, hb2⟩; rw [HWE.out]; have d5 := (H.out.grow hb2).c5; have d1 := (H.out.grow hb2).w1; obtain ⟨w5, hrun5, hm5, hg5⟩ := (H.out.grow hb2).map.store intKeyed Try.underlying181 Try.underlying2 (knownL_in n bs) buyerKeys_length HK.out (c := woW n bs i) (WalkArith.wf_i64 (by omega)) ⟨i, hi, hlen, rfl, rfl⟩; have e1 := (H.out.grow hb2).keep hg5 d1; have HB2 := Lib.hid hb2; have HM5 := Lib.hid hm5; have HG5 := Lib.hid hg5; clear hb2 hm5 hg5)
    go_ret
    exact ⟨by simp, (H.out.grow HB2.out).grown HG5.out HM5.out, (grownBy_of_below HB2.out _).trans HG5.out⟩
  · obtain ⟨i', _, _, hkk, rfl⟩ := hgood
    have hii : i' = i := by simp at hkk; omega
    subst hii
    have hq := hrun w rfl
    clear hrun hkk
    go_enter Try.func118, Try.ntmps118
    go_wp2
    go_ret
    exact ⟨by simp, H.out, grownBy_of_below (Below.refl _ _) _⟩
end Go.Proofs.Ytcigobiolbojhaa.Vb

/- vcg.lost; slices.Clone of payments; vcg.Costs. -/
namespace Go.Proofs.Ytcigobiolbojhaa.Vb
open Go.RowKit

theorem Sl.keep' {w w' : World} {B n sz : Nat} {v : Value} {xs : List Value} (h : Sl w (· < B) v n sz xs) (hb : Below B w w') : Sl w' (· < B) v n sz xs := h.below hb (fun _ _ hb => hb)
theorem Buys.keep' {w w' : World} {B : Nat} {v : Value} {bs : List (List Off)} (h : Buys w (· < B) v bs) (hb : Below B w w') : Buys w' (· < B) v bs := by
  obtain ⟨vs, hs, ho⟩ := h
  exact ⟨vs, hs.keep' hb, fun k l hk => let ⟨u, hu, hl⟩ := ho k l hk; ⟨u, hu, hl.1.keep' hb, hl.2⟩⟩
theorem two_blk {w w1 : World} {cs ds : Array Value} {t u : TypeId} (hb : Below (w.heap.size + 2) ((w.alloc (.cells cs t)).alloc (.cells ds u)) w1) : Blk w1 w.heap.size t cs ∧ Blk w1 (w.heap.size + 1) u ds :=
  ⟨((Blk.new w t cs).alloc _).below hb (by omega), by
    have := Blk.new (w.alloc (.cells cs t)) u ds
    rw [World.size_alloc] at this
    exact this.below hb (by omega)⟩
theorem one_blk {w w1 : World} {cs : Array Value} {t : TypeId} (hb : Below (w.heap.size + 1) (w.alloc (.cells cs t)) w1) : Blk w1 w.heap.size t cs := (Blk.new w t cs).below hb (by omega)

set_option maxHeartbeats 1600000 in
theorem lost_ok (n : Int) (bs : List (List Off)) (v : Value) (R : Nat → Prop) (w : World) (hl : Buys w R v bs) (hi : instE n bs = 0) :
    Calls Try.prog 84 #[.agg #[.int .i64 n, v]] w fun e w' => ∃ A' cap' b5 b1 b2 mm, e = .returned (.tuple #[.agg #[.slice A' bs.length cap', .int .i64 (W bs (allOf n))], .func (.func 118) #[] #[.pointer (some ⟨b5, 0, none⟩), .pointer (some ⟨b1, 0, none⟩), .pointer (some ⟨b2, 0, none⟩)], .int .i64 0]) ∧
      w'.ownsRow w.heap.size 3 1 (.slice A' bs.length cap') bs.length (ints (bestC n bs)) ∧ LostAt w' w.heap.size b5 b1 b2 mm n v bs ∧ w.heap.size ≤ mm ∧ Below w.heap.size w w' := by
  obtain ⟨vs, ⟨_, A, cap, rfl, _⟩, _⟩ := id hl
  have HB := Lib.hid hl
  have HI := Lib.hid hi
  have hmm := @run_makeMap Try.prog
  clear hl hi
  go_enter Try.func84, Try.ntmps84
  go_wp2_with (go_at_call 31; refine (best_ok n bs _ R _ ((HB.out.alloc _).alloc _) HI.out).mono ?_; rintro e w1 ⟨A1, cap1, rfl, hown1, hb1⟩; have hb1a := hb1.mono (B' := w.heap.size + 2) (by simp); obtain ⟨c0, c1, y0, y1, fx, fy, hs1, hbw⟩ := two_new hb1a; have hk := (((two_blk hb1a).2.set_ 0 (.slice A1 bs.length cap1)).set_ 1 (.int .i64 (W bs (allOf n)))); simp at hk; have q0 := fun o o' => (((hk.alloc o).alloc o').cell 0); have q1 := fun o o' => (((hk.alloc o).alloc o').cell 1); have q2 := fun o o' i => (((hk.alloc o).alloc o').frozen i); simp at q0 q1; have HK := Lib.hid hk; have HX := Lib.hid (two_blk hb1a).1; have HO1 := Lib.hid hown1; clear hk; have HB1 := Lib.hid hbw; clear hown1 hb1 hb1a hbw)
  refine bodyPost_ret (v := .tuple #[.agg #[.slice A1 bs.length cap1, .int .i64 (W bs (allOf n))], .func (.func 118) #[] #[.pointer (some ⟨w1.heap.size + 1, 0, none⟩), .pointer (some ⟨w.heap.size, 0, none⟩), .pointer (some ⟨w.heap.size + 1, 0, none⟩)], .int .i64 0]) (by simp [results, Try.results84, go_sem, q0, q1]) rfl ⟨A1, cap1, w1.heap.size + 1, w.heap.size, w.heap.size + 1, w1.heap.size, rfl, ?_, ?_, by omega, ?_⟩
  · have h2 := ((ownsRow_setCell_below (ownsRow_setCell_below HO1.out (a := ⟨w.heap.size + 1, 0, none⟩) (by simp) (.slice A1 bs.length cap1)) (a := ⟨w.heap.size + 1, 1, none⟩) (by simp) (.int .i64 (W bs (allOf n)))).alloc (.map #[] 0)).alloc (.cells #[.map (some w1.heap.size)] 181)
    exact own_mono (ownsRow_setCell_below (ownsRow_setCell_below h2 (a := ⟨w.heap.size + 1, 0, none⟩) (by simp) _) (a := ⟨w.heap.size + 1, 1, none⟩) (by simp) _) (by simp; omega)
  · have hs2 : ((w1.setCell ⟨w.heap.size + 1, 0, none⟩ (.slice A1 bs.length cap1)).setCell ⟨w.heap.size + 1, 1, none⟩ (.int .i64 (W bs (allOf n)))).heap.size = w1.heap.size := by simp [World.setCell]
    have hx := ((HX.out.far (p := ⟨w.heap.size + 1, 0, none⟩) (by simp) (.slice A1 bs.length cap1)).far (p := ⟨w.heap.size + 1, 1, none⟩) (by simp) (.int .i64 (W bs (allOf n))))
    have hm : MapG Try.prog 3 2 (((w1.setCell ⟨w.heap.size + 1, 0, none⟩ (.slice A1 bs.length cap1)).setCell ⟨w.heap.size + 1, 1, none⟩ (.int .i64 (W bs (allOf n)))).alloc (.map #[] 0)) w1.heap.size (KnownL n bs) := by
      have := MapG.made (P := Try.prog) (kt := 3) (et := 2) (Good := KnownL n bs) ((w1.setCell ⟨w.heap.size + 1, 0, none⟩ (.slice A1 bs.length cap1)).setCell ⟨w.heap.size + 1, 1, none⟩ (.int .i64 (W bs (allOf n))))
      rwa [hs2] at this
    have h5 := Blk.new (((w1.setCell ⟨w.heap.size + 1, 0, none⟩ (.slice A1 bs.length cap1)).setCell ⟨w.heap.size + 1, 1, none⟩ (.int .i64 (W bs (allOf n)))).alloc (.map #[] 0)) 181 #[.map (some w1.heap.size)]
    rw [World.size_alloc, hs2] at h5
    have hbuy := (buys_lt HB.out (Nat.le_refl _)).grow HB1.out
    have hbl : Below w.heap.size w1 ((((w1.setCell ⟨w.heap.size + 1, 0, none⟩ (.slice A1 bs.length cap1)).setCell ⟨w.heap.size + 1, 1, none⟩ (.int .i64 (W bs (allOf n)))).alloc (.map #[] 0)).alloc (.cells #[.map (some w1.heap.size)] 181)) :=
      ((((Below.refl _ _).setCell (p := ⟨w.heap.size + 1, 0, none⟩) (by simp) _).setCell (p := ⟨w.heap.size + 1, 1, none⟩) (by simp) _).alloc (by rw [hs2]; omega) _).alloc (by rw [World.size_alloc, hs2]; omega) _
    have hbf : Below w.heap.size w1 (((((((w1.setCell ⟨w.heap.size + 1, 0, none⟩ (.slice A1 bs.length cap1)).setCell ⟨w.heap.size + 1, 1, none⟩ (.int .i64 (W bs (allOf n)))).alloc (.map #[] 0)).alloc (.cells #[.map (some w1.heap.size)] 181)).setCell ⟨w.heap.size + 1, 0, none⟩ (.slice A1 bs.length cap1)).setCell ⟨w.heap.size + 1, 1, none⟩ (.int .i64 (W bs (allOf n))))) :=
      (hbl.setCell (p := ⟨w.heap.size + 1, 0, none⟩) (by simp) _).setCell (p := ⟨w.heap.size + 1, 1, none⟩) (by simp) _
    have hK := ((((HK.out.alloc (.map #[] 0)).alloc (.cells #[.map (some w1.heap.size)] 181)).set_ 0 (.slice A1 bs.length cap1)).set_ 1 (.int .i64 (W bs (allOf n))))
    have hX := (((hx.alloc (.map #[] 0)).alloc (.cells #[.map (some w1.heap.size)] 181)).far (p := ⟨w.heap.size + 1, 0, none⟩) (by simp) (.slice A1 bs.length cap1)).far (p := ⟨w.heap.size + 1, 1, none⟩) (by simp) (.int .i64 (W bs (allOf n)))
    have hM := ((hm.alloc (.cells #[.map (some w1.heap.size)] 181)).setCell (p := ⟨w.heap.size + 1, 0, none⟩) (by simp; omega) (.slice A1 bs.length cap1)).setCell (p := ⟨w.heap.size + 1, 1, none⟩) (by simp; omega) (.int .i64 (W bs (allOf n)))
    have h5' := (h5.far (p := ⟨w.heap.size + 1, 0, none⟩) (by simp; omega) (.slice A1 bs.length cap1)).far (p := ⟨w.heap.size + 1, 1, none⟩) (by simp; omega) (.int .i64 (W bs (allOf n)))
    exact ⟨h5'.cell 0, hX.cell 0, hX.cell 1, (hK.cell 1).trans (by simp), hbuy.keep' hbf, by omega, hM, HI.out⟩
  · have hs2 : ((w1.setCell ⟨w.heap.size + 1, 0, none⟩ (.slice A1 bs.length cap1)).setCell ⟨w.heap.size + 1, 1, none⟩ (.int .i64 (W bs (allOf n)))).heap.size = w1.heap.size := by simp [World.setCell]
    exact HB1.out.trans ((((((((Below.refl _ _).setCell (p := ⟨w.heap.size + 1, 0, none⟩) (by simp) _).setCell (p := ⟨w.heap.size + 1, 1, none⟩) (by simp) _).alloc (by rw [hs2]; omega) _).alloc (by rw [World.size_alloc, hs2]; omega) _).setCell (p := ⟨w.heap.size + 1, 0, none⟩) (by simp) _).setCell (p := ⟨w.heap.size + 1, 1, none⟩) (by simp) _))
end Go.Proofs.Ytcigobiolbojhaa.Vb

/- vcg.Costs. -/
namespace Go.Proofs.Ytcigobiolbojhaa.Vb
open Go.RowKit

set_option maxHeartbeats 800000 in
theorem lost_err (n : Int) (bs : List (List Off)) (v : Value) (R : Nat → Prop) (w : World) (hl : Buys w R v bs) (hi : instE n bs ≠ 0) :
    Calls Try.prog 84 #[.agg #[.int .i64 n, v]] w fun e w' => e = .returned (.tuple #[.agg #[.slice none 0 0, .int .i64 0], .nilFunc, .int .i64 (instE n bs)]) ∧ Below w.heap.size w w' := by
  obtain ⟨vs, ⟨_, A, cap, rfl, _⟩, _⟩ := id hl
  have HB := Lib.hid hl
  have hcb : (instE n bs != 0) = true := by simpa using hi
  have HI := Lib.hid hi
  clear hl hi
  go_enter Try.func84, Try.ntmps84
  go_wp2_with (go_at_call 31; refine (best_err n bs _ R _ ((HB.out.alloc _).alloc _) HI.out).mono ?_; rintro e w1 ⟨rfl, hb1⟩; have hb1a := hb1.mono (B' := w.heap.size + 2) (by simp); obtain ⟨c0, c1, y0, y1, fx, fy, hs1, hbw⟩ := two_new hb1a; have HK := Lib.hid (two_blk hb1a).2; have HB1 := Lib.hid hbw; clear hb1 hb1a hbw)
  have hk := (((HK.out.set_ 0 (.slice none 0 0)).set_ 1 (.int .i64 0)).set_ 0 (.slice none 0 0)).set_ 1 (.int .i64 0)
  have q0 := hk.cell 0
  have q1 := hk.cell 1
  simp at q0 q1
  refine bodyPost_ret (v := .tuple #[.agg #[.slice none 0 0, .int .i64 0], .nilFunc, .int .i64 (instE n bs)]) (by simp [results, Try.results84, go_sem, q0, q1]) rfl ⟨rfl, ?_⟩
  exact (((HB1.out.setCell (p := ⟨w.heap.size + 1, 0, none⟩) (by simp) _).setCell (p := ⟨w.heap.size + 1, 1, none⟩) (by simp) _).setCell (p := ⟨w.heap.size + 1, 0, none⟩) (by simp) _).setCell (p := ⟨w.heap.size + 1, 1, none⟩) (by simp) _

/-- each number of the best choice is an offer's, or -1 -/
theorem pickAt_get (g : Nat → Int) (f : Nat) (left : Int) : ∀ (l : List Off) (p : Nat × Nat), pickAt g f left l = some p → ∃ o, l[p.1]? = some o ∧ o.g = p.2 ∧ pickB g f left o = true
  | [], p, h => by simp [pickAt] at h
  | o :: l, p, h => by
    unfold pickAt at h
    split at h
    · rename_i hb
      injection h with h
      subst h
      exact ⟨o, rfl, rfl, hb⟩
    · rw [Option.map_eq_some_iff] at h
      obtain ⟨q, hq, rfl⟩ := h
      obtain ⟨o', h1, h2, h3⟩ := pickAt_get g f left l q hq
      exact ⟨o', by simpa using h1, h2, h3⟩
theorem choose_get : ∀ (bs : List (List Off)) (f : Nat) (i : Nat) (c : Int), (choose bs f)[i]? = some c → c = -1 ∨ ∃ (j : Nat) (l : List Off) (o : Off), c = (j : Int) ∧ bs[i]? = some l ∧ l[j]? = some o
  | [], f, i, c, h => by simp [choose] at h
  | l :: bs, f, 0, c, h => by
    simp only [choose, List.getElem?_cons_zero, Option.some.injEq] at h
    unfold pickN at h
    cases hp : pickAt (W bs) f (W (l :: bs) f) l with
    | none => rw [hp] at h; exact .inl h.symm
    | some p =>
      rw [hp] at h
      obtain ⟨o, ho, _, _⟩ := pickAt_get _ _ _ _ _ hp
      exact .inr ⟨p.1, l, o, h.symm, rfl, ho⟩
  | l :: bs, f, i + 1, c, h => by
    simp only [choose, List.getElem?_cons_succ] at h
    exact choose_get bs _ i c h

/-- the coins of what a buyer wins -/
def coinAt (bs : List (List Off)) (i : Nat) (c : Int) : Int := if c < 0 then 0 else (((bs[i]?).getD [])[c.toNat]?.map (·.c)).getD 0
def payAt (n : Int) (bs : List (List Off)) (i : Nat) (c : Int) : Int := if c < 0 then 0 else coinAt bs i c - (W bs (allOf n) - woW n bs i)
/-- what each buyer pays -/
def paysC (n : Int) (bs : List (List Off)) : List Int := (bestC n bs).mapIdx fun i c => payAt n bs i c
theorem paysC_length (n : Int) (bs : List (List Off)) : (paysC n bs).length = bs.length := by simp [paysC, bestC, choose_length]
theorem paysC_get {n : Int} {bs : List (List Off)} {i : Nat} {c : Int} (h : (bestC n bs)[i]? = some c) : (paysC n bs)[i]? = some (payAt n bs i c) := by simp [paysC, h]

theorem own_far {w w' : World} {base : Nat} {e : TypeId} {sz n : Nat} {v : Value} {xs : List Value} {row : Option Nat} (h : w.ownsRow base e sz v n xs) (hg : w.grownBy w' row) (hr : ∀ g, row = some g → v.ownBlock ≠ some g) : w'.ownsRow base e sz v n xs := by
  refine h.kept hg ?_
  cases hv : v.ownBlock with
  | none => exact .inl rfl
  | some g => exact .inr fun e => hr g e.symm hv
theorem own_ne {w : World} {base base' : Nat} {e e' : TypeId} {sz sz' n n' : Nat} {v v' : Value} {xs xs' : List Value} (h : w.ownsRow base e sz v n xs) (h' : w.ownsRow base' e' sz' v' n' xs') (he : e ≠ e') {g : Nat} (hg : v.ownBlock = some g) : v'.ownBlock ≠ some g := by
  intro hg'
  rcases h.2 with ⟨rfl, _⟩ | ⟨g1, cap1, cur1, rfl, _, h1, _⟩
  · simp [Value.ownBlock] at hg
  · rcases h'.2 with ⟨rfl, _⟩ | ⟨g2, cap2, cur2, rfl, _, h2, _⟩
    · simp [Value.ownBlock] at hg'
    · simp [Value.ownBlock] at hg hg'
      subst hg hg'
      rw [h1] at h2
      injection h2 with h2
      injection h2 with _ h2
      exact he h2
theorem own_ne_blk {w : World} {base : Nat} {e t : TypeId} {sz n g : Nat} {v : Value} {xs : List Value} {cs : Array Value} (h : w.ownsRow base e sz v n xs) (hb : Blk w g t cs) (he : e ≠ t) : v.ownBlock ≠ some g := by
  intro hg
  rcases h.2 with ⟨rfl, _⟩ | ⟨g1, cap1, cur1, rfl, _, h1, _⟩
  · simp [Value.ownBlock] at hg
  · simp [Value.ownBlock] at hg
    subst hg
    unfold Blk at hb
    rw [h1] at hb
    injection hb with hb
    injection hb with _ hb
    exact he hb
theorem own_ne_map {P : Program} {kt et : TypeId} {w : World} {base : Nat} {e : TypeId} {sz n b : Nat} {v : Value} {xs : List Value} {Good : Value → Value → Prop} (h : w.ownsRow base e sz v n xs) (hm : MapG P kt et w b Good) : v.ownBlock ≠ some b := by
  intro hg
  rcases h.2 with ⟨rfl, _⟩ | ⟨g1, cap1, cur1, rfl, _, h1, _⟩
  · simp [Value.ownBlock] at hg
  · simp [Value.ownBlock] at hg
    subst hg
    obtain ⟨es, clock, h2, _⟩ := hm
    rw [h1] at h2
    cases h2

set_option maxRecDepth 100000 in
set_option maxHeartbeats 3200000 in
theorem costs_ok (n : Int) (bs : List (List Off)) (v : Value) (R : Nat → Prop) (w : World) (hl : Buys w R v bs) (hi : instE n bs = 0) :
    Calls Try.prog 21 #[.agg #[.int .i64 n, v]] w fun e w' => ∃ A1 c1 A2 c2, e = .returned (.tuple #[.agg #[.slice A1 bs.length c1, .int .i64 (W bs (allOf n)), .slice A2 bs.length c2], .int .i64 0]) ∧
      w'.ownsRow w.heap.size 3 1 (.slice A1 bs.length c1) bs.length (ints (bestC n bs)) ∧ w'.ownsRow w.heap.size 2 1 (.slice A2 bs.length c2) bs.length (ints (paysC n bs)) ∧ Below w.heap.size w w' := by
  obtain ⟨vs, ⟨_, A, cap, rfl, hnc, hcm, hcs⟩, hvs⟩ := id hl
  have HB := Lib.hid hl
  have HI := Lib.hid hi
  have HCS := Lib.hid hcs
  have HVS := Lib.hid hvs
  have hl32 := (instE_zero hi).2.2.1
  have HWF := Lib.hid (buys_wf hl)
  clear hl hi hcs hvs hcm
  go_enter Try.func21, Try.ntmps21
  go_wp2_with (go_at_call 84; refine (lost_ok n bs _ R _ ((HB.out.alloc _).alloc _) HI.out).mono ?_; rintro e w1 ⟨AC, cC, b5, b1, b2, mm, rfl, hown1, hlo1, hmm1, hb1⟩; have hb1a := hb1.mono (B' := w.heap.size + 2) (by simp); have hX := (two_blk hb1a).1; have hR := (two_blk hb1a).2; have hs1 := hb1a.size; simp at hs1; simp at hmm1; have HX := Lib.hid hX; have HR := Lib.hid hR; have HO1 := Lib.hid hown1; have HL1 := Lib.hid hlo1; have HB1 := Lib.hid hb1a; clear hown1 hlo1 hb1 hb1a hX hR)
  have hP0 : Blk ((w1.alloc (.cells #[.slice AC bs.length cC, .int .i64 (W bs (allOf n))] 66)).alloc (.cells #[.slice AC bs.length cC, .int .i64 (W bs (allOf n)), .slice none 0 0] 36)) (w1.heap.size + 1) 36 #[.slice AC bs.length cC, .int .i64 (W bs (allOf n)), .slice none 0 0] := by
    have := Blk.new (w1.alloc (.cells #[.slice AC bs.length cC, .int .i64 (W bs (allOf n))] 66)) 36 #[.slice AC bs.length cC, .int .i64 (W bs (allOf n)), .slice none 0 0]
    rwa [World.size_alloc] at this
  have hlt5 := World.block_lt_of_cell? _ _ HL1.out.c5
  have hltb := World.block_lt_of_cell? _ _ HL1.out.x0
  have hltc := World.block_lt_of_cell? _ _ HL1.out.w1
  have hltm := HL1.out.map.lt
  simp only at hlt5 hltb hltc
  go_loopw [29] (fun i wr => ∃ (k : Nat) (A' : Option Addr) (cap' : Nat), k ≤ bs.length ∧ i = .int .i64 k ∧ LostAt wr (w.heap.size + 2) b5 b1 b2 mm n (.slice A bs.length cap) bs ∧
      Blk wr (w1.heap.size + 1) 36 #[.slice AC bs.length cC, .int .i64 (W bs (allOf n)), .slice A' k cap'] ∧ wr.ownsRow (w1.heap.size + 2) 2 1 (.slice A' k cap') k (ints ((paysC n bs).take k)) ∧
      wr.ownsRow (w.heap.size + 2) 3 1 (.slice AC bs.length cC) bs.length (ints (bestC n bs)) ∧ Blk wr w.heap.size 24 #[.int .i64 n, .slice A bs.length cap] ∧
      Blk wr (w.heap.size + 1) 36 #[.slice none 0 0, .int .i64 0, .slice none 0 0] ∧ Below w.heap.size w wr ∧ w1.heap.size + 2 ≤ wr.heap.size)
    (fun i _ => bs.length - (intOf i).toNat)
  case atStart =>
    refine ⟨0, none, 0, Nat.zero_le _, rfl, ?_, hP0, World.ownsRow_nil _ _ _ _, ?_, (HX.out.alloc _).alloc _, (HR.out.alloc _).alloc _, ?_, by simp⟩
    · simpa using (HL1.out.alloc _).alloc _
    · simpa using (HO1.out.alloc _).alloc _
    · exact ((((((Below.refl _ _).alloc (Nat.le_refl _) _).alloc (by simp) _).trans (HB1.out.mono (by omega))).alloc (by omega) _).alloc (by simp; omega) _)
  case round =>
    obtain ⟨k, A', cap', hk, rfl, hlo, hP, hown, hch, hX, hR, hbw, hsz⟩ := hrel
    have HLO := Lib.hid hlo
    have HP := Lib.hid hP
    have HO := Lib.hid hown
    have HC := Lib.hid hch
    have HX2 := Lib.hid hX
    have HR2 := Lib.hid hR
    have HBW := Lib.hid hbw
    clear hP0
    by_cases hlt : k < bs.length
    · obtain ⟨c, hc⟩ : ∃ c, (bestC n bs)[k]? = some c := ⟨_, List.getElem?_eq_getElem (by rw [bestC, choose_length]; exact hlt)⟩
      have hpg := paysC_get hc
      obtain ⟨gC, capC, hAC, hgC, hgC2⟩ := World.ownsRow.form hch (by omega)
      injection hAC with hAC _ hcC
      subst hAC hcC
      have hcc : wr.cell? ⟨gC, k, none⟩ = some (.int .i64 c) := by
        have h1 := hch.cellAt k (by omega)
        rw [h1]
        simp [ints, hc]
      rcases choose_get bs (allOf n) k c hc with rfl | ⟨j, l, o, rfl, hl, ho⟩
      · have hpay : payAt n bs k (-1) = 0 := rfl
        rw [hpay] at hpg
        have HPG := Lib.hid hpg
        clear hlo hP hown hch hX hR hbw hpg hc hpay
        have g2 : wr.cell? ⟨w1.heap.size + 1, 2, none⟩ = some (.slice A' k cap') := (HP.out.cell 2)
        have g2a := cellAlloc g2 (.cells #[.int .i64 0] 2)
        have hszt : w1.heap.size + 2 ≤ wr.heap.size := hsz
        go_wp2_with (at_builtin; refine wpList_app _ rfl (.tmp 50) (.tmp 52) et_i64 rfl (w1.heap.size + 2) (.slice A' k cap') k (ints ((paysC n bs).take k)) rfl (HO.out.alloc _) _ _ 1 _ rfl (Sl.new wr #[.int .i64 0] _ 1 1 (by unfold maxLen; omega) rfl) (by simp [Value.oneCell']) (by omega) (by unfold maxLen; omega) (by simp; omega) ?_; intro A3 cap3 w3 hown3 hg3 hloc3; have hb3 : Blk w3 (w1.heap.size + 1) 36 #[.slice (some ⟨gC, 0, none⟩) bs.length cC, .int .i64 (W bs (allOf n)), .slice A' k cap'] := (HP.out.alloc _).grown hg3 (fun e => by have := (HO.out.lt _ e.symm).1; omega); have k0 : w3.cell? ⟨w1.heap.size + 1, 2, none⟩ = some (.slice A' k cap') := hb3.cell 2; have k1 := hb3.frozen 2; have HB3 := Lib.hid hb3; have HG3 := Lib.hid hg3; have HO3 := Lib.hid hown3; clear hb3 hg3 hown3 hloc3)
        go_roundw
        case rel =>
          have hro : ∀ g, (Value.slice A' k cap').ownBlock = some g → w1.heap.size + 2 ≤ g := fun g e => (HO.out.lt g e).1
          have hs3 := HG3.out.size
          simp at hs3
          refine ⟨k + 1, A3, cap3, by omega, by go_num, ?_, HB3.out.set_ 2 _, ?_, ?_, ?_, ?_, ?_, by simp [World.setCell]; omega⟩
          · exact ((HLO.out.alloc _).far HG3.out (fun g e => by have := hro g e; omega)).far (grownBy_setCell _ ⟨w1.heap.size + 1, 2, none⟩ _) (fun g e => by simp at e; omega)
          · have h1 := ownsRow_setCell_below HO3.out (a := ⟨w1.heap.size + 1, 2, none⟩) (by simp) (.slice A3 (k + 1) cap3)
            rw [List.take_add_one, HPG.out]
            simpa [ints] using h1
          · have h1 := own_far (HC.out.alloc (.cells #[.int .i64 0] 2)) HG3.out (fun g e => own_ne (HO.out.alloc (.cells #[.int .i64 0] 2)) (HC.out.alloc (.cells #[.int .i64 0] 2)) (by decide) e)
            exact own_far h1 (grownBy_setCell _ ⟨w1.heap.size + 1, 2, none⟩ _) (fun g e => by simp at e; subst e; exact own_ne_blk h1 HB3.out (by decide))
          · exact (((HX2.out.alloc _).grown HG3.out (fun e => by have := hro _ e.symm; omega)).far (p := ⟨w1.heap.size + 1, 2, none⟩) (by simp; omega) _)
          · exact (((HR2.out.alloc _).grown HG3.out (fun e => by have := hro _ e.symm; omega)).far (p := ⟨w1.heap.size + 1, 2, none⟩) (by simp; omega) _)
          · exact ((HBW.out.alloc (by omega) _).grown HG3.out (by simp; omega) (fun g e => by have := hro g e; omega)).setCell (p := ⟨w1.heap.size + 1, 2, none⟩) (by simp; omega) _
        case measure => simp [intOf]; omega
      · have HPG := Lib.hid hpg
        obtain ⟨hw0, hw1⟩ := woW_bd HWF.out HI.out k
        have hok := (okb_of HWF.out HI.out).1
        have hW0 := W_nonneg bs (allOf n)
        have hW1 : W bs (allOf n) ≤ 35184372088832 := by simpa using hok.W_le 0 (allOf n)
        obtain ⟨ho1, ho2, ho3, ho4⟩ := hok.offer hl ho
        have hpay : payAt n bs k (j : Int) = o.c - (W bs (allOf n) - woW n bs k) := by
          unfold payAt coinAt
          rw [if_neg (by omega), if_neg (by omega), hl]
          simp [ho]
        have hl8 := hok.len hl
        have hjl : j < l.length := (List.getElem?_eq_some_iff.1 ho).1
        obtain ⟨bq, off, rfl, _, hbq, hcs⟩ := HCS.out (by omega)
        obtain ⟨u, hu, hol⟩ := HVS.out k l hl
        have cl := (hbw.cell hbq).trans (hcs k u hu)
        obtain ⟨⟨_, A1, cap1, rfl, hnc1, _, hcs1⟩, _⟩ := hol
        obtain ⟨b1', off1, rfl, _, hb1', hcs1⟩ := hcs1 (by omega)
        have co : wr.cell? ⟨b1', off1 + j * 2 + 1, none⟩ = some (.int .i64 o.c) := (hbw.cell hb1').trans (hcs1 _ _ (Off.all_snd l j o ho))
        have cx : wr.cell? ⟨w.heap.size, 1, none⟩ = some (.slice (some ⟨bq, off, none⟩) bs.length cap) := hX.cell 1
        have hsub : IntKind.i64.wrap (o.c - (W bs (allOf n) - woW n bs k)) = o.c - (W bs (allOf n) - woW n bs k) := IntWalk.i64_in _ (by omega)
        have hk0 : (0 : Int) ≤ (k : Int) := by omega
        have hk1 : (k : Int) < (bs.length : Int) := by omega
        have hj0 : (0 : Int) ≤ (j : Int) := by omega
        have hj1 : (j : Int) < (l.length : Int) := by omega
        have HPAY := Lib.hid hpay
        have HCX := Lib.hid cx
        have HCL := Lib.hid cl
        have HCO := Lib.hid co
        clear hlo hP hown hch hX hR hbw hpg hc hpay hcs hcs1 hu hl ho
        go_wp2_with fail
        go_region_held3 (fun w' => w'.cell? ⟨w.heap.size, 1, none⟩ = some (.slice (some ⟨bq, off, none⟩) bs.length cap) ∧ w'.cell? ⟨bq, off + k, none⟩ = some (.slice (some ⟨b1', off1, none⟩) l.length cap1) ∧ w'.cell? ⟨b1', off1 + j * 2 + 1, none⟩ = some (.int .i64 o.c)) (go_keep)
          ((go_at_call 118; refine (each_any _ b5 b1 b2 mm n _ bs k hlt _ HLO.out.drew).mono ?_; rintro e w5 ⟨rfl, hl5, hg5⟩; have z0 := HLO.out.drew.keep hg5 (show wr.drew.cell? _ = _ from HCX.out); have z1 := HLO.out.drew.keep hg5 (show wr.drew.cell? _ = _ from HCL.out); have z2 := HLO.out.drew.keep hg5 (show wr.drew.cell? _ = _ from HCO.out); have z3 := HLO.out.drew.keep hg5 (show wr.drew.cell? _ = _ from hcc)))
        have hsz5 : w1.heap.size + 2 ≤ w5.heap.size := Nat.le_trans hsz hg5.size
        have HL5 := Lib.hid hl5
        have HP5 := Lib.hid (HP.out.drew.grown hg5 (fun e => by injection e with e; omega))
        have HO5 := Lib.hid (own_far (show wr.drew.ownsRow _ _ _ _ _ _ from HO.out) hg5 (fun g e => by injection e with e; subst e; exact own_ne_map HO.out HLO.out.map))
        have HC5 := Lib.hid (own_far (show wr.drew.ownsRow _ _ _ _ _ _ from HC.out) hg5 (fun g e => by injection e with e; subst e; exact own_ne_map HC.out HLO.out.map))
        have HX5 := Lib.hid (HX2.out.drew.grown hg5 (fun e => by injection e with e; omega))
        have HR5 := Lib.hid (HR2.out.drew.grown hg5 (fun e => by injection e with e; omega))
        have HB5 := Lib.hid (HBW.out.drew.grown hg5 (by have := HBW.out.size; simpa using this) (fun g e => by injection e with e; omega))
        rw [HPAY.out] at HPG
        clear hl5 hg5 hsub
        have g2 : w5.cell? ⟨w1.heap.size + 1, 2, none⟩ = some (.slice A' k cap') := (HP5.out.cell 2)
        have g2a := cellAlloc g2 (.cells #[.int .i64 (o.c - (W bs (allOf n) - woW n bs k))] 2)
        have hszt : w1.heap.size + 2 ≤ w5.heap.size := hsz5
        go_wp2_with (at_builtin; refine wpList_app _ rfl (.tmp 50) (.tmp 52) et_i64 rfl (w1.heap.size + 2) (.slice A' k cap') k (ints ((paysC n bs).take k)) rfl (HO5.out.alloc _) _ _ 1 _ rfl (Sl.new w5 #[.int .i64 (o.c - (W bs (allOf n) - woW n bs k))] _ 1 1 (by unfold maxLen; omega) rfl) (by simp [Value.oneCell']) (by omega) (by unfold maxLen; omega) (by simp; omega) ?_; intro A3 cap3 w3 hown3 hg3 hloc3; have hb3 : Blk w3 (w1.heap.size + 1) 36 #[.slice (some ⟨gC, 0, none⟩) bs.length cC, .int .i64 (W bs (allOf n)), .slice A' k cap'] := (HP5.out.alloc _).grown hg3 (fun e => by have := (HO5.out.lt _ e.symm).1; omega); have k0 : w3.cell? ⟨w1.heap.size + 1, 2, none⟩ = some (.slice A' k cap') := hb3.cell 2; have k1 := hb3.frozen 2; have HB3 := Lib.hid hb3; have HG3 := Lib.hid hg3; have HO3 := Lib.hid hown3; clear hb3 hg3 hown3 hloc3)
        go_roundw
        case rel =>
          have hro : ∀ g, (Value.slice A' k cap').ownBlock = some g → w1.heap.size + 2 ≤ g := fun g e => (HO5.out.lt g e).1
          have hs3 := HG3.out.size
          simp at hs3
          refine ⟨k + 1, A3, cap3, by omega, by go_num, ?_, HB3.out.set_ 2 _, ?_, ?_, ?_, ?_, ?_, by simp [World.setCell]; omega⟩
          · exact ((HL5.out.alloc _).far HG3.out (fun g e => by have := hro g e; omega)).far (grownBy_setCell _ ⟨w1.heap.size + 1, 2, none⟩ _) (fun g e => by simp at e; omega)
          · have h1 := ownsRow_setCell_below HO3.out (a := ⟨w1.heap.size + 1, 2, none⟩) (by simp) (.slice A3 (k + 1) cap3)
            rw [List.take_add_one, HPG.out]
            simpa [ints] using h1
          · have h1 := own_far (HC5.out.alloc (.cells #[.int .i64 (o.c - (W bs (allOf n) - woW n bs k))] 2)) HG3.out (fun g e => own_ne (HO5.out.alloc (.cells #[.int .i64 (o.c - (W bs (allOf n) - woW n bs k))] 2)) (HC5.out.alloc (.cells #[.int .i64 (o.c - (W bs (allOf n) - woW n bs k))] 2)) (by decide) e)
            exact own_far h1 (grownBy_setCell _ ⟨w1.heap.size + 1, 2, none⟩ _) (fun g e => by simp at e; subst e; exact own_ne_blk h1 HB3.out (by decide))
          · exact (((HX5.out.alloc _).grown HG3.out (fun e => by have := hro _ e.symm; omega)).far (p := ⟨w1.heap.size + 1, 2, none⟩) (by simp; omega) _)
          · exact (((HR5.out.alloc _).grown HG3.out (fun e => by have := hro _ e.symm; omega)).far (p := ⟨w1.heap.size + 1, 2, none⟩) (by simp; omega) _)
          · exact ((HB5.out.alloc (by omega) _).grown HG3.out (by simp; omega) (fun g e => by have := hro g e; omega)).setCell (p := ⟨w1.heap.size + 1, 2, none⟩) (by simp; omega) _
        case measure => simp [intOf]; omega
    · obtain rfl : k = bs.length := by omega
      have p0 := hP.cell 0
      have p1 := hP.cell 1
      have p2 := hP.cell 2
      have r0 := hR.cell 0
      have r1 := hR.cell 1
      have r2 := hR.cell 2
      have rf := hR.frozen
      simp at p0 p1 p2 r0 r1 r2
      have htk : (paysC n bs).take bs.length = paysC n bs := List.take_of_length_le (by rw [paysC_length]; exact Nat.le_refl _)
      rw [htk] at hown
      have HO := Lib.hid hown
      clear hlo hP hown hch hX hbw htk
      have hq := ((HR2.out.set_ 0 (.slice AC bs.length cC)).set_ 1 (.int .i64 (W bs (allOf n)))).set_ 2 (.slice A' bs.length cap')
      have q0 := hq.cell 0
      have q1 := hq.cell 1
      have q2 := hq.cell 2
      simp at q0 q1 q2
      clear hq hR
      go_wp2_with fail
      refine bodyPost_ret (v := .tuple #[.agg #[.slice AC bs.length cC, .int .i64 (W bs (allOf n)), .slice A' bs.length cap'], .int .i64 0]) (by simp [results, Try.results21, go_sem, q0, q1, q2]) rfl ⟨AC, cC, A', cap', rfl, ?_, ?_, ?_⟩
      · exact own_mono (ownsRow_setCell_below (ownsRow_setCell_below (ownsRow_setCell_below HC.out (a := ⟨w.heap.size + 1, 0, none⟩) (by simp) _) (a := ⟨w.heap.size + 1, 1, none⟩) (by simp) _) (a := ⟨w.heap.size + 1, 2, none⟩) (by simp) _) (by omega)
      · exact own_mono (ownsRow_setCell_below (ownsRow_setCell_below (ownsRow_setCell_below HO.out (a := ⟨w.heap.size + 1, 0, none⟩) (by simp; omega) _) (a := ⟨w.heap.size + 1, 1, none⟩) (by simp; omega) _) (a := ⟨w.heap.size + 1, 2, none⟩) (by simp; omega) _) (by omega)
      · exact ((HBW.out.setCell (p := ⟨w.heap.size + 1, 0, none⟩) (by simp) _).setCell (p := ⟨w.heap.size + 1, 1, none⟩) (by simp) _).setCell (p := ⟨w.heap.size + 1, 2, none⟩) (by simp) _
end Go.Proofs.Ytcigobiolbojhaa.Vb

/- vcg.Gains, vcg.Pivotal. -/
namespace Go.Proofs.Ytcigobiolbojhaa.Vb
open Go.RowKit

set_option maxHeartbeats 800000 in
theorem costs_err (n : Int) (bs : List (List Off)) (v : Value) (R : Nat → Prop) (w : World) (hl : Buys w R v bs) (hi : instE n bs ≠ 0) :
    Calls Try.prog 21 #[.agg #[.int .i64 n, v]] w fun e w' => e = .returned (.tuple #[.agg #[.slice none 0 0, .int .i64 0, .slice none 0 0], .int .i64 (instE n bs)]) ∧ Below w.heap.size w w' := by
  obtain ⟨vs, ⟨_, A, cap, rfl, _⟩, _⟩ := id hl
  have HB := Lib.hid hl
  have hcb : (instE n bs != 0) = true := by simpa using hi
  have HI := Lib.hid hi
  clear hl hi
  go_enter Try.func21, Try.ntmps21
  go_wp2_with (go_at_call 84; refine (lost_err n bs _ R _ ((HB.out.alloc _).alloc _) HI.out).mono ?_; rintro e w1 ⟨rfl, hb1⟩; have hb1a := hb1.mono (B' := w.heap.size + 2) (by simp); have hR := (two_blk hb1a).2; have r0 := fun o => (hR.alloc o).cell 0; have r1 := fun o => (hR.alloc o).cell 1; have r2 := fun o => (hR.alloc o).cell 2; have rf := fun o => (hR.alloc o).frozen; simp at r0 r1 r2; have hs1 := hb1a.size; simp at hs1; have HR := Lib.hid hR; have HB1 := Lib.hid hb1a; clear hb1 hb1a hR)
  have hq := (((HR.out.alloc (.cells #[.slice none 0 0, .int .i64 0] 66)).set_ 0 (.slice none 0 0)).set_ 1 (.int .i64 0)).set_ 2 (.slice none 0 0)
  have q0 := hq.cell 0
  have q1 := hq.cell 1
  have q2 := hq.cell 2
  simp at q0 q1 q2
  refine bodyPost_ret (v := .tuple #[.agg #[.slice none 0 0, .int .i64 0, .slice none 0 0], .int .i64 (instE n bs)]) (by simp [results, Try.results21, go_sem, q0, q1, q2]) rfl ⟨rfl, ?_⟩
  have h1 : Below w.heap.size w w1 := (((Below.refl _ _).alloc (Nat.le_refl _) _).alloc (by simp) _).trans (HB1.out.mono (by omega))
  exact (((h1.alloc (by omega) _).setCell (p := ⟨w.heap.size + 1, 0, none⟩) (by simp) _).setCell (p := ⟨w.heap.size + 1, 1, none⟩) (by simp) _).setCell (p := ⟨w.heap.size + 1, 2, none⟩) (by simp) _

/-- what each buyer gains -/
def gainAt (n : Int) (bs : List (List Off)) (i : Nat) : Int := W bs (allOf n) - woW n bs i
def gainsC (n : Int) (bs : List (List Off)) : List Int := (List.range bs.length).map (gainAt n bs)
def pivotTo (n : Int) (bs : List (List Off)) (k : Nat) : List Int := ((List.range k).filter fun i => decide (0 < gainAt n bs i)).map fun (i : Nat) => (i : Int)
def pivotC (n : Int) (bs : List (List Off)) : List Int := pivotTo n bs bs.length

theorem take_gains {n : Int} {bs : List (List Off)} {k : Nat} (h : k < bs.length) : (gainsC n bs).take (k + 1) = (gainsC n bs).take k ++ [gainAt n bs k] := by
  rw [List.take_add_one]
  simp [gainsC, h]

theorem one_blk' {w w1 : World} {cs : Array Value} {t : TypeId} (hb : Below (w.alloc (.cells cs t)).heap.size (w.alloc (.cells cs t)) w1) : Blk w1 w.heap.size t cs ∧ w.heap.size + 1 ≤ w1.heap.size ∧ Below w.heap.size w w1 := by
  have hb' := hb.mono (B' := w.heap.size + 1) (by simp)
  have hs := hb.size
  simp at hs
  exact ⟨one_blk hb', hs, ((Below.refl _ _).alloc (Nat.le_refl _) _).trans (hb'.mono (by omega))⟩

set_option maxRecDepth 100000 in
set_option maxHeartbeats 3200000 in
theorem gains_ok (n : Int) (bs : List (List Off)) (v : Value) (R : Nat → Prop) (w : World) (hl : Buys w R v bs) (hi : instE n bs = 0) :
    Calls Try.prog 26 #[.agg #[.int .i64 n, v]] w fun e w' => ∃ A' cap', e = .returned (.tuple #[.slice A' bs.length cap', .int .i64 0]) ∧
      w'.ownsRow w.heap.size 2 1 (.slice A' bs.length cap') bs.length (ints (gainsC n bs)) ∧ Below w.heap.size w w' := by
  obtain ⟨vs, ⟨_, A, cap, rfl, _⟩, _⟩ := id hl
  have HB := Lib.hid hl
  have HI := Lib.hid hi
  have hl32 := (instE_zero hi).2.2.1
  clear hl hi
  go_enter Try.func26, Try.ntmps26
  go_wp2_with (go_at_call 84; refine (lost_ok n bs _ R _ (HB.out.alloc _) HI.out).mono ?_; rintro e w1 ⟨AC, cC, b5, b1, b2, mm, rfl, hown1, hlo1, hmm1, hb1⟩; have hX := (one_blk' hb1).1; have x1 := fun o => (hX.alloc o).cell 1; simp at x1; have HX := Lib.hid hX; have HL1 := Lib.hid hlo1; have HB1 := Lib.hid (one_blk' hb1).2.2; have hs1 := (one_blk' hb1).2.1; simp at hmm1; clear hown1 hlo1 hb1 hX)
  have hlt5 := World.block_lt_of_cell? _ _ HL1.out.c5
  have hltb := World.block_lt_of_cell? _ _ HL1.out.x0
  have hltc := World.block_lt_of_cell? _ _ HL1.out.w1
  have hltm := HL1.out.map.lt
  simp only at hlt5 hltb hltc
  clear x1
  go_loopw [7, 21] (fun s i wr => ∃ (k : Nat) (A' : Option Addr) (cap' : Nat), k ≤ bs.length ∧ i = .int .i64 k ∧ s = .slice A' k cap' ∧ LostAt wr (w.heap.size + 1) b5 b1 b2 mm n (.slice A bs.length cap) bs ∧
      wr.ownsRow (w1.heap.size + 1) 2 1 (.slice A' k cap') k (ints ((gainsC n bs).take k)) ∧ Below w.heap.size w wr ∧ w1.heap.size + 1 ≤ wr.heap.size)
    (fun _ i _ => bs.length - (intOf i).toNat)
  case atStart =>
    refine ⟨0, none, 0, Nat.zero_le _, rfl, rfl, ?_, World.ownsRow_nil _ _ _ _, HB1.out.alloc (by omega) _, by simp⟩
    simpa using HL1.out.alloc _
  case round =>
    obtain ⟨k, A', cap', hk, rfl, rfl, hlo, hown, hbw, hsz⟩ := hrel
    have HLO := Lib.hid hlo
    have HO := Lib.hid hown
    have HBW := Lib.hid hbw
    by_cases hlt : k < bs.length
    · clear hlo hown hbw
      go_wp2_with (first
        | (go_at_call 118; refine (each_any _ b5 b1 b2 mm n _ bs k hlt _ HLO.out).mono ?_; rintro e w5 ⟨rfl, hl5, hg5⟩; have hsz5 : w1.heap.size + 1 ≤ w5.heap.size := Nat.le_trans hsz hg5.size; have HL5 := Lib.hid hl5; have HO5 := Lib.hid (own_far HO.out hg5 (fun g e => by injection e with e; subst e; exact own_ne_map HO.out HLO.out.map)); have HB5 := Lib.hid (HBW.out.grown hg5 (by have := HBW.out.size; simpa using this) (fun g e => by injection e with e; omega)); clear hl5 hg5)
        | (at_builtin; refine wpList_app _ rfl (.tmp 24) (.tmp 28) et_i64 rfl (w1.heap.size + 1) (.slice A' k cap') k (ints ((gainsC n bs).take k)) rfl (HO5.out.alloc _) _ _ 1 _ rfl (Sl.new w5 #[.int .i64 (W bs (allOf n) - woW n bs k)] _ 1 1 (by unfold maxLen; omega) rfl) (by simp [Value.oneCell']) (by omega) (by unfold maxLen; omega) (by simp; omega) ?_; intro A3 cap3 w3 hown3 hg3 hloc3; have HG3 := Lib.hid hg3; have HO3 := Lib.hid hown3; clear hg3 hown3 hloc3))
      go_roundw
      case rel =>
        have hro : ∀ g, (Value.slice A' k cap').ownBlock = some g → w1.heap.size + 1 ≤ g := fun g e => (HO5.out.lt g e).1
        have hs3 := HG3.out.size
        simp at hs3
        refine ⟨k + 1, A3, cap3, by omega, by go_num, rfl, (HL5.out.alloc _).far HG3.out (fun g e => by have := hro g e; omega), ?_, (HB5.out.alloc (by omega) _).grown HG3.out (by simp; omega) (fun g e => by have := hro g e; omega), by omega⟩
        have := HO3.out
        rw [take_gains hlt]
        simpa [ints, gainAt] using this
      case measure => simp [intOf]; omega
    · obtain rfl : k = bs.length := by omega
      have htk : (gainsC n bs).take bs.length = gainsC n bs := List.take_of_length_le (by simp [gainsC])
      rw [htk] at hown
      have HO' := Lib.hid hown
      clear hlo hown hbw htk
      go_wp2_with fail
      go_ret2
      exact ⟨A', cap', rfl, own_mono HO'.out (by omega), HBW.out⟩

set_option maxHeartbeats 800000 in
theorem gains_err (n : Int) (bs : List (List Off)) (v : Value) (R : Nat → Prop) (w : World) (hl : Buys w R v bs) (hi : instE n bs ≠ 0) :
    Calls Try.prog 26 #[.agg #[.int .i64 n, v]] w fun e w' => e = .returned (.tuple #[.slice none 0 0, .int .i64 (instE n bs)]) ∧ Below w.heap.size w w' := by
  obtain ⟨vs, ⟨_, A, cap, rfl, _⟩, _⟩ := id hl
  have HB := Lib.hid hl
  have hcb : (instE n bs != 0) = true := by simpa using hi
  have HI := Lib.hid hi
  clear hl hi
  go_enter Try.func26, Try.ntmps26
  go_wp2_with (go_at_call 84; refine (lost_err n bs _ R _ (HB.out.alloc _) HI.out).mono ?_; rintro e w1 ⟨rfl, hb1⟩; have HB1 := Lib.hid (one_blk' hb1).2.2; clear hb1)
  go_ret2
  exact ⟨rfl, HB1.out.alloc HB1.out.size _⟩

theorem pivotTo_yes {n : Int} {bs : List (List Off)} {k : Nat} (h : 0 < gainAt n bs k) : pivotTo n bs (k + 1) = pivotTo n bs k ++ [(k : Int)] := by
  simp [pivotTo, List.range_succ, List.filter_append, h]
theorem pivotTo_no {n : Int} {bs : List (List Off)} {k : Nat} (h : ¬ 0 < gainAt n bs k) : pivotTo n bs (k + 1) = pivotTo n bs k := by
  have : ¬ (0 < gainAt n bs k) := h
  simp [pivotTo, List.range_succ, List.filter_append, this]
theorem pivotTo_len (n : Int) (bs : List (List Off)) (k : Nat) : (pivotTo n bs k).length ≤ k := by
  have := List.length_filter_le (fun i => decide (0 < gainAt n bs i)) (List.range k)
  simpa [pivotTo] using this

set_option maxRecDepth 100000 in
set_option maxHeartbeats 3200000 in
theorem pivotal_ok (n : Int) (bs : List (List Off)) (v : Value) (R : Nat → Prop) (w : World) (hl : Buys w R v bs) (hi : instE n bs = 0) :
    Calls Try.prog 28 #[.agg #[.int .i64 n, v]] w fun e w' => ∃ A' cap', e = .returned (.tuple #[.slice A' (pivotC n bs).length cap', .int .i64 0]) ∧
      w'.ownsRow w.heap.size 3 1 (.slice A' (pivotC n bs).length cap') (pivotC n bs).length (ints (pivotC n bs)) ∧ Below w.heap.size w w' := by
  obtain ⟨vs, ⟨_, A, cap, rfl, _⟩, _⟩ := id hl
  have HB := Lib.hid hl
  have HI := Lib.hid hi
  have hl32 := (instE_zero hi).2.2.1
  clear hl hi
  go_enter Try.func28, Try.ntmps28
  go_wp2_with (go_at_call 84; refine (lost_ok n bs _ R _ (HB.out.alloc _) HI.out).mono ?_; rintro e w1 ⟨AC, cC, b5, b1, b2, mm, rfl, hown1, hlo1, hmm1, hb1⟩; have hX := (one_blk' hb1).1; have x1 := fun o => (hX.alloc o).cell 1; simp at x1; have HX := Lib.hid hX; have HL1 := Lib.hid hlo1; have HB1 := Lib.hid (one_blk' hb1).2.2; have hs1 := (one_blk' hb1).2.1; simp at hmm1; clear hown1 hlo1 hb1 hX)
  have hlt5 := World.block_lt_of_cell? _ _ HL1.out.c5
  have hltb := World.block_lt_of_cell? _ _ HL1.out.x0
  have hltc := World.block_lt_of_cell? _ _ HL1.out.w1
  have hltm := HL1.out.map.lt
  simp only at hlt5 hltb hltc
  clear x1
  go_loopw [7, 21] (fun s i wr => ∃ (k m : Nat) (A' : Option Addr) (cap' : Nat), k ≤ bs.length ∧ i = .int .i64 k ∧ m = (pivotTo n bs k).length ∧ s = .slice A' m cap' ∧ LostAt wr (w.heap.size + 1) b5 b1 b2 mm n (.slice A bs.length cap) bs ∧
      wr.ownsRow (w1.heap.size + 1) 3 1 (.slice A' m cap') m (ints (pivotTo n bs k)) ∧ Below w.heap.size w wr ∧ w1.heap.size + 1 ≤ wr.heap.size)
    (fun _ i _ => bs.length - (intOf i).toNat)
  case atStart =>
    refine ⟨0, 0, none, 0, Nat.zero_le _, rfl, rfl, rfl, ?_, World.ownsRow_nil _ _ _ _, HB1.out.alloc (by omega) _, by simp⟩
    simpa using HL1.out.alloc _
  case round =>
    obtain ⟨k, m, A', cap', hk, rfl, hm, rfl, hlo, hown, hbw, hsz⟩ := hrel
    have hml : m ≤ k := by rw [hm]; exact pivotTo_len n bs k
    have HM := Lib.hid hm
    have HLO := Lib.hid hlo
    have HO := Lib.hid hown
    have HBW := Lib.hid hbw
    by_cases hlt : k < bs.length
    · clear hlo hown hbw hm
      by_cases hg : 0 < W bs (allOf n) - woW n bs k
      · have HG := Lib.hid hg
        go_wp2_with (first
          | (go_at_call 118; refine (each_any _ b5 b1 b2 mm n _ bs k hlt _ HLO.out).mono ?_; rintro e w5 ⟨rfl, hl5, hg5⟩; have hsz5 : w1.heap.size + 1 ≤ w5.heap.size := Nat.le_trans hsz hg5.size; have HL5 := Lib.hid hl5; have HO5 := Lib.hid (own_far HO.out hg5 (fun g e => by injection e with e; subst e; exact own_ne_map HO.out HLO.out.map)); have HB5 := Lib.hid (HBW.out.grown hg5 (by have := HBW.out.size; simpa using this) (fun g e => by injection e with e; omega)); clear hl5 hg5)
          | (at_builtin; refine wpList_app _ rfl (.tmp 28) (.tmp 30) et_int rfl (w1.heap.size + 1) (.slice A' m cap') m (ints (pivotTo n bs k)) rfl (HO5.out.alloc _) _ _ 1 _ rfl (Sl.new w5 #[.int .i64 (k : Nat)] _ 1 1 (by unfold maxLen; omega) rfl) (by simp [Value.oneCell']) (by omega) (by unfold maxLen; omega) (by simp; omega) ?_; intro A3 cap3 w3 hown3 hg3 hloc3; have HG3 := Lib.hid hg3; have HO3 := Lib.hid hown3; clear hg3 hown3 hloc3))
        go_roundw
        case rel =>
          have hro : ∀ g, (Value.slice A' m cap').ownBlock = some g → w1.heap.size + 1 ≤ g := fun g e => (HO5.out.lt g e).1
          have hs3 := HG3.out.size
          simp at hs3
          refine ⟨k + 1, m + 1, A3, cap3, by omega, by go_num, by rw [pivotTo_yes HG.out, HM.out]; simp, rfl, (HL5.out.alloc _).far HG3.out (fun g e => by have := hro g e; omega), ?_, (HB5.out.alloc (by omega) _).grown HG3.out (by simp; omega) (fun g e => by have := hro g e; omega), by omega⟩
          have := HO3.out
          rw [pivotTo_yes HG.out]
          simpa [ints] using this
        case measure => simp [intOf]; omega
      · have HG := Lib.hid hg
        have hg' : W bs (allOf n) - woW n bs k ≤ 0 := by omega
        clear hg
        go_wp2_with (go_at_call 118; refine (each_any _ b5 b1 b2 mm n _ bs k hlt _ HLO.out).mono ?_; rintro e w5 ⟨rfl, hl5, hg5⟩; have hsz5 : w1.heap.size + 1 ≤ w5.heap.size := Nat.le_trans hsz hg5.size; have HL5 := Lib.hid hl5; have HO5 := Lib.hid (own_far HO.out hg5 (fun g e => by injection e with e; subst e; exact own_ne_map HO.out HLO.out.map)); have HB5 := Lib.hid (HBW.out.grown hg5 (by have := HBW.out.size; simpa using this) (fun g e => by injection e with e; omega)); clear hl5 hg5)
        go_roundw
        case rel =>
          have hno : ¬ 0 < gainAt n bs k := by have := HG.out; unfold gainAt; omega
          refine ⟨k + 1, m, A', cap', by omega, by go_num, by rw [pivotTo_no hno]; exact HM.out, rfl, HL5.out, ?_, HB5.out, by omega⟩
          rw [pivotTo_no hno]
          exact HO5.out
        case measure => simp [intOf]; omega
    · obtain rfl : k = bs.length := by omega
      have hm' : m = (pivotC n bs).length := hm
      have HM' := Lib.hid hm'
      clear hlo hown hbw hm hm'
      go_wp2_with fail
      go_ret2
      have h := HO.out
      rw [HM'.out] at h
      exact ⟨A', cap', by rw [← HM'.out]; rfl, own_mono h (by omega), HBW.out⟩

set_option maxHeartbeats 800000 in
theorem pivotal_err (n : Int) (bs : List (List Off)) (v : Value) (R : Nat → Prop) (w : World) (hl : Buys w R v bs) (hi : instE n bs ≠ 0) :
    Calls Try.prog 28 #[.agg #[.int .i64 n, v]] w fun e w' => e = .returned (.tuple #[.slice none 0 0, .int .i64 (instE n bs)]) ∧ Below w.heap.size w w' := by
  obtain ⟨vs, ⟨_, A, cap, rfl, _⟩, _⟩ := id hl
  have HB := Lib.hid hl
  have hcb : (instE n bs != 0) = true := by simpa using hi
  have HI := Lib.hid hi
  clear hl hi
  go_enter Try.func28, Try.ntmps28
  go_wp2_with (go_at_call 84; refine (lost_err n bs _ R _ (HB.out.alloc _) HI.out).mono ?_; rintro e w1 ⟨rfl, hb1⟩; have HB1 := Lib.hid (one_blk' hb1).2.2; clear hb1)
  go_ret2
  exact ⟨rfl, HB1.out.alloc HB1.out.size _⟩
end Go.Proofs.Ytcigobiolbojhaa.Vb

/- The reference of layer 8: All, May, Check, SameOffers, SameInstance. -/
namespace Go.Proofs.Ytcigobiolbojhaa.Vb
open Go.RowKit

set_option maxHeartbeats 400000 in
theorem refAll_any (n : Nat) (h0 : 1 ≤ n) (h1 : n ≤ 10) (w : World) :
    Calls Try.prog 117 #[.int .i64 n] w fun e w' => e = .returned (.int .u32 ((2 ^ n - 1 : Nat) : Int)) ∧ w = w' := by
  have hp := pow32 n (by omega)
  have hp2 : 2 ^ n ≤ 1024 := Nat.le_trans (Nat.pow_le_pow_right (by omega) h1) (by decide)
  have hp0 : 0 < 2 ^ n := Nat.two_pow_pos n
  have h3 : ((2 : Int) ^ n) = ((2 ^ n : Nat) : Int) := by simp
  have h4 := IntWalk.u32_in ((2 ^ n : Nat) : Int) (by omega)
  have h5 := IntWalk.u32_in (((2 ^ n : Nat) : Int) - 1) (by omega)
  have hr : IntKind.u32.wrap (IntKind.u32.wrap (2 ^ n) - 1) = ((2 ^ n - 1 : Nat) : Int) := by rw [h3, h4, h5]; omega
  have HR := Lib.hid hr
  clear hp hp2 hp0 h3 h4 h5 hr
  go_enter Try.func117, Try.ntmps117
  go_wp2
  go_ret
  exact ⟨by rw [← HR.out]; rfl, rfl⟩

theorem quiet_left {P : Program} {f : FuncId} {args : Array Value} {w : World} {n : Nat} {v : Value}
    (h : Calls P f args (w.drewN n) fun e w' => e = .returned v ∧ w.drewN n = w') : Calls P f args (w.drewN n) fun e w'' => e = .returned v ∧ ∃ m, w'' = w.drewN m :=
  h.mono fun _ _ ⟨he, hm⟩ => ⟨he, n, hm.symm⟩

set_option maxHeartbeats 1600000 in
theorem refMay_any (n : Nat) (h0 : 1 ≤ n) (h1 : n ≤ 10) (o : Off) (ho : o.wf) (w : World) :
    Calls Try.prog 119 #[.int .i64 n, .agg #[.int .u32 o.g, .int .i64 o.c]] w fun e w' => e = .returned (.bool (!badB (2 ^ n - 1) o)) ∧ Below w.heap.size w w' := by
  have hp2 : 2 ^ n ≤ 1024 := Nat.le_trans (Nat.pow_le_pow_right (by omega) h1) (by decide)
  have hp0 : 0 < 2 ^ n := Nat.two_pow_pos n
  obtain ⟨g, c⟩ := o
  obtain ⟨hg, hc0, hc1⟩ := ho
  simp only at hg hc0 hc1
  simp only
  obtain ⟨al, hal⟩ : ∃ al, al = 2 ^ n - 1 := ⟨_, rfl⟩
  have hall : al < 4294967296 := by omega
  rw [← hal]
  have HAL := Lib.hid hal
  have hbits : bits .andNot .u32 (g : Int) (al : Int) = ((andNot g al : Nat) : Int) := u32_andNot_nat g al hg hall
  clear hp2 hp0 hal
  have cA : ∀ W : World, (W.alloc (.cells #[.int .u32 g, .int .i64 c] 45)).cell? ⟨W.heap.size, 0, none⟩ = some (.int .u32 g) := fun W => by simp
  have cB : ∀ W : World, (W.alloc (.cells #[.int .u32 g, .int .i64 c] 45)).cell? ⟨W.heap.size, 1, none⟩ = some (.int .i64 c) := fun W => by simp
  by_cases hg0 : g = 0
  · have hb : (((g : Nat) : Int) != 0) = false := by simp [hg0]
    have hbad : (!badB al ⟨g, c⟩) = false := by simp [badB, hg0]
    have HBAD := Lib.hid hbad
    clear hg0 hbad
    go_enter Try.func119, Try.ntmps119
    go_wp2_with fail
    go_quiet (fail)
    go_wp2_with fail
    go_ret
    exact ⟨by rw [HBAD.out]; rfl, below_drewN ((Below.refl _ _).alloc (Nat.le_refl _) _) _⟩
  · have hb : (((g : Nat) : Int) != 0) = true := by simp [hg0]
    by_cases hin : andNot g al = 0
    · have hi : (((andNot g al : Nat) : Int) == 0) = true := by simp [hin]
      by_cases hc : 1 ≤ c
      · have hcd : decide (1 ≤ c) = true := by simp [hc]
        have hbad : (!badB al ⟨g, c⟩) = decide (c ≤ 1099511627776) := by simp [badB, hin]; rw [Bool.eq_iff_iff]; simp; omega
        have HBAD := Lib.hid hbad
        clear hg0 hin hbad
        go_enter Try.func119, Try.ntmps119
        go_wp2_with fail
        go_region_held3 (fun w' => w'.cell? ⟨w.heap.size, 0, none⟩ = some (.int .u32 g) ∧ w'.cell? ⟨w.heap.size, 1, none⟩ = some (.int .i64 c)) (go_keep)
          ((go_at_call 117; refine (refAll_any n h0 h1 _).mono ?_; rintro e w1 ⟨rfl, rfl⟩; rw [← HAL.out]))
        go_wp2_with fail
        go_ret
        exact ⟨by rw [HBAD.out]; simp, ((Below.refl _ _).alloc (Nat.le_refl _) _).drew⟩
      · have hcd : decide (1 ≤ c) = false := by simp; omega
        have hbad : (!badB al ⟨g, c⟩) = false := by simp [badB]; omega
        have HBAD := Lib.hid hbad
        clear hg0 hin hc hbad
        go_enter Try.func119, Try.ntmps119
        go_wp2_with fail
        go_quiet ((go_at_call 117; exact quiet_left (v := .int .u32 (al : Int)) ((refAll_any n h0 h1 _).mono (fun e w1 hh => by rw [HAL.out]; exact hh))))
        go_wp2_with fail
        go_ret
        exact ⟨by rw [HBAD.out]; rfl, below_drewN ((Below.refl _ _).alloc (Nat.le_refl _) _) _⟩
    · have hi : (((andNot g al : Nat) : Int) == 0) = false := by simp [hin]
      have hbad : (!badB al ⟨g, c⟩) = false := by simp [badB, hg0, hin]
      have HBAD := Lib.hid hbad
      clear hg0 hin hbad
      go_enter Try.func119, Try.ntmps119
      go_wp2_with fail
      go_quiet ((go_at_call 117; exact quiet_left (v := .int .u32 (al : Int)) ((refAll_any n h0 h1 _).mono (fun e w1 hh => by rw [HAL.out]; exact hh))))
      go_wp2_with fail
      go_ret
      exact ⟨by rw [HBAD.out]; rfl, below_drewN ((Below.refl _ _).alloc (Nat.le_refl _) _) _⟩
end Go.Proofs.Ytcigobiolbojhaa.Vb

/- The reference of layer 8: Check, Instance. -/
namespace Go.Proofs.Ytcigobiolbojhaa.Vb
open Go.RowKit

set_option maxHeartbeats 800000 in
theorem refCheck_any (n : Int) (l : List Off) (v : Value) (R : Nat → Prop) (w : World) (hl : Offs w R v l) :
    Calls Try.prog 86 #[.int .i64 n, v] w fun e w' => e = .returned (.tuple #[.int .i64 (checkI n l), .int .i64 (checkE n l)]) ∧ Below w.heap.size w w' := by
  obtain ⟨⟨hlen, A, cap, rfl, hncap, hcap, hcells⟩, hwf⟩ := hl
  unfold maxLen at hcap
  have HL := Lib.hid hlen
  have HC := Lib.hid hcells
  clear hlen hcells
  by_cases hn : n < 1 ∨ 10 < n
  · have hI : checkI n l = 0 := by unfold checkI; rw [if_pos hn]
    have hE : checkE n l = 2 := by unfold checkE; rw [if_pos hn]
    have HI := Lib.hid hI
    have HE := Lib.hid hE
    clear hI hE hwf
    rcases hn with hn | hn
    all_goals
      go_enter Try.func86, Try.ntmps86
      go_wp2
      all_goals go_ret2
      all_goals rw [HI.out, HE.out]
      all_goals exact ⟨rfl, Below.refl _ _⟩
  · by_cases h8 : 8 < l.length
    · have hI : checkI n l = 0 := by unfold checkI; rw [if_neg hn, if_pos h8]
      have hE : checkE n l = 3 := by unfold checkE; rw [if_neg hn, if_pos h8]
      have HI := Lib.hid hI
      have HE := Lib.hid hE
      have hn0 : 1 ≤ n := by omega
      have hn1 : n ≤ 10 := by omega
      clear hI hE hn hwf
      go_enter Try.func86, Try.ntmps86
      go_wp2
      go_ret2
      rw [HI.out, HE.out]
      exact ⟨rfl, Below.refl _ _⟩
    · have hI : checkI n l = match badAt (2 ^ n.toNat - 1) l with | some k => (k : Int) | none => 0 := by unfold checkI; rw [if_neg hn, if_neg h8]; rfl
      have hE : checkE n l = match badAt (2 ^ n.toNat - 1) l with | some _ => 180 | none => 0 := by unfold checkE; rw [if_neg hn, if_neg h8]; rfl
      obtain ⟨m, rfl⟩ : ∃ m : Nat, n = m := ⟨n.toNat, by omega⟩
      have hm0 : 1 ≤ m := by omega
      have hm1 : m ≤ 10 := by omega
      simp only [Int.toNat_natCast] at hI hE
      have HI := Lib.hid hI
      have HE := Lib.hid hE
      have HW := Lib.hid hwf
      clear hI hE hn hwf
      go_enter Try.func86, Try.ntmps86
      go_wp2
      go_loopw [6] (fun i wr => ∃ k : Nat, k ≤ l.length ∧ i = .int .i64 k ∧ Below w.heap.size w wr ∧ ∀ j x, j < k → l[j]? = some x → badB (2 ^ m - 1) x = false) (fun i _ => l.length - (intOf i).toNat)
      case atStart => exact ⟨0, Nat.zero_le _, rfl, Below.refl _ _, fun j x hj => by omega⟩
      case round =>
        obtain ⟨k, hk, rfl, hb, hno⟩ := hrel
        have HN := Lib.hid hno
        clear hno
        by_cases hlt : k < l.length
        · obtain ⟨bb, off, rfl, _, hbb, hcs⟩ := HC.out (by omega)
          obtain ⟨o, ho⟩ : ∃ o, l[k]? = some o := ⟨_, List.getElem?_eq_getElem hlt⟩
          have c0 : wr.cell? ⟨bb, off + k * 2, none⟩ = some (.int .u32 o.g) := (hb.cell hbb).trans (hcs _ _ (Off.all_fst l k o ho))
          have c1 : wr.cell? ⟨bb, off + k * 2 + 1, none⟩ = some (.int .i64 o.c) := (hb.cell hbb).trans (hcs _ _ (Off.all_snd l k o ho))
          have hwo := HW.out o (List.mem_of_getElem? ho)
          clear hcs
          have HO := Lib.hid ho
          have HWO := Lib.hid hwo
          clear ho hwo
          by_cases hbad : badB (2 ^ m - 1) o = true
          · have hnb : (!badB (2 ^ m - 1) o) = false := by rw [hbad]; rfl
            have HB := Lib.hid hbad
            have HNB := Lib.hid hnb
            clear hbad hnb
            go_wp2_with (go_at_call 119; refine (refMay_any m hm0 hm1 o HWO.out _).mono ?_; rintro e w1 ⟨rfl, hb1⟩; rw [HNB.out])
            go_ret2
            rw [HI.out, HE.out, badAt_some _ l k o HO.out HB.out HN.out]
            exact ⟨rfl, hb.trans (hb1.mono hb.size)⟩
          · have hbad : badB (2 ^ m - 1) o = false := by simpa using hbad
            have hnb : (!badB (2 ^ m - 1) o) = true := by rw [hbad]; rfl
            have HB := Lib.hid hbad
            have HNB := Lib.hid hnb
            clear hbad hnb
            go_wp2_with (go_at_call 119; refine (refMay_any m hm0 hm1 o HWO.out _).mono ?_; rintro e w1 ⟨rfl, hb1⟩; rw [HNB.out])
            go_roundw
            case rel =>
              refine ⟨k + 1, by omega, by go_num, hb.trans (hb1.mono hb.size), fun j x hj hx => ?_⟩
              by_cases hjk : j < k
              · exact HN.out j x hjk hx
              · obtain rfl : j = k := by omega
                rw [HO.out] at hx
                cases hx
                exact HB.out
            case measure => simp [intOf]; omega
        · go_wp2
          go_ret2
          rw [HI.out, HE.out, badAt_none _ l (fun o ho => ?_)]
          · exact ⟨rfl, hb⟩
          · obtain ⟨j, hj, rfl⟩ := List.getElem_of_mem ho
            exact HN.out j _ (by omega) (List.getElem?_eq_getElem hj)

theorem longAny_of : ∀ (bs : List (List Off)) (k : Nat) (l : List Off), bs[k]? = some l → longB l = true → bs.any longB = true :=
  fun _ _ l h hl => List.any_eq_true.2 ⟨l, List.mem_of_getElem? h, hl⟩

set_option maxHeartbeats 1600000 in
theorem refInstance_any (n : Int) (bs : List (List Off)) (v : Value) (R : Nat → Prop) (w : World) (hl : Buys w R v bs) :
    Calls Try.prog 30 #[.agg #[.int .i64 n, v]] w fun e w' => e = .returned (.int .i64 (instE n bs)) ∧ Below w.heap.size w w' := by
  obtain ⟨vs, ⟨hlen, A, cap, rfl, hncap, hcap, hcells⟩, hvs⟩ := id hl
  unfold maxLen at hcap
  have hnl : bs.length ≤ 9223372036854775807 := by omega
  have HC := Lib.hid hcells
  have HV := Lib.hid hvs
  clear hl hcells hvs hlen
  by_cases hn : n < 1 ∨ 10 < n
  · have hE : instE n bs = 2 := by unfold instE; rw [if_pos hn]
    have HE := Lib.hid hE
    clear hE
    rcases hn with hn | hn
    all_goals
      go_enter Try.func30, Try.ntmps30
      go_wp2
      all_goals go_ret
      all_goals rw [HE.out]
      all_goals exact ⟨rfl, (Below.refl _ _).alloc (Nat.le_refl _) _⟩
  · have hn0 : 1 ≤ n := by omega
    have hn1 : n ≤ 10 := by omega
    by_cases h32 : 32 < bs.length
    · have hE : instE n bs = 3 := by unfold instE; rw [if_neg hn, if_pos (Or.inl h32)]
      have HE := Lib.hid hE
      clear hE hn
      go_enter Try.func30, Try.ntmps30
      go_wp2
      all_goals go_ret
      all_goals rw [HE.out]
      all_goals exact ⟨rfl, (Below.refl _ _).alloc (Nat.le_refl _) _⟩
    · have hE : ∀ k l, bs[k]? = some l → longB l = true → instE n bs = 3 := fun k l h1 h2 => by unfold instE; rw [if_neg hn, if_pos (Or.inr (longAny_of bs k l h1 h2))]
      have hE2 : (∀ j x, j < bs.length → bs[j]? = some x → longB x = false) → instE n bs = instLoop n bs := fun h => by
        unfold instE
        rw [if_neg hn, if_neg]
        rintro (hh | hh)
        · exact h32 hh
        · obtain ⟨x, hx, hxx⟩ := List.any_eq_true.1 hh
          obtain ⟨j, hj, rfl⟩ := List.getElem_of_mem hx
          rw [h j _ hj (List.getElem?_eq_getElem hj)] at hxx
          cases hxx
      have HE := Lib.hid hE
      have HE2 := Lib.hid hE2
      clear hE hE2 hn
      go_enter Try.func30, Try.ntmps30
      go_wp2
      have ca : ∀ W : World, (W.alloc (.cells #[.int .i64 n, .slice A bs.length cap] 24)).cell? ⟨W.heap.size, 1, none⟩ = some (.slice A bs.length cap) := fun W => by simp
      go_loop [3] (fun i => ∃ k : Nat, k ≤ bs.length ∧ i = .int .i64 k ∧ ∀ j x, j < k → bs[j]? = some x → longB x = false) (fun i => bs.length - (intOf i).toNat)
      case atStart => exact ⟨0, Nat.zero_le _, rfl, fun j x hj => by omega⟩
      case round =>
        obtain ⟨k, hk, rfl, hno⟩ := hrel
        have HN := Lib.hid hno
        clear hno
        by_cases hlt : k < bs.length
        · obtain ⟨bb, off, rfl, _, hbb, hcs⟩ := HC.out (by omega)
          obtain ⟨l, ho⟩ : ∃ l, bs[k]? = some l := ⟨_, List.getElem?_eq_getElem hlt⟩
          obtain ⟨u, hu, hol⟩ := HV.out k l ho
          have c0 := cellAlloc (hcs _ _ hu)
          obtain ⟨⟨_, A', cap', rfl, _⟩, _⟩ := hol
          clear hcs hu
          have HO := Lib.hid ho
          clear ho
          by_cases h8 : 8 < l.length
          · have h8' := Lib.hid h8
            go_wp2
            go_ret
            rw [HE.out k l HO.out (by unfold longB; simpa using h8'.out)]
            exact ⟨rfl, (Below.refl _ _).alloc (Nat.le_refl _) _⟩
          · have h8' := Lib.hid h8
            go_wp2
            go_round
            case rel =>
              refine ⟨k + 1, by omega, by go_num, fun j x hj hx => ?_⟩
              by_cases hjk : j < k
              · exact HN.out j x hjk hx
              · obtain rfl : j = k := by omega
                rw [HO.out] at hx
                cases hx
                unfold longB
                simp
                omega
            case measure => simp [intOf]; omega
        · have HE3 := HE2.out (fun j x hj => HN.out j x (by omega))
          have HE4 := Lib.hid HE3
          clear HE3 HE2 HE HN
          go_wp2
          go_loopw [4] (fun i wr => ∃ k : Nat, k ≤ bs.length ∧ i = .int .i64 k ∧ Below (w.heap.size + 1) (w.alloc (.cells #[.int .i64 n, .slice A bs.length cap] 24)) wr ∧ ∀ j x, j < k → bs[j]? = some x → checkE n x = 0) (fun i _ => bs.length - (intOf i).toNat)
          case atStart => exact ⟨0, Nat.zero_le _, rfl, Below.refl _ _, fun j x hj => by omega⟩
          case round =>
            obtain ⟨k2, hk2, rfl, hb, hno⟩ := hrel
            have HN := Lib.hid hno
            clear hno
            have hb' : Below w.heap.size w wr := ((Below.refl _ _).alloc (Nat.le_refl _) _).trans (hb.mono (by omega))
            have cb0 : wr.cell? ⟨w.heap.size, 0, none⟩ = some (.int .i64 n) := (hb.cell (p := ⟨w.heap.size, 0, none⟩) (by simp)).trans (by simp)
            have cb1 : wr.cell? ⟨w.heap.size, 1, none⟩ = some (.slice A bs.length cap) := (hb.cell (p := ⟨w.heap.size, 1, none⟩) (by simp)).trans (by simp)
            by_cases hlt : k2 < bs.length
            · obtain ⟨bb, off, rfl, _, hbb, hcs⟩ := HC.out (by omega)
              obtain ⟨l, ho⟩ : ∃ l, bs[k2]? = some l := ⟨_, List.getElem?_eq_getElem hlt⟩
              obtain ⟨u, hu, hol⟩ := HV.out k2 l ho
              have c0 : wr.cell? ⟨bb, off + k2, none⟩ = some u := by have h := (hb'.cell hbb).trans (hcs _ _ hu); simpa using h
              have hbbr : bb < wr.heap.size := Nat.lt_of_lt_of_le hbb hb'.size
              have hwr : w.heap.size < wr.heap.size := by have := hb.size; simp at this; omega
              have HOL := Lib.hid (show Offs wr.drew R u l from (show Offs wr R u l from hol.grow hb'))
              obtain ⟨⟨_, A', cap', rfl, _⟩, _⟩ := hol
              clear hcs hu
              have HO := Lib.hid ho
              have HBB := Lib.hid hb
              have HBB' := Lib.hid hb'
              clear ho hb hb'
              by_cases hce : checkE n l = 0
              · have HCE := Lib.hid hce
                clear hce
                go_wp2_with fail
                go_region_held3 (fun w' => w'.cell? ⟨w.heap.size, 0, none⟩ = some (.int .i64 n) ∧ w'.cell? ⟨w.heap.size, 1, none⟩ = some (.slice (some ⟨bb, off, none⟩) bs.length cap) ∧ w'.cell? ⟨bb, off + k2, none⟩ = some (.slice A' l.length cap')) (go_keep)
                  ((go_at_call 86; refine (refCheck_any n l _ R _ HOL.out).mono ?_; rintro e w1 ⟨rfl, hb1⟩; have e0 := (hb1.cell (p := ⟨w.heap.size, 0, none⟩) (by simp; omega)).trans cb0; have e1 := (hb1.cell (p := ⟨w.heap.size, 1, none⟩) (by simp; omega)).trans cb1; have e2 := (hb1.cell (p := ⟨bb, off + k2, none⟩) (by simp; omega)).trans c0; have HB1 := Lib.hid hb1; clear hb1; rw [HCE.out]))
                go_wp2_with fail
                go_roundw
                case rel =>
                  refine ⟨k2 + 1, by omega, by go_num, (HBB.out.drew).trans (HB1.out.mono (by have := HBB.out.size; simp at this; simp; omega)), fun j x hj hx => ?_⟩
                  by_cases hjk : j < k2
                  · exact HN.out j x hjk hx
                  · obtain rfl : j = k2 := by omega
                    rw [HO.out] at hx
                    cases hx
                    exact HCE.out
                case measure => simp [intOf]; omega
              · have hcb : (checkE n l != 0) = true := by simpa using hce
                have HCE := Lib.hid hce
                clear hce
                go_wp2_with fail
                go_region_held3 (fun w' => w'.cell? ⟨w.heap.size, 0, none⟩ = some (.int .i64 n) ∧ w'.cell? ⟨w.heap.size, 1, none⟩ = some (.slice (some ⟨bb, off, none⟩) bs.length cap) ∧ w'.cell? ⟨bb, off + k2, none⟩ = some (.slice A' l.length cap')) (go_keep)
                  ((go_at_call 86; refine (refCheck_any n l _ R _ HOL.out).mono ?_; rintro e w1 ⟨rfl, hb1⟩; have e0 := (hb1.cell (p := ⟨w.heap.size, 0, none⟩) (by simp; omega)).trans cb0; have e1 := (hb1.cell (p := ⟨w.heap.size, 1, none⟩) (by simp; omega)).trans cb1; have e2 := (hb1.cell (p := ⟨bb, off + k2, none⟩) (by simp; omega)).trans c0; have HB1 := Lib.hid hb1; clear hb1))
                go_wp2_with fail
                go_ret
                refine ⟨ret_int ?_, (HBB'.out.drew).trans (HB1.out.mono (by have := HBB'.out.size; simpa using this))⟩
                rw [HE4.out, instLoop_some n bs k2 l HO.out HCE.out HN.out]
            · have HBB' := Lib.hid hb'
              clear hb hb'
              go_wp2
              go_ret
              refine ⟨ret_int ?_, HBB'.out⟩
              rw [HE4.out, instLoop_none n bs (fun o ho => ?_)]
              obtain ⟨j, hj, rfl⟩ := List.getElem_of_mem ho
              exact HN.out j _ (by omega) (List.getElem?_eq_getElem hj)
end Go.Proofs.Ytcigobiolbojhaa.Vb

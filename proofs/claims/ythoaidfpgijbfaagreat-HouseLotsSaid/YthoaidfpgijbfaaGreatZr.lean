import Derived.Test.YthoaidfpgijbfaaGreatZq
import Derived.Test.YthoaidfpgijbfaaGreatZd
import Derived.DeepKeys4
import Derived.Test.YthoaidfpgijbfaaGreatZa
import Derived.Maps.OwnOps
import Derived.Maps.Views
import Derived.Maps.OwnSet
namespace Go.Proofs.YthoaidfpgijbfaaGreat.Vb
open Go.RowKit
end Go.Proofs.YthoaidfpgijbfaaGreat.Vb
namespace Go.Proofs.YthoaidfpgijbfaaGreat.Vb
open Go.RowKit
end Go.Proofs.YthoaidfpgijbfaaGreat.Vb
namespace Go.Proofs.YthoaidfpgijbfaaGreat.Vb
def stepO (g : Nat → Int) (f : Nat) (best : Int) (o : Off) : Int := if andNot o.g f = 0 then max best (o.c + g (andNot f o.g)) else best
def W : List (List Off) → Nat → Int
  | [], _ => 0
  | l :: bs, f => l.foldl (stepO (W bs) f) (W bs f)
def Offer1 (o : Off) : Prop := 0 < o.g ∧ o.g < 1024 ∧ 1 ≤ o.c ∧ o.c ≤ 1099511627776
def Okb (bs : List (List Off)) : Prop := bs.length ≤ 32 ∧ ∀ l ∈ bs, l.length ≤ 8 ∧ ∀ o ∈ l, Offer1 o
end Go.Proofs.YthoaidfpgijbfaaGreat.Vb
namespace Go.Proofs.YthoaidfpgijbfaaGreat.Vb
open Go.RowKit
open Go.Maps (Keyed)
end Go.Proofs.YthoaidfpgijbfaaGreat.Vb
namespace Go.Proofs.YthoaidfpgijbfaaGreat.Vb
open Go.RowKit
open Go.Maps (Keyed)
def Known (bs : List (List Off)) (key val : Value) : Prop := ∃ k f : Nat, k ≤ 32 ∧ f < 1024 ∧ key = .agg #[.int .i64 k, .int .u32 f] ∧ val = .int .i64 (W (bs.drop k) f)
def allKeys : List Value := (List.range 33).flatMap fun k => (List.range 1024).map fun f => .agg #[.int .i64 (k : Nat), .int .u32 (f : Nat)]
structure BoardAt (w : World) (B bb m : Nat) (n : Int) (v : Value) (bs : List (List Off)) : Prop where
  c0 : w.cell? ⟨bb, 0, none⟩ = some (.int .i64 n)
  c1 : w.cell? ⟨bb, 1, none⟩ = some v
  c2 : w.cell? ⟨bb, 2, none⟩ = some (.map (some m))
  buys : Buys w (· < B) v bs
  hB : B ≤ m
  map : MapG Tryz.prog 449 2 w m (Known bs)
  ok : Okb bs
section
variable {w w' : World} {B bb m : Nat} {n : Int} {v : Value} {bs : List (List Off)}
theorem below_drewN {B : Nat} {a w : World} (h : Below B a w) (n : Nat) : Below B a (w.drewN n) := ⟨h.os, h.tape, h.output, h.size, h.block⟩
end
end Go.Proofs.YthoaidfpgijbfaaGreat.Vb
namespace Go.Proofs.YthoaidfpgijbfaaGreat.Vb
open Go.RowKit
end Go.Proofs.YthoaidfpgijbfaaGreat.Vb
namespace Go.Proofs.YthoaidfpgijbfaaGreat.Vb
open Go.RowKit
def bestW (n : Int) (bs : List (List Off)) : Int := if instE n bs = 0 then W bs (allOf n) else 0
end Go.Proofs.YthoaidfpgijbfaaGreat.Vb
namespace Go.Proofs.YthoaidfpgijbfaaGreat.Vb
open Go.RowKit
def Blk (w : World) (g : Nat) (t : TypeId) (cs : Array Value) : Prop := w.heap[g]? = some (.cells cs t (0, 0))
section
variable {w w' : World} {g : Nat} {t : TypeId} {cs : Array Value}
theorem Blk.lt (h : Blk w g t cs) : g < w.heap.size := by
  rcases Nat.lt_or_ge g w.heap.size with hlt | hge
  · exact hlt
  · unfold Blk at h; rw [Array.getElem?_eq_none hge] at h; cases h
theorem Blk.cell (h : Blk w g t cs) (i : Nat) : w.cell? ⟨g, i, none⟩ = cs[i]? := cell_of_row w g i cs t (0, 0) h
theorem Blk.frozen (h : Blk w g t cs) (i : Nat) : w.frozen? ⟨g, i, none⟩ = false := by
  unfold Blk at h
  simp [World.frozen?, h]
theorem Blk.new (w : World) (t : TypeId) (cs : Array Value) : Blk (w.alloc (.cells cs t)) w.heap.size t cs := heap_alloc_new w _
theorem Blk.drew (h : Blk w g t cs) : Blk w.drew g t cs := h
theorem Blk.alloc (h : Blk w g t cs) (o : Obj) : Blk (w.alloc o) g t cs := (Below.heap_alloc w o g h.lt).trans h
theorem Blk.set_ (h : Blk w g t cs) (i : Nat) (u : Value) : Blk (w.setCell ⟨g, i, none⟩ u) g t (cs.setIfInBounds i u) := by
  unfold Blk at h ⊢
  simp [World.setCell, Array.getElem?_modify, h]
theorem Blk.far (h : Blk w g t cs) {p : Addr} (hp : g ≠ p.block) (u : Value) : Blk (w.setCell p u) g t cs := (Below.heap_setCell w p u g hp).trans h
theorem Blk.below {B : Nat} (h : Blk w g t cs) (hb : Below B w w') (hg : g < B) : Blk w' g t cs := (hb.block g hg).trans h
theorem Blk.grow (h : Blk w g t cs) (hb : Below w.heap.size w w') : Blk w' g t cs := (hb.block g h.lt).trans h
theorem Blk.grown {row : Option Nat} (h : Blk w g t cs) (hb : w.grownBy w' row) (hg : some g ≠ row) : Blk w' g t cs := (hb.block g h.lt hg).trans h
end
def pickB (g : Nat → Int) (f : Nat) (left : Int) (o : Off) : Bool := decide (andNot o.g f = 0) && decide (o.c + g (andNot f o.g) = left)
def pickAt (g : Nat → Int) (f : Nat) (left : Int) : List Off → Option (Nat × Nat)
  | [] => none
  | o :: l => if pickB g f left o then some (0, o.g) else (pickAt g f left l).map fun p => (p.1 + 1, p.2)
def pickN (g : Nat → Int) (f : Nat) (left : Int) (l : List Off) : Int × Nat := match pickAt g f left l with | some (j, o) => ((j : Int), andNot f o) | none => (-1, f)
def choose : List (List Off) → Nat → List Int
  | [], _ => []
  | l :: bs, f => (pickN (W bs) f (W (l :: bs) f) l).1 :: choose bs (pickN (W bs) f (W (l :: bs) f) l).2
end Go.Proofs.YthoaidfpgijbfaaGreat.Vb
namespace Go.Proofs.YthoaidfpgijbfaaGreat.Vb
open Go.RowKit
def nextC (floor : Int) (l : List Sec) (j : Nat) : Int := match bestK floor (j : Int) l l.length with | none => floor | some (_, c) => c
def soldVal (floor : Int) (l : List Sec) : Value := match bestK floor (-1) l l.length with
  | none => .agg #[.bool false, .int .i64 0, .int .i64 0, .int .i64 0]
  | some (j, c) => .agg #[.bool true, .int .i64 ((l[j]?.map (·.b)).getD 0), .int .i64 c, .int .i64 (nextC floor l j)]
set_option maxRecDepth 100000 in
set_option maxHeartbeats 1600000 in
theorem come_any (floor : Int) (l : List Sec) (v : Value) (R : Nat → Prop) (w : World) (hl : Secs w R v l) :
    Calls Tryz.prog 287 #[.int .i64 floor, v] w fun e w' => e = .returned (soldVal floor l) ∧ Below w.heap.size w w' := by
  have HL := Lib.hid hl
  obtain ⟨⟨_, A, cap, rfl, hncap, hcap, hcells⟩, _⟩ := hl
  unfold maxLen at hcap
  have HC := Lib.hid hcells
  clear hcells
  cases hbk : bestK floor (-1) l l.length with
  | none =>
    have hs : soldVal floor l = .agg #[.bool false, .int .i64 0, .int .i64 0, .int .i64 0] := by unfold soldVal; rw [hbk]
    have HS := Lib.hid hs
    have HBK := Lib.hid hbk
    clear hs hbk
    have hat : atI none = -1 := rfl
    go_enter Tryz.func287, Tryz.ntmps287
    go_wp2_with (go_at_call 289; refine (best_any' floor (-1) l _ R _ (HL.out.alloc _)).mono ?_; rintro e w1 ⟨rfl, hb1⟩; rw [HBK.out, hat]; have hk := (Blk.new w 376 #[.bool false, .int .i64 0, .int .i64 0, .int .i64 0]).grow hb1; have q0 := hk.cell 0; have q1 := hk.cell 1; have q2 := hk.cell 2; have q3 := hk.cell 3; have qf := hk.frozen; simp at q0 q1 q2 q3; have HK := Lib.hid hk; have HB1 := Lib.hid (((Below.refl _ _).alloc (Nat.le_refl _) _).trans (hb1.mono (B' := w.heap.size) (by simp))); clear hb1 hk)
    have hq := (((HK.out.set_ 0 (.bool false)).set_ 1 (.int .i64 0)).set_ 2 (.int .i64 0)).set_ 3 (.int .i64 0)
    have r0 := hq.cell 0
    have r1 := hq.cell 1
    have r2 := hq.cell 2
    have r3 := hq.cell 3
    simp at r0 r1 r2 r3
    rw [HS.out]
    refine bodyPost_ret (v := .agg #[.bool false, .int .i64 0, .int .i64 0, .int .i64 0]) (by simp [results, Tryz.results287, go_sem, r0, r1, r2, r3]) rfl ⟨rfl, ?_⟩
    exact (((HB1.out.setCell (p := ⟨w.heap.size, 0, none⟩) (by simp) _).setCell (p := ⟨w.heap.size, 1, none⟩) (by simp) _).setCell (p := ⟨w.heap.size, 2, none⟩) (by simp) _).setCell (p := ⟨w.heap.size, 3, none⟩) (by simp) _
  | some p =>
    obtain ⟨j, c⟩ := p
    obtain ⟨hj, s, hsj, hsc⟩ := bestK_get hbk
    have HBK := Lib.hid hbk
    have HSJ := Lib.hid hsj
    obtain ⟨bb, off, rfl, _, hbb, hcs⟩ := HC.out (by omega)
    have c0 : w.cell? ⟨bb, off + j * 2, none⟩ = some (.int .i64 s.b) := hcs _ _ (Sec.all_fst l j s hsj)
    have c1 : w.cell? ⟨bb, off + j * 2 + 1, none⟩ = some (.int .i64 c) := by rw [← hsc]; exact hcs _ _ (Sec.all_snd l j s hsj)
    have C0 := Lib.hid c0
    have C1 := Lib.hid c1
    have HSC := Lib.hid hsc
    have hat : atI (some (j, c)) = (j : Int) := rfl
    have e1 : (0 : Int) ≤ (j : Int) := by omega
    have e2 : (j : Int) < (l.length : Int) := by omega
    have HCS := Lib.hid hcs
    clear hbk hsj hsc c0 c1 hcs
    go_enter Tryz.func287, Tryz.ntmps287
    go_wp2_with (go_at_call 289; refine (best_any' floor (-1) l _ R _ (HL.out.alloc _)).mono ?_; rintro e w1 ⟨rfl, hb1⟩; rw [HBK.out, hat]; have hk := (Blk.new w 376 #[.bool false, .int .i64 0, .int .i64 0, .int .i64 0]).grow hb1; have hb := ((Below.refl w.heap.size w).alloc (Nat.le_refl _) (.cells #[.bool false, .int .i64 0, .int .i64 0, .int .i64 0] 376)).trans (hb1.mono (B' := w.heap.size) (by simp)); have c0 := (hb.cell (p := ⟨bb, off + j * 2, none⟩) hbb).trans C0.out; have c1 := (hb.cell (p := ⟨bb, off + j * 2 + 1, none⟩) hbb).trans C1.out; have HK := Lib.hid hk; have HB1 := Lib.hid hb; clear hb1 hk hb)
    have hbb1 : bb < w1.heap.size := Nat.lt_of_lt_of_le hbb HB1.out.size
    have hle1 := HB1.out.size
    have hkl := HK.out.lt
    refine wp_region_F (Below w1.heap.size w1) [13] (by kernel_rfl) ((Below.refl _ _).drew) (fun hS => ?_)
    refine wpAnyF_take (i := 0) (oi := ⟨some 14, .move (.tmp 1), 372, "sealed.go:30", #[], none⟩) (v := ?_) rfl (by kernel_rfl) (by kernel_rfl) (by kernel_rfl) (by kernel_rfl) (fun _ _ _ h => h) (Or.inl ⟨by rfl, ?_⟩) hS ?_
    rotate_left
    · intro w' _; go_simp; try with_reducible rfl
    try simp only [Act.put, pb, pz, ps]
    refine wpAnyF_take (i := 1) (oi := ⟨some 15, .move (.tmp 5), 3, "sealed.go:30", #[], none⟩) (v := ?_) rfl (by kernel_rfl) (by kernel_rfl) (by kernel_rfl) (by kernel_rfl) (fun _ _ _ h => h) (Or.inl ⟨by rfl, ?_⟩) hS ?_
    rotate_left
    · intro w' _; go_simp; try with_reducible rfl
    try simp only [Act.put, pb, pz, ps]
    refine wpAnyF_take (i := 2) (oi := ⟨some 16, .indexAddr 372 (.tmp 14) (.tmp 15), 0, "sealed.go:30", #[⟨0, .data⟩, ⟨1, .data⟩], none⟩) (v := ?_) rfl (by kernel_rfl) (by kernel_rfl) (by kernel_rfl) (by kernel_rfl) (fun _ _ _ h => h) (Or.inl ⟨by rfl, ?_⟩) hS ?_
    rotate_left
    · intro w' _; go_simp; try with_reducible rfl
    try simp only [Act.put, pb, pz, ps]
    refine wpAnyF_take (i := 3) (oi := ⟨some 17, .fieldAddr 374 (.tmp 16) 0, 0, "sealed.go:30", #[⟨2, .data⟩], none⟩) (v := ?_) rfl (by kernel_rfl) (by kernel_rfl) (by kernel_rfl) (by kernel_rfl) (fun _ _ _ h => h) (Or.inl ⟨by rfl, ?_⟩) hS ?_
    rotate_left
    · intro w' _; go_simp; try with_reducible rfl
    try simp only [Act.put, pb, pz, ps]
    refine wpAnyF_take (i := 4) (oi := ⟨some 18, .load 3 (.tmp 17), 3, "sealed.go:30", #[⟨3, .data⟩], none⟩) (v := ?_) rfl (by kernel_rfl) (by kernel_rfl) (by kernel_rfl) (by kernel_rfl) (fun _ _ _ h => h) (Or.inl ⟨by rfl, ?_⟩) hS ?_
    rotate_left
    · intro w' hSw; have q1 := (hSw.cell (p := ⟨bb, off + j * 2, none⟩) hbb1).trans c0; have q2 := (hSw.cell (p := ⟨bb, off + j * 2 + 1, none⟩) hbb1).trans c1; go_simp; try with_reducible rfl
    try simp only [Act.put, pb, pz, ps]
    refine wpAnyF_take (i := 5) (oi := ⟨some 19, .move (.tmp 1), 372, "sealed.go:30", #[], none⟩) (v := ?_) rfl (by kernel_rfl) (by kernel_rfl) (by kernel_rfl) (by kernel_rfl) (fun _ _ _ h => h) (Or.inl ⟨by rfl, ?_⟩) hS ?_
    rotate_left
    · intro w' _; go_simp; try with_reducible rfl
    try simp only [Act.put, pb, pz, ps]
    refine wpAnyF_take (i := 6) (oi := ⟨some 20, .move (.tmp 5), 3, "sealed.go:30", #[], none⟩) (v := ?_) rfl (by kernel_rfl) (by kernel_rfl) (by kernel_rfl) (by kernel_rfl) (fun _ _ _ h => h) (Or.inl ⟨by rfl, ?_⟩) hS ?_
    rotate_left
    · intro w' _; go_simp; try with_reducible rfl
    try simp only [Act.put, pb, pz, ps]
    refine wpAnyF_take (i := 7) (oi := ⟨some 21, .indexAddr 372 (.tmp 19) (.tmp 20), 0, "sealed.go:30", #[⟨5, .data⟩, ⟨6, .data⟩], none⟩) (v := ?_) rfl (by kernel_rfl) (by kernel_rfl) (by kernel_rfl) (by kernel_rfl) (fun _ _ _ h => h) (Or.inl ⟨by rfl, ?_⟩) hS ?_
    rotate_left
    · intro w' _; go_simp; try with_reducible rfl
    try simp only [Act.put, pb, pz, ps]
    refine wpAnyF_take (i := 8) (oi := ⟨some 22, .fieldAddr 374 (.tmp 21) 1, 0, "sealed.go:30", #[⟨7, .data⟩], none⟩) (v := ?_) rfl (by kernel_rfl) (by kernel_rfl) (by kernel_rfl) (by kernel_rfl) (fun _ _ _ h => h) (Or.inl ⟨by rfl, ?_⟩) hS ?_
    rotate_left
    · intro w' _; go_simp; try with_reducible rfl
    try simp only [Act.put, pb, pz, ps]
    refine wpAnyF_take (i := 9) (oi := ⟨some 23, .load 2 (.tmp 22), 2, "sealed.go:30", #[⟨8, .data⟩], none⟩) (v := ?_) rfl (by kernel_rfl) (by kernel_rfl) (by kernel_rfl) (by kernel_rfl) (fun _ _ _ h => h) (Or.inl ⟨by rfl, ?_⟩) hS ?_
    rotate_left
    · intro w' hSw; have q1 := (hSw.cell (p := ⟨bb, off + j * 2, none⟩) hbb1).trans c0; have q2 := (hSw.cell (p := ⟨bb, off + j * 2 + 1, none⟩) hbb1).trans c1; go_simp; try with_reducible rfl
    try simp only [Act.put, pb, pz, ps]
    refine wpAnyF_take (i := 10) (oi := ⟨some 24, .move (.tmp 0), 2, "sealed.go:30", #[], none⟩) (v := ?_) rfl (by kernel_rfl) (by kernel_rfl) (by kernel_rfl) (by kernel_rfl) (fun _ _ _ h => h) (Or.inl ⟨by rfl, ?_⟩) hS ?_
    rotate_left
    · intro w' _; go_simp; try with_reducible rfl
    try simp only [Act.put, pb, pz, ps]
    refine wpAnyF_take (i := 11) (oi := ⟨some 25, .build 376 #[(0, .const (.bool true)), (1, .tmp 18), (2, .tmp 23), (3, .tmp 24)], 376, "sealed.go:30", #[⟨4, .data⟩, ⟨9, .data⟩, ⟨10, .data⟩], none⟩) (v := ?_) rfl (by kernel_rfl) (by kernel_rfl) (by kernel_rfl) (by kernel_rfl) (fun _ _ _ h => h) (Or.inl ⟨by rfl, ?_⟩) hS ?_
    rotate_left
    · intro w' _; go_simp; try with_reducible rfl
    try simp only [Act.put, pb, pz, ps]
    refine wpAnyF_ready (rs := [12]) (by kernel_rfl) (by simp) ?_
    refine AllReadyF.cons (o := ⟨some 6, .alloc 376, 0, "sealed.go:30", #[], none⟩) rfl (by rfl) (fun K hK => ?_) ?_
    · go_simp
      refine hK.out _ _ ?_ (fun hS => ?_)
      · exact hS.alloc hS.size _
      clear hK K
      try simp only [Act.put, pb, pz, ps]
      refine wpAnyF_ready (rs := [13]) (by kernel_rfl) (by simp) ?_
      refine AllReadyF.fin (o := ⟨none, .store 376 (.tmp 6) (.tmp 25), 0, "sealed.go:30", #[⟨12, .data⟩, ⟨11, .data⟩, ⟨0, .phase⟩, ⟨1, .phase⟩, ⟨2, .phase⟩, ⟨3, .phase⟩, ⟨4, .phase⟩, ⟨5, .phase⟩, ⟨6, .phase⟩, ⟨7, .phase⟩, ⟨8, .phase⟩, ⟨9, .phase⟩, ⟨10, .phase⟩, ⟨11, .phase⟩, ⟨12, .phase⟩], none⟩) rfl (by rfl) (fun K hK => ?_) ?_
      · go_simp
        refine hK.out _ _ ?_
        clear hK K
        try simp only [Act.put, pb, pz, ps]
        refine wpAnyF_done (by kernel_rfl) ?_ _
        go_wp2_with fail
        refine (best_any' floor (j : Int) l _ R _ (HL.out.grow (HB1.out.trans (((Below.refl w1.heap.size w1).alloc (Nat.le_refl _) (.cells #[.bool true, .int .i64 s.b, .int .i64 c, .int .i64 floor] 376)).drew.mono (B' := w.heap.size) hle1)))).mono ?_
        rintro e w2 ⟨rfl, hb2⟩
        have hb2' := hb2.mono (B' := w1.heap.size + 1) (by simp)
        have hR := HK.out.grow (((Below.refl w1.heap.size w1).alloc (Nat.le_refl _) (.cells #[.bool true, .int .i64 s.b, .int .i64 c, .int .i64 floor] 376)).drew.trans (hb2'.mono (by omega)))
        have hN : Blk w2 w1.heap.size 376 #[.bool true, .int .i64 s.b, .int .i64 c, .int .i64 floor] := (Blk.new w1 376 #[.bool true, .int .i64 s.b, .int .i64 c, .int .i64 floor]).drew.below hb2' (by omega)
        have hB2 := (HB1.out.alloc hle1 (.cells #[.bool true, .int .i64 s.b, .int .i64 c, .int .i64 floor] 376)).drew.trans (hb2'.mono (B' := w.heap.size) (by omega))
        have hval : soldVal floor l = .agg #[.bool true, .int .i64 s.b, .int .i64 c, .int .i64 (nextC floor l j)] := by
          unfold soldVal
          rw [HBK.out]
          simp only [HSJ.out, Option.map_some, Option.getD_some]
        have HVAL := Lib.hid hval
        have HR := Lib.hid hR
        have HN := Lib.hid hN
        have HB2 := Lib.hid hB2
        clear hb2 hb2' hR hN hB2 hval hS
        cases hbk2 : bestK floor (j : Int) l l.length with
        | none =>
          have hnx : nextC floor l j = floor := by unfold nextC; rw [hbk2]
          have HNX := Lib.hid hnx
          have n0 := HN.out.cell 0
          have n1 := HN.out.cell 1
          have n2 := HN.out.cell 2
          have n3 := HN.out.cell 3
          have r0 := HR.out.cell 0
          have r1 := HR.out.cell 1
          have r2 := HR.out.cell 2
          have r3 := HR.out.cell 3
          have rf := HR.out.frozen
          have hq := (((HR.out.set_ 0 (.bool true)).set_ 1 (.int .i64 s.b)).set_ 2 (.int .i64 c)).set_ 3 (.int .i64 floor)
          have s0 := hq.cell 0
          have s1 := hq.cell 1
          have s2 := hq.cell 2
          have s3 := hq.cell 3
          simp at n0 n1 n2 n3 r0 r1 r2 r3 s0 s1 s2 s3
          have hat2 : atI none = -1 := rfl
          rw [hat2]
          clear hbk2 hnx hq
          go_wp2_with fail
          rw [HVAL.out, HNX.out]
          refine bodyPost_ret (v := .agg #[.bool true, .int .i64 s.b, .int .i64 c, .int .i64 floor]) (by simp [results, Tryz.results287, go_sem, s0, s1, s2, s3]) rfl ⟨rfl, ?_⟩
          exact (((HB2.out.setCell (p := ⟨w.heap.size, 0, none⟩) (by simp) _).setCell (p := ⟨w.heap.size, 1, none⟩) (by simp) _).setCell (p := ⟨w.heap.size, 2, none⟩) (by simp) _).setCell (p := ⟨w.heap.size, 3, none⟩) (by simp) _
        | some p2 =>
          obtain ⟨j2, c2⟩ := p2
          obtain ⟨hj2, s2, hsj2, hsc2⟩ := bestK_get hbk2
          have hnx : nextC floor l j = c2 := by unfold nextC; rw [hbk2]
          have HNX := Lib.hid hnx
          have hat2 : atI (some (j2, c2)) = (j2 : Int) := rfl
          have e3 : (0 : Int) ≤ (j2 : Int) := by omega
          have e4 : (j2 : Int) < (l.length : Int) := by omega
          have d1 : w2.cell? ⟨bb, off + j2 * 2 + 1, none⟩ = some (.int .i64 c2) := by rw [← hsc2]; exact (HB2.out.cell (p := ⟨bb, off + j2 * 2 + 1, none⟩) hbb).trans (HCS.out _ _ (Sec.all_snd l j2 s2 hsj2))
          have n3 : w2.cell? ⟨w1.heap.size, 3, none⟩ = some (.int .i64 floor) := HN.out.cell 3
          have nf : w2.frozen? ⟨w1.heap.size, 3, none⟩ = false := HN.out.frozen 3
          have hN3 := HN.out.set_ 3 (.int .i64 c2)
          have hR3 := HR.out.far (p := ⟨w1.heap.size, 3, none⟩) (show w.heap.size ≠ w1.heap.size by omega) (.int .i64 c2)
          have m0 := hN3.cell 0
          have m1 := hN3.cell 1
          have m2 := hN3.cell 2
          have m3 := hN3.cell 3
          have r0 := hR3.cell 0
          have r1 := hR3.cell 1
          have r2 := hR3.cell 2
          have r3 := hR3.cell 3
          have rf := hR3.frozen
          have hq := (((hR3.set_ 0 (.bool true)).set_ 1 (.int .i64 s.b)).set_ 2 (.int .i64 c)).set_ 3 (.int .i64 c2)
          have s0 := hq.cell 0
          have s1 := hq.cell 1
          have s2' := hq.cell 2
          have s3 := hq.cell 3
          simp at m0 m1 m2 m3 r0 r1 r2 r3 s0 s1 s2' s3
          rw [hat2]
          clear hbk2 hnx hq hN3 hR3 hsj2 hsc2 hat2
          go_wp2_with fail
          rw [HVAL.out, HNX.out]
          refine bodyPost_ret (v := .agg #[.bool true, .int .i64 s.b, .int .i64 c, .int .i64 c2]) (by simp [results, Tryz.results287, go_sem, s0, s1, s2', s3]) rfl ⟨rfl, ?_⟩
          exact ((((HB2.out.setCell (p := ⟨w1.heap.size, 3, none⟩) hle1 _).setCell (p := ⟨w.heap.size, 0, none⟩) (by simp) _).setCell (p := ⟨w.heap.size, 1, none⟩) (by simp) _).setCell (p := ⟨w.heap.size, 2, none⟩) (by simp) _).setCell (p := ⟨w.heap.size, 3, none⟩) (by simp) _
      exact AllReadyF.nil
    exact AllReadyF.nil
end Go.Proofs.YthoaidfpgijbfaaGreat.Vb
namespace Go.Proofs.YthoaidfpgijbfaaGreat.Vb
open Go.RowKit
open Go.Maps (Keyed)
def MapI (P : Program) (kt et : TypeId) (w : World) (b n : Nat) (F : Int → Option Int) : Prop :=
  ∃ D : DataW Unit, Maps.IsMap D ∧ w.ownsMap P kt (plainElem P et) b n D ∧ ∀ x z, D.atKey (.int .i64 x) z = match F x with | some v => .lit (.int .i64 v) | none => z
section
variable {P : Program} {kt et t : TypeId} {w w' : World} {b n : Nat} {F : Int → Option Int}
theorem MapI.lt (h : MapI P kt et w b n F) : b < w.heap.size := let ⟨_, _, h2, _⟩ := h; h2.lt
theorem MapI.made (w : World) : MapI P kt et (w.alloc (.map #[] 0)) w.heap.size 0 (fun _ => none) :=
  ⟨.map [], Maps.isMap_empty, World.ownsMap_made w P kt _, fun x z => by simp [DataW.atKey]⟩
theorem MapI.alloc (h : MapI P kt et w b n F) (o : Obj) : MapI P kt et (w.alloc o) b n F := let ⟨D, h1, h2, h3⟩ := h; ⟨D, h1, h2.alloc o, h3⟩
theorem MapI.look (h : MapI P kt et w b n F) (K : Keyed P kt) (ht : P.underlying t = some (.map kt et)) (hk : P.underlying kt = some (.int .i64)) (he : P.underlying et = some (.int .i64)) (hz : (zeroValue et).run P w = .ok (.int .i64 0) w) {x : Int} (hx : (Lit.int .i64 x).wf = true) :
    (Instr.lookup t (.map (some b)) (.int .i64 x) false).run P w = .ok (.int .i64 ((F x).getD 0)) w := by
  obtain ⟨D, h1, h2, h3⟩ := h
  obtain ⟨c, hrun, hat, _⟩ := h2.lookup_int K ht he hz (Maps.keyOf_int_mk hk hx)
  rw [hrun]
  rw [h3 x] at hat
  cases hF : F x with
  | none => rw [hF] at hat; simp at hat; rw [← hat]; rfl
  | some v => rw [hF] at hat; simp at hat; rw [← hat]; rfl
theorem MapI.store (h : MapI P kt et w b n F) (K : Keyed P kt) (ht : P.underlying t = some (.map kt et)) (hk : P.underlying kt = some (.int .i64)) (he : P.underlying et = some (.int .i64)) (hn : n < maxLen) {x v : Int} (hx : (Lit.int .i64 x).wf = true) (hv : (Lit.int .i64 v).wf = true) :
    ∃ w', (Instr.mapUpdate t (.map (some b)) (.int .i64 x) (.int .i64 v)).run P w = .ok () w' ∧ MapI P kt et w' b (n + 1) (fun y => if y = x then some v else F y) ∧ w.grownBy w' (some b) := by
  obtain ⟨D, h1, h2, h3⟩ := h
  obtain ⟨w', hrun, h4, h5⟩ := h2.update K ht hn (Maps.keyOf_int_mk hk hx) (plainElem_int he hv)
  refine ⟨w', hrun, ⟨_, h1.put _ _, h4, fun y z => ?_⟩, h5⟩
  by_cases hy : y = x
  · subst hy
    rw [Maps.atKey_put_same h1 (show WideAt.IsKeyLit (.int .i64 y) from trivial)]
    simp
  · rw [Maps.atKey_put_other (fun e => hy (by injection e)), h3]
    simp [hy]
end
theorem int_keyed' : Keyed Tryz.prog 3 := Maps.int_keyed Tryz.underlying3
end Go.Proofs.YthoaidfpgijbfaaGreat.Vb

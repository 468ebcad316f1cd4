/- Joined by program: Sealed Come MapI Sell Tru1 Tru2 CostsW PlainH. -/
import Derived.Test.YtcigobiolbojhaaZd
import Derived.Test.YtcigobiolbojhaaZb
import Derived.Test.YtcigobiolbojhaaZa
import Derived.Maps.OwnOps
import Derived.Maps.Views
import Derived.Maps.OwnSet
/- sealed.best, sealed.come. -/
namespace Go.Proofs.Ytcigobiolbojhaa.Vb
open Go.RowKit

def beats (a : Option (Nat × Int)) (c : Int) : Bool := match a with | none => true | some (_, c0) => decide (c0 < c)
def bstep (floor but : Int) (i : Nat) (s : Sec) (a : Option (Nat × Int)) : Option (Nat × Int) := if decide ((i : Int) ≠ but) && decide (floor ≤ s.c) && beats a s.c then some (i, s.c) else a
/-- the best of the first k bids: its place, its coins -/
def bestK (floor but : Int) (l : List Sec) : Nat → Option (Nat × Int)
  | 0 => none
  | k + 1 => match l[k]? with | some s => bstep floor but k s (bestK floor but l k) | none => bestK floor but l k
def atI (a : Option (Nat × Int)) : Int := match a with | none => -1 | some (j, _) => j
theorem bestK_succ {floor but : Int} {l : List Sec} {k : Nat} {s : Sec} (h : l[k]? = some s) : bestK floor but l (k + 1) = bstep floor but k s (bestK floor but l k) := by simp [bestK, h]
theorem bestK_get {floor but : Int} {l : List Sec} : ∀ {k j : Nat} {c : Int}, bestK floor but l k = some (j, c) → j < k ∧ ∃ s, l[j]? = some s ∧ s.c = c
  | 0, j, c, h => by simp [bestK] at h
  | k + 1, j, c, h => by
    simp only [bestK] at h
    cases hl : l[k]? with
    | none =>
      rw [hl] at h
      obtain ⟨h1, h2⟩ := bestK_get h
      exact ⟨by omega, h2⟩
    | some s =>
      rw [hl] at h
      simp only [bstep] at h
      split at h
      · simp only [Option.some.injEq, Prod.mk.injEq] at h
        obtain ⟨rfl, rfl⟩ := h
        exact ⟨by omega, s, hl, rfl⟩
      · obtain ⟨h1, h2⟩ := bestK_get h
        exact ⟨by omega, h2⟩

set_option maxRecDepth 100000 in
set_option maxHeartbeats 1600000 in
theorem best_any' (floor but : Int) (l : List Sec) (v : Value) (R : Nat → Prop) (w : World) (hl : Secs w R v l) :
    Calls Try.prog 150 #[.int .i64 floor, v, .int .i64 but] w fun e w' => e = .returned (.int .i64 (atI (bestK floor but l l.length))) ∧ Below w.heap.size w w' := by
  obtain ⟨⟨_, A, cap, rfl, hncap, hcap, hcells⟩, hwf⟩ := hl
  unfold maxLen at hcap
  have HC := Lib.hid hcells
  clear hcells hwf
  go_enter Try.func150, Try.ntmps150
  go_wp2_with fail
  go_loopw [7, 12] (fun a i wr => ∃ k : Nat, k ≤ l.length ∧ i = .int .i64 k ∧ a = .int .i64 (atI (bestK floor but l k)) ∧ Below w.heap.size w wr) (fun _ i _ => l.length - (intOf i).toNat)
  case atStart => exact ⟨0, Nat.zero_le _, rfl, rfl, Below.refl _ _⟩
  case round =>
    obtain ⟨k, hk, rfl, rfl, hb⟩ := hrel
    have HB := Lib.hid hb
    by_cases hlt : k < l.length
    · obtain ⟨bb, off, rfl, _, hbb, hcs⟩ := HC.out (by omega)
      obtain ⟨o, ho⟩ : ∃ o, l[k]? = some o := ⟨_, List.getElem?_eq_getElem hlt⟩
      have c0 : wr.cell? ⟨bb, off + k * 2, none⟩ = some (.int .i64 o.b) := (hb.cell hbb).trans (hcs _ _ (Sec.all_fst l k o ho))
      have c1 : wr.cell? ⟨bb, off + k * 2 + 1, none⟩ = some (.int .i64 o.c) := (hb.cell hbb).trans (hcs _ _ (Sec.all_snd l k o ho))
      have hsu := bestK_succ (floor := floor) (but := but) ho
      have HSU := Lib.hid hsu
      have e1 : (0 : Int) ≤ (k : Int) := by omega
      have e2 : (k : Int) < (l.length : Int) := by omega
      have hbl : ∀ q, Below w.heap.size w ((wr.alloc (.cells #[.int .i64 o.b, .int .i64 o.c] 148)).drewN q) := fun q => below_drewN (HB.out.alloc HB.out.size _) q
      have HBL := Lib.hid hbl
      clear hb ho hsu hbl
      by_cases hk1 : (k : Int) = but
      · have hn : bestK floor but l (k + 1) = bestK floor but l k := by rw [HSU.out, bstep]; simp [hk1]
        have HN := Lib.hid hn
        have hne : ((k : Int) != but) = false := by simpa using hk1
        have HK := Lib.hid hk1
        clear hn hk1 hcs
        go_wp2_with fail
        go_quiet (fail)
        go_wp2_with fail
        go_roundw
        case rel => exact ⟨k + 1, by omega, by go_num, by rw [HN.out], HBL.out _⟩
        case measure => simp [intOf]; omega
      · have hne : ((k : Int) != but) = true := by simpa using hk1
        have HK := Lib.hid hk1
        clear hk1
        by_cases hf : floor ≤ o.c
        · cases hbk : bestK floor but l k with
          | none =>
            have hn : bestK floor but l (k + 1) = some (k, o.c) := by rw [HSU.out, hbk, bstep]; simp [beats, hf]; intro h; exact absurd h HK.out
            have HN := Lib.hid hn
            have hat : atI none = -1 := rfl
            clear hn hcs hbk
            rw [hat]
            go_wp2_with fail
            go_quiet (fail)
            go_wp2_with fail
            go_roundw
            case rel => exact ⟨k + 1, by omega, by go_num, by rw [HN.out]; rfl, HBL.out _⟩
            case measure => simp [intOf]; omega
          | some p =>
            obtain ⟨j, c⟩ := p
            obtain ⟨hjk, s, hs, hsc⟩ := bestK_get hbk
            have d1 : wr.cell? ⟨bb, off + j * 2 + 1, none⟩ = some (.int .i64 c) := by rw [← hsc]; exact (HB.out.cell hbb).trans (hcs _ _ (Sec.all_snd l j s hs))
            have d2 := cellAlloc d1 (.cells #[.int .i64 o.b, .int .i64 o.c] 148)
            have hat : atI (some (j, c)) = (j : Int) := rfl
            have e3 : (0 : Int) ≤ (j : Int) := by omega
            have e4 : (j : Int) < (l.length : Int) := by omega
            rw [hat]
            by_cases hlt2 : c < o.c
            · have hn : bestK floor but l (k + 1) = some (k, o.c) := by rw [HSU.out, hbk, bstep]; simp [beats, hf, hlt2]; intro h; exact absurd h HK.out
              have HN := Lib.hid hn
              clear hn hcs hbk hs hsc hat
              go_wp2_with fail
              go_quiet (fail)
              go_wp2_with fail
              go_roundw
              case rel => exact ⟨k + 1, by omega, by go_num, by rw [HN.out]; rfl, HBL.out _⟩
              case measure => simp [intOf]; omega
            · have hn : bestK floor but l (k + 1) = some (j, c) := by rw [HSU.out, hbk, bstep]; simp [beats, hlt2]
              have HN := Lib.hid hn
              clear hn hcs hbk hs hsc hat
              go_wp2_with fail
              go_quiet (fail)
              go_wp2_with fail
              go_roundw
              case rel => exact ⟨k + 1, by omega, by go_num, by rw [HN.out]; rfl, HBL.out _⟩
              case measure => simp [intOf]; omega
        · have hn : bestK floor but l (k + 1) = bestK floor but l k := by rw [HSU.out, bstep]; simp [hf]
          have HN := Lib.hid hn
          have hfd : decide (floor ≤ o.c) = false := by simpa using hf
          clear hn hcs hf
          go_wp2_with fail
          go_quiet (fail)
          go_wp2_with fail
          go_roundw
          case rel => exact ⟨k + 1, by omega, by go_num, by rw [HN.out], HBL.out _⟩
          case measure => simp [intOf]; omega
    · obtain rfl : k = l.length := by omega
      clear hb
      go_wp2_with fail
      go_ret
      exact ⟨rfl, HB.out⟩
end Go.Proofs.Ytcigobiolbojhaa.Vb

/- sealed.come. -/
namespace Go.Proofs.Ytcigobiolbojhaa.Vb
open Go.RowKit

def nextC (floor : Int) (l : List Sec) (j : Nat) : Int := match bestK floor (j : Int) l l.length with | none => floor | some (_, c) => c
def soldVal (floor : Int) (l : List Sec) : Value := match bestK floor (-1) l l.length with
  | none => .agg #[.bool false, .int .i64 0, .int .i64 0, .int .i64 0]
  | some (j, c) => .agg #[.bool true, .int .i64 ((l[j]?.map (·.b)).getD 0), .int .i64 c, .int .i64 (nextC floor l j)]

set_option maxRecDepth 100000 in
set_option maxHeartbeats 1600000 in
theorem come_any (floor : Int) (l : List Sec) (v : Value) (R : Nat → Prop) (w : World) (hl : Secs w R v l) :
    Calls Try.prog 130 #[.int .i64 floor, v] w fun e w' => e = .returned (soldVal floor l) ∧ Below w.heap.size w w' := by
  have HL := Lib.hid hl
  obtain ⟨⟨_, A, cap, rfl, hncap, hcap, hcells⟩, _⟩ := hl
  unfold maxLen at hcap
  have HC := Lib.hid hcells
  clear hcells
  cases hbk : bestK floor (-1) l l.length with
  | none =>
    have hs : soldVal floor l = .agg #[.bool false, .int .i64 0, .int .i64 0, .int .i64 0] := by unfold soldVal; rw [hbk]
    have HS := Lib.hid hs
    have HBK := Lib.hid hbk
    clear hs hbk
    have hat : atI none = -1 := rfl
    go_enter Try.func130, Try.ntmps130
    go_wp2_with (go_at_call 150; refine (best_any' floor (-1) l _ R _ (HL.out.alloc _)).mono ?_; rintro e w1 ⟨rfl, hb1⟩; rw [HBK.out, hat]; have hk := (Blk.new w 150 #[.bool false, .int .i64 0, .int .i64 0, .int .i64 0]).grow hb1; have q0 := hk.cell 0; have q1 := hk.cell 1; have q2 := hk.cell 2; have q3 := hk.cell 3; have qf := hk.frozen; simp at q0 q1 q2 q3; have HK := Lib.hid hk; have HB1 := Lib.hid (((Below.refl _ _).alloc (Nat.le_refl _) _).trans (hb1.mono (B' := w.heap.size) (by simp))); clear hb1 hk)
    have hq := (((HK.out.set_ 0 (.bool false)).set_ 1 (.int .i64 0)).set_ 2 (.int .i64 0)).set_ 3 (.int .i64 0)
    have r0 := hq.cell 0
    have r1 := hq.cell 1
    have r2 := hq.cell 2
    have r3 := hq.cell 3
    simp at r0 r1 r2 r3
    rw [HS.out]
    refine bodyPost_ret (v := .agg #[.bool false, .int .i64 0, .int .i64 0, .int .i64 0]) (by simp [results, Try.results130, go_sem, r0, r1, r2, r3]) rfl ⟨rfl, ?_⟩
    exact (((HB1.out.setCell (p := ⟨w.heap.size, 0, none⟩) (by simp) _).setCell (p := ⟨w.heap.size, 1, none⟩) (by simp) _).setCell (p := ⟨w.heap.size, 2, none⟩) (by simp) _).setCell (p := ⟨w.heap.size, 3, none⟩) (by simp) _
  | some p =>
    obtain ⟨j, c⟩ := p
    obtain ⟨hj, s, hsj, hsc⟩ := bestK_get hbk
    have HBK := Lib.hid hbk
    have HSJ := Lib.hid hsj
    obtain ⟨bb, off, rfl, _, hbb, hcs⟩ := HC.out (by omega)
    have c0 : w.cell? ⟨bb, off + j * 2, none⟩ = some (.int .i64 s.b) := hcs _ _ (Sec.all_fst l j s hsj)
    have c1 : w.cell? ⟨bb, off + j * 2 + 1, none⟩ = some (.int .i64 c) := by rw [← hsc]; exact hcs _ _ (Sec.all_snd l j s hsj)
    have C0 := Lib.hid c0
    have C1 := Lib.hid c1
    have HSC := Lib.hid hsc
    have hat : atI (some (j, c)) = (j : Int) := rfl
    have e1 : (0 : Int) ≤ (j : Int) := by omega
    have e2 : (j : Int) < (l.length : Int) := by omega
    have HCS := Lib.hid hcs
    clear hbk hsj hsc c0 c1 hcs
    go_enter Try.func130, Try.ntmps130
    go_wp2_with (go_at_call 150; refine (best_any' floor (-1) l _ R _ (HL.out.alloc _)).mono ?_; rintro e w1 ⟨rfl, hb1⟩; rw [HBK.out, hat]; have hk := (Blk.new w 150 #[.bool false, .int .i64 0, .int .i64 0, .int .i64 0]).grow hb1; have hb := ((Below.refl w.heap.size w).alloc (Nat.le_refl _) (.cells #[.bool false, .int .i64 0, .int .i64 0, .int .i64 0] 150)).trans (hb1.mono (B' := w.heap.size) (by simp)); have c0 := (hb.cell (p := ⟨bb, off + j * 2, none⟩) hbb).trans C0.out; have c1 := (hb.cell (p := ⟨bb, off + j * 2 + 1, none⟩) hbb).trans C1.out; have HK := Lib.hid hk; have HB1 := Lib.hid hb; clear hb1 hk hb)
    have hbb1 : bb < w1.heap.size := Nat.lt_of_lt_of_le hbb HB1.out.size
    have hle1 := HB1.out.size
    have hkl := HK.out.lt
    refine wp_region_F (Below w1.heap.size w1) [13] (by kernel_rfl) ((Below.refl _ _).drew) (fun hS => ?_)
    refine wpAnyF_take (i := 0) (oi := { dst := some 14, op := Go.Op.move (Go.Operand.tmp 1), type := 116, pos := "sealed.go:30", after := #[], guard := none }) (v := ?_) rfl (by kernel_rfl) (by kernel_rfl) (by kernel_rfl) (by kernel_rfl) (fun _ _ _ h => h) (Or.inl ⟨by rfl, ?_⟩) hS ?_
    rotate_left
    · intro w' hSw; have q1 := (hSw.cell (p := ⟨bb, off + j * 2, none⟩) hbb1).trans c0; have q2 := (hSw.cell (p := ⟨bb, off + j * 2 + 1, none⟩) hbb1).trans c1; go_simp; try with_reducible rfl
    try simp only [Act.put, List.setIfInBounds_toArray, List.set_cons_zero, List.set_cons_succ]
    refine wpAnyF_take (i := 1) (oi := { dst := some 15, op := Go.Op.move (Go.Operand.tmp 5), type := 3, pos := "sealed.go:30", after := #[], guard := none }) (v := ?_) rfl (by kernel_rfl) (by kernel_rfl) (by kernel_rfl) (by kernel_rfl) (fun _ _ _ h => h) (Or.inl ⟨by rfl, ?_⟩) hS ?_
    rotate_left
    · intro w' hSw; have q1 := (hSw.cell (p := ⟨bb, off + j * 2, none⟩) hbb1).trans c0; have q2 := (hSw.cell (p := ⟨bb, off + j * 2 + 1, none⟩) hbb1).trans c1; go_simp; try with_reducible rfl
    try simp only [Act.put, List.setIfInBounds_toArray, List.set_cons_zero, List.set_cons_succ]
    refine wpAnyF_take (i := 2) (oi := { dst := some 16, op := Go.Op.indexAddr 116 (Go.Operand.tmp 14) (Go.Operand.tmp 15), type := 0, pos := "sealed.go:30", after := #[{ on := 0, ground := Go.Ground.data }, { on := 1, ground := Go.Ground.data }], guard := none }) (v := ?_) rfl (by kernel_rfl) (by kernel_rfl) (by kernel_rfl) (by kernel_rfl) (fun _ _ _ h => h) (Or.inl ⟨by rfl, ?_⟩) hS ?_
    rotate_left
    · intro w' hSw; have q1 := (hSw.cell (p := ⟨bb, off + j * 2, none⟩) hbb1).trans c0; have q2 := (hSw.cell (p := ⟨bb, off + j * 2 + 1, none⟩) hbb1).trans c1; go_simp; try with_reducible rfl
    try simp only [Act.put, List.setIfInBounds_toArray, List.set_cons_zero, List.set_cons_succ]
    refine wpAnyF_take (i := 3) (oi := { dst := some 17, op := Go.Op.fieldAddr 148 (Go.Operand.tmp 16) 0, type := 0, pos := "sealed.go:30", after := #[{ on := 2, ground := Go.Ground.data }], guard := none }) (v := ?_) rfl (by kernel_rfl) (by kernel_rfl) (by kernel_rfl) (by kernel_rfl) (fun _ _ _ h => h) (Or.inl ⟨by rfl, ?_⟩) hS ?_
    rotate_left
    · intro w' hSw; have q1 := (hSw.cell (p := ⟨bb, off + j * 2, none⟩) hbb1).trans c0; have q2 := (hSw.cell (p := ⟨bb, off + j * 2 + 1, none⟩) hbb1).trans c1; go_simp; try with_reducible rfl
    try simp only [Act.put, List.setIfInBounds_toArray, List.set_cons_zero, List.set_cons_succ]
    refine wpAnyF_take (i := 4) (oi := { dst := some 18, op := Go.Op.load 3 (Go.Operand.tmp 17), type := 3, pos := "sealed.go:30", after := #[{ on := 3, ground := Go.Ground.data }], guard := none }) (v := ?_) rfl (by kernel_rfl) (by kernel_rfl) (by kernel_rfl) (by kernel_rfl) (fun _ _ _ h => h) (Or.inl ⟨by rfl, ?_⟩) hS ?_
    rotate_left
    · intro w' hSw; have q1 := (hSw.cell (p := ⟨bb, off + j * 2, none⟩) hbb1).trans c0; have q2 := (hSw.cell (p := ⟨bb, off + j * 2 + 1, none⟩) hbb1).trans c1; go_simp; try with_reducible rfl
    try simp only [Act.put, List.setIfInBounds_toArray, List.set_cons_zero, List.set_cons_succ]
    refine wpAnyF_take (i := 5) (oi := { dst := some 19, op := Go.Op.move (Go.Operand.tmp 1), type := 116, pos := "sealed.go:30", after := #[], guard := none }) (v := ?_) rfl (by kernel_rfl) (by kernel_rfl) (by kernel_rfl) (by kernel_rfl) (fun _ _ _ h => h) (Or.inl ⟨by rfl, ?_⟩) hS ?_
    rotate_left
    · intro w' hSw; have q1 := (hSw.cell (p := ⟨bb, off + j * 2, none⟩) hbb1).trans c0; have q2 := (hSw.cell (p := ⟨bb, off + j * 2 + 1, none⟩) hbb1).trans c1; go_simp; try with_reducible rfl
    try simp only [Act.put, List.setIfInBounds_toArray, List.set_cons_zero, List.set_cons_succ]
    refine wpAnyF_take (i := 6) (oi := { dst := some 20, op := Go.Op.move (Go.Operand.tmp 5), type := 3, pos := "sealed.go:30", after := #[], guard := none }) (v := ?_) rfl (by kernel_rfl) (by kernel_rfl) (by kernel_rfl) (by kernel_rfl) (fun _ _ _ h => h) (Or.inl ⟨by rfl, ?_⟩) hS ?_
    rotate_left
    · intro w' hSw; have q1 := (hSw.cell (p := ⟨bb, off + j * 2, none⟩) hbb1).trans c0; have q2 := (hSw.cell (p := ⟨bb, off + j * 2 + 1, none⟩) hbb1).trans c1; go_simp; try with_reducible rfl
    try simp only [Act.put, List.setIfInBounds_toArray, List.set_cons_zero, List.set_cons_succ]
    refine wpAnyF_take (i := 7) (oi := { dst := some 21, op := Go.Op.indexAddr 116 (Go.Operand.tmp 19) (Go.Operand.tmp 20), type := 0, pos := "sealed.go:30", after := #[{ on := 5, ground := Go.Ground.data }, { on := 6, ground := Go.Ground.data }], guard := none }) (v := ?_) rfl (by kernel_rfl) (by kernel_rfl) (by kernel_rfl) (by kernel_rfl) (fun _ _ _ h => h) (Or.inl ⟨by rfl, ?_⟩) hS ?_
    rotate_left
    · intro w' hSw; have q1 := (hSw.cell (p := ⟨bb, off + j * 2, none⟩) hbb1).trans c0; have q2 := (hSw.cell (p := ⟨bb, off + j * 2 + 1, none⟩) hbb1).trans c1; go_simp; try with_reducible rfl
    try simp only [Act.put, List.setIfInBounds_toArray, List.set_cons_zero, List.set_cons_succ]
    refine wpAnyF_take (i := 8) (oi := { dst := some 22, op := Go.Op.fieldAddr 148 (Go.Operand.tmp 21) 1, type := 0, pos := "sealed.go:30", after := #[{ on := 7, ground := Go.Ground.data }], guard := none }) (v := ?_) rfl (by kernel_rfl) (by kernel_rfl) (by kernel_rfl) (by kernel_rfl) (fun _ _ _ h => h) (Or.inl ⟨by rfl, ?_⟩) hS ?_
    rotate_left
    · intro w' hSw; have q1 := (hSw.cell (p := ⟨bb, off + j * 2, none⟩) hbb1).trans c0; have q2 := (hSw.cell (p := ⟨bb, off + j * 2 + 1, none⟩) hbb1).trans c1; go_simp; try with_reducible rfl
    try simp only [Act.put, List.setIfInBounds_toArray, List.set_cons_zero, List.set_cons_succ]
    refine wpAnyF_take (i := 9) (oi := { dst := some 23, op := Go.Op.load 2 (Go.Operand.tmp 22), type := 2, pos := "sealed.go:30", after := #[{ on := 8, ground := Go.Ground.data }], guard := none }) (v := ?_) rfl (by kernel_rfl) (by kernel_rfl) (by kernel_rfl) (by kernel_rfl) (fun _ _ _ h => h) (Or.inl ⟨by rfl, ?_⟩) hS ?_
    rotate_left
    · intro w' hSw; have q1 := (hSw.cell (p := ⟨bb, off + j * 2, none⟩) hbb1).trans c0; have q2 := (hSw.cell (p := ⟨bb, off + j * 2 + 1, none⟩) hbb1).trans c1; go_simp; try with_reducible rfl
    try simp only [Act.put, List.setIfInBounds_toArray, List.set_cons_zero, List.set_cons_succ]
    refine wpAnyF_take (i := 10) (oi := { dst := some 24, op := Go.Op.move (Go.Operand.tmp 0), type := 2, pos := "sealed.go:30", after := #[], guard := none }) (v := ?_) rfl (by kernel_rfl) (by kernel_rfl) (by kernel_rfl) (by kernel_rfl) (fun _ _ _ h => h) (Or.inl ⟨by rfl, ?_⟩) hS ?_
    rotate_left
    · intro w' hSw; have q1 := (hSw.cell (p := ⟨bb, off + j * 2, none⟩) hbb1).trans c0; have q2 := (hSw.cell (p := ⟨bb, off + j * 2 + 1, none⟩) hbb1).trans c1; go_simp; try with_reducible rfl
    try simp only [Act.put, List.setIfInBounds_toArray, List.set_cons_zero, List.set_cons_succ]
    refine wpAnyF_take (i := 11) (oi := { dst := some 25, op := Go.Op.build 150 #[(0, Go.Operand.const (Go.Value.bool true)), (1, Go.Operand.tmp 18), (2, Go.Operand.tmp 23), (3, Go.Operand.tmp 24)], type := 150, pos := "sealed.go:30", after := #[{ on := 4, ground := Go.Ground.data }, { on := 9, ground := Go.Ground.data }, { on := 10, ground := Go.Ground.data }], guard := none }) (v := ?_) rfl (by kernel_rfl) (by kernel_rfl) (by kernel_rfl) (by kernel_rfl) (fun _ _ _ h => h) (Or.inl ⟨by rfl, ?_⟩) hS ?_
    rotate_left
    · intro w' hSw; have q1 := (hSw.cell (p := ⟨bb, off + j * 2, none⟩) hbb1).trans c0; have q2 := (hSw.cell (p := ⟨bb, off + j * 2 + 1, none⟩) hbb1).trans c1; go_simp; try with_reducible rfl
    try simp only [Act.put, List.setIfInBounds_toArray, List.set_cons_zero, List.set_cons_succ]
    refine wpAnyF_ready (rs := [12]) (by kernel_rfl) (by simp) ?_
    refine AllReadyF.cons (o := { dst := some 6, op := Go.Op.alloc 150, type := 0, pos := "sealed.go:30", after := #[], guard := none }) rfl (by rfl) (fun K hK => ?_) ?_
    · go_simp
      refine hK.out _ _ ?_ (fun hS => ?_)
      · exact hS.alloc hS.size _
      clear hK K
      try simp only [Act.put, List.setIfInBounds_toArray, List.set_cons_zero, List.set_cons_succ]
      refine wpAnyF_ready (rs := [13]) (by kernel_rfl) (by simp) ?_
      refine AllReadyF.fin (o := { dst := none, op := Go.Op.store 150 (Go.Operand.tmp 6) (Go.Operand.tmp 25), type := 0, pos := "sealed.go:30", after := #[{ on := 12, ground := Go.Ground.data }, { on := 11, ground := Go.Ground.data }, { on := 0, ground := Go.Ground.phase }, { on := 1, ground := Go.Ground.phase }, { on := 2, ground := Go.Ground.phase }, { on := 3, ground := Go.Ground.phase }, { on := 4, ground := Go.Ground.phase }, { on := 5, ground := Go.Ground.phase }, { on := 6, ground := Go.Ground.phase }, { on := 7, ground := Go.Ground.phase }, { on := 8, ground := Go.Ground.phase }, { on := 9, ground := Go.Ground.phase }, { on := 10, ground := Go.Ground.phase }, { on := 11, ground := Go.Ground.phase }, { on := 12, ground := Go.Ground.phase }], guard := none }) rfl (by rfl) (fun K hK => ?_) ?_
      · go_simp
        refine hK.out _ _ ?_
        clear hK K
        try simp only [Act.put, List.setIfInBounds_toArray, List.set_cons_zero, List.set_cons_succ]
        refine wpAnyF_done (by kernel_rfl) ?_ _
        go_wp2_with fail
        refine (best_any' floor (j : Int) l _ R _ (HL.out.grow (HB1.out.trans (((Below.refl w1.heap.size w1).alloc (Nat.le_refl _) (.cells #[.bool true, .int .i64 s.b, .int .i64 c, .int .i64 floor] 150)).drew.mono (B' := w.heap.size) hle1)))).mono ?_
        rintro e w2 ⟨rfl, hb2⟩
        have hb2' := hb2.mono (B' := w1.heap.size + 1) (by simp)
        have hR := HK.out.grow (((Below.refl w1.heap.size w1).alloc (Nat.le_refl _) (.cells #[.bool true, .int .i64 s.b, .int .i64 c, .int .i64 floor] 150)).drew.trans (hb2'.mono (by omega)))
        have hN : Blk w2 w1.heap.size 150 #[.bool true, .int .i64 s.b, .int .i64 c, .int .i64 floor] := (Blk.new w1 150 #[.bool true, .int .i64 s.b, .int .i64 c, .int .i64 floor]).drew.below hb2' (by omega)
        have hB2 := (HB1.out.alloc hle1 (.cells #[.bool true, .int .i64 s.b, .int .i64 c, .int .i64 floor] 150)).drew.trans (hb2'.mono (B' := w.heap.size) (by omega))
        have hval : soldVal floor l = .agg #[.bool true, .int .i64 s.b, .int .i64 c, .int .i64 (nextC floor l j)] := by
          unfold soldVal
          rw [HBK.out]
          simp only [HSJ.out, Option.map_some, Option.getD_some]
        have HVAL := Lib.hid hval
        have HR := Lib.hid hR
        have HN := Lib.hid hN
        have HB2 := Lib.hid hB2
        clear hb2 hb2' hR hN hB2 hval hS
        cases hbk2 : bestK floor (j : Int) l l.length with
        | none =>
          have hnx : nextC floor l j = floor := by unfold nextC; rw [hbk2]
          have HNX := Lib.hid hnx
          have n0 := HN.out.cell 0
          have n1 := HN.out.cell 1
          have n2 := HN.out.cell 2
          have n3 := HN.out.cell 3
          have r0 := HR.out.cell 0
          have r1 := HR.out.cell 1
          have r2 := HR.out.cell 2
          have r3 := HR.out.cell 3
          have rf := HR.out.frozen
          have hq := (((HR.out.set_ 0 (.bool true)).set_ 1 (.int .i64 s.b)).set_ 2 (.int .i64 c)).set_ 3 (.int .i64 floor)
          have s0 := hq.cell 0
          have s1 := hq.cell 1
          have s2 := hq.cell 2
          have s3 := hq.cell 3
          simp at n0 n1 n2 n3 r0 r1 r2 r3 s0 s1 s2 s3
          have hat2 : atI none = -1 := rfl
          rw [hat2]
          clear hbk2 hnx hq
          go_wp2_with fail
          rw [HVAL.out, HNX.out]
          refine bodyPost_ret (v := .agg #[.bool true, .int .i64 s.b, .int .i64 c, .int .i64 floor]) (by simp [results, Try.results130, go_sem, s0, s1, s2, s3]) rfl ⟨rfl, ?_⟩
          exact (((HB2.out.setCell (p := ⟨w.heap.size, 0, none⟩) (by simp) _).setCell (p := ⟨w.heap.size, 1, none⟩) (by simp) _).setCell (p := ⟨w.heap.size, 2, none⟩) (by simp) _).setCell (p := ⟨w.heap.size, 3, none⟩) (by simp) _
        | some p2 =>
          obtain ⟨j2, c2⟩ := p2
          obtain ⟨hj2, s2, hsj2, hsc2⟩ := bestK_get hbk2
          have hnx : nextC floor l j = c2 := by unfold nextC; rw [hbk2]
          have HNX := Lib.hid hnx
          have hat2 : atI (some (j2, c2)) = (j2 : Int) := rfl
          have e3 : (0 : Int) ≤ (j2 : Int) := by omega
          have e4 : (j2 : Int) < (l.length : Int) := by omega
          have d1 : w2.cell? ⟨bb, off + j2 * 2 + 1, none⟩ = some (.int .i64 c2) := by rw [← hsc2]; exact (HB2.out.cell (p := ⟨bb, off + j2 * 2 + 1, none⟩) hbb).trans (HCS.out _ _ (Sec.all_snd l j2 s2 hsj2))
          have n3 : w2.cell? ⟨w1.heap.size, 3, none⟩ = some (.int .i64 floor) := HN.out.cell 3
          have nf : w2.frozen? ⟨w1.heap.size, 3, none⟩ = false := HN.out.frozen 3
          have hN3 := HN.out.set_ 3 (.int .i64 c2)
          have hR3 := HR.out.far (p := ⟨w1.heap.size, 3, none⟩) (show w.heap.size ≠ w1.heap.size by omega) (.int .i64 c2)
          have m0 := hN3.cell 0
          have m1 := hN3.cell 1
          have m2 := hN3.cell 2
          have m3 := hN3.cell 3
          have r0 := hR3.cell 0
          have r1 := hR3.cell 1
          have r2 := hR3.cell 2
          have r3 := hR3.cell 3
          have rf := hR3.frozen
          have hq := (((hR3.set_ 0 (.bool true)).set_ 1 (.int .i64 s.b)).set_ 2 (.int .i64 c)).set_ 3 (.int .i64 c2)
          have s0 := hq.cell 0
          have s1 := hq.cell 1
          have s2' := hq.cell 2
          have s3 := hq.cell 3
          simp at m0 m1 m2 m3 r0 r1 r2 r3 s0 s1 s2' s3
          rw [hat2]
          clear hbk2 hnx hq hN3 hR3 hsj2 hsc2 hat2
          go_wp2_with fail
          rw [HVAL.out, HNX.out]
          refine bodyPost_ret (v := .agg #[.bool true, .int .i64 s.b, .int .i64 c, .int .i64 c2]) (by simp [results, Try.results130, go_sem, s0, s1, s2', s3]) rfl ⟨rfl, ?_⟩
          exact ((((HB2.out.setCell (p := ⟨w1.heap.size, 3, none⟩) hle1 _).setCell (p := ⟨w.heap.size, 0, none⟩) (by simp) _).setCell (p := ⟨w.heap.size, 1, none⟩) (by simp) _).setCell (p := ⟨w.heap.size, 2, none⟩) (by simp) _).setCell (p := ⟨w.heap.size, 3, none⟩) (by simp) _
      exact AllReadyF.nil
    exact AllReadyF.nil
end Go.Proofs.Ytcigobiolbojhaa.Vb

/- A map of ints to ints, of the call's own, as a function. -/
namespace Go.Proofs.Ytcigobiolbojhaa.Vb
open Go.RowKit
open Go.Maps (Keyed)

def MapI (P : Program) (kt et : TypeId) (w : World) (b n : Nat) (F : Int → Option Int) : Prop :=
  ∃ D : DataW Unit, Maps.IsMap D ∧ w.ownsMap P kt (plainElem P et) b n D ∧ ∀ x z, D.atKey (.int .i64 x) z = match F x with | some v => .lit (.int .i64 v) | none => z

section
variable {P : Program} {kt et t : TypeId} {w w' : World} {b n : Nat} {F : Int → Option Int}
theorem MapI.lt (h : MapI P kt et w b n F) : b < w.heap.size := let ⟨_, _, h2, _⟩ := h; h2.lt
theorem MapI.made (w : World) : MapI P kt et (w.alloc (.map #[] 0)) w.heap.size 0 (fun _ => none) :=
  ⟨.map [], Maps.isMap_empty, World.ownsMap_made w P kt _, fun x z => by simp [DataW.atKey]⟩
theorem MapI.grown {row : Option Nat} (h : MapI P kt et w b n F) (hg : w.grownBy w' row) (hne : some b ≠ row) : MapI P kt et w' b n F :=
  let ⟨D, h1, h2, h3⟩ := h; ⟨D, h1, h2.kept hg hne, h3⟩
theorem MapI.grow (h : MapI P kt et w b n F) (hb : Below w.heap.size w w') : MapI P kt et w' b n F := h.grown (grownBy_of_below hb none) (by simp)
theorem MapI.alloc (h : MapI P kt et w b n F) (o : Obj) : MapI P kt et (w.alloc o) b n F := let ⟨D, h1, h2, h3⟩ := h; ⟨D, h1, h2.alloc o, h3⟩
theorem MapI.setCell (h : MapI P kt et w b n F) {p : Addr} (hne : b ≠ p.block) (u : Value) : MapI P kt et (w.setCell p u) b n F := h.grown (grownBy_setCell w p u) (by simpa using hne)
theorem MapI.not_cells (h : MapI P kt et w b n F) {p : Addr} {v : Value} (hc : w.cell? p = some v) : p.block ≠ b := by
  rintro rfl
  obtain ⟨D, _, ⟨es, clock, h1, _⟩, _⟩ := h
  simp [World.cell?, h1] at hc
theorem MapI.look (h : MapI P kt et w b n F) (K : Keyed P kt) (ht : P.underlying t = some (.map kt et)) (hk : P.underlying kt = some (.int .i64)) (he : P.underlying et = some (.int .i64)) (hz : (zeroValue et).run P w = .ok (.int .i64 0) w) {x : Int} (hx : (Lit.int .i64 x).wf = true) :
    (Instr.lookup t (.map (some b)) (.int .i64 x) false).run P w = .ok (.int .i64 ((F x).getD 0)) w := by
  obtain ⟨D, h1, h2, h3⟩ := h
  obtain ⟨c, hrun, hat, _⟩ := h2.lookup_int K ht he hz (Maps.keyOf_int_mk hk hx)
  rw [hrun]
  rw [h3 x] at hat
  cases hF : F x with
  | none => rw [hF] at hat; simp at hat; rw [← hat]; rfl
  | some v => rw [hF] at hat; simp at hat; rw [← hat]; rfl
theorem MapI.store (h : MapI P kt et w b n F) (K : Keyed P kt) (ht : P.underlying t = some (.map kt et)) (hk : P.underlying kt = some (.int .i64)) (he : P.underlying et = some (.int .i64)) (hn : n < maxLen) {x v : Int} (hx : (Lit.int .i64 x).wf = true) (hv : (Lit.int .i64 v).wf = true) :
    ∃ w', (Instr.mapUpdate t (.map (some b)) (.int .i64 x) (.int .i64 v)).run P w = .ok () w' ∧ MapI P kt et w' b (n + 1) (fun y => if y = x then some v else F y) ∧ w.grownBy w' (some b) := by
  obtain ⟨D, h1, h2, h3⟩ := h
  obtain ⟨w', hrun, h4, h5⟩ := h2.update K ht hn (Maps.keyOf_int_mk hk hx) (plainElem_int he hv)
  refine ⟨w', hrun, ⟨_, h1.put _ _, h4, fun y z => ?_⟩, h5⟩
  by_cases hy : y = x
  · subst hy
    rw [Maps.atKey_put_same h1 (show WideAt.IsKeyLit (.int .i64 y) from trivial)]
    simp
  · rw [Maps.atKey_put_other (fun e => hy (by injection e)), h3]
    simp [hy]
end
theorem int_keyed' : Keyed Try.prog 3 := Maps.int_keyed Try.underlying3
end Go.Proofs.Ytcigobiolbojhaa.Vb

/- sealed.Sell. -/
namespace Go.Proofs.Ytcigobiolbojhaa.Vb
open Go.RowKit

def sellBad (floor : Int) (l : List Sec) : Bool := !coinB floor || l.any secBad
instance (l : List Int) : Decidable l.Nodup := inferInstance
def sellE (floor : Int) (l : List Sec) : Int := if sellBad floor l = true then 2 else if (l.map (·.b)).Nodup then 0 else 5
def sellV (floor : Int) (l : List Sec) : Value := if sellE floor l = 0 then soldVal floor l else .agg #[.bool false, .int .i64 0, .int .i64 0, .int .i64 0]

theorem soldVal_form (floor : Int) (l : List Sec) : ∃ (b : Bool) (x y z : Int), soldVal floor l = .agg #[.bool b, .int .i64 x, .int .i64 y, .int .i64 z] := by
  unfold soldVal
  split
  · exact ⟨_, _, _, _, rfl⟩
  · exact ⟨_, _, _, _, rfl⟩

/-- how often each bidder was seen among the first k, where none came twice -/
def seenF (l : List Sec) (k : Nat) : Int → Option Int := fun x => if x ∈ (l.take k).map (·.b) then some 1 else none
theorem take_snocS {l : List Sec} {k : Nat} {s : Sec} (h : l[k]? = some s) : (l.take (k + 1)).map (·.b) = (l.take k).map (·.b) ++ [s.b] := by
  rw [List.take_add_one, h]; simp

set_option maxRecDepth 100000 in
set_option maxHeartbeats 3200000 in
theorem sell_any (floor : Int) (l : List Sec) (v : Value) (R : Nat → Prop) (w : World) (hl : Secs w R v l) :
    Calls Try.prog 91 #[.int .i64 floor, v] w fun e w' => e = .returned (.tuple #[sellV floor l, .int .i64 (sellE floor l)]) ∧ Below w.heap.size w w' := by
  have HL := Lib.hid hl
  obtain ⟨⟨_, A, cap, rfl, hncap, hcap, hcells⟩, hwf⟩ := hl
  unfold maxLen at hcap
  have HC := Lib.hid hcells
  have HWF := Lib.hid hwf
  have hk0 := Blk.new w 150 #[.bool false, .int .i64 0, .int .i64 0, .int .i64 0]
  have HK0 := Lib.hid hk0
  clear hcells hwf hk0
  cases hbad : sellBad floor l with
  | true =>
    have hE : sellE floor l = 2 := by unfold sellE; rw [if_pos hbad]
    have hV : sellV floor l = .agg #[.bool false, .int .i64 0, .int .i64 0, .int .i64 0] := by unfold sellV; rw [hE, if_neg (by decide)]
    have HE := Lib.hid hE
    have HV := Lib.hid hV
    cases hcf : coinB floor with
    | false =>
      have HCF := Lib.hid hcf
      have hq := (((HK0.out.set_ 0 (.bool false)).set_ 1 (.int .i64 0)).set_ 2 (.int .i64 0)).set_ 3 (.int .i64 0)
      have r0 := hq.cell 0
      have r1 := hq.cell 1
      have r2 := hq.cell 2
      have r3 := hq.cell 3
      simp at r0 r1 r2 r3
      clear hE hV hbad hcf hq
      go_enter Try.func91, Try.ntmps91
      go_wp2_with (go_at_call 128; refine (coins_any floor _).mono ?_; rintro e w1 ⟨rfl, rfl⟩; rw [HCF.out])
      rw [HE.out, HV.out]
      refine bodyPost_ret (v := .tuple #[.agg #[.bool false, .int .i64 0, .int .i64 0, .int .i64 0], .int .i64 2]) (by simp [results, Try.results91, go_sem]) rfl ⟨rfl, ?_⟩
      exact (Below.refl w.heap.size w).alloc (Nat.le_refl _) _
    | true =>
      have hany : l.any secBad = true := by simpa [sellBad, hcf] using hbad
      have HCF := Lib.hid hcf
      have HANY := Lib.hid hany
      clear hE hV hbad hcf hany
      go_enter Try.func91, Try.ntmps91
      go_wp2_with (first
        | (go_at_call 128; refine (coins_any floor _).mono ?_; rintro e w1 ⟨rfl, rfl⟩; rw [HCF.out])
        | (go_at_call 129; refine (containsSec_any l _ R _ (HL.out.alloc _)).mono ?_; rintro e w1 ⟨rfl, hb1⟩; rw [HANY.out]; have hk := HK0.out.grow hb1; have q0 := hk.cell 0; have q1 := hk.cell 1; have q2 := hk.cell 2; have q3 := hk.cell 3; have qf := hk.frozen; simp at q0 q1 q2 q3; have HK := Lib.hid hk; have HB1 := Lib.hid (((Below.refl _ _).alloc (Nat.le_refl _) _).trans (hb1.mono (B' := w.heap.size) (by simp))); clear hb1 hk))
      have hq := (((HK.out.set_ 0 (.bool false)).set_ 1 (.int .i64 0)).set_ 2 (.int .i64 0)).set_ 3 (.int .i64 0)
      have r0 := hq.cell 0
      have r1 := hq.cell 1
      have r2 := hq.cell 2
      have r3 := hq.cell 3
      simp at r0 r1 r2 r3
      rw [HE.out, HV.out]
      refine bodyPost_ret (v := .tuple #[.agg #[.bool false, .int .i64 0, .int .i64 0, .int .i64 0], .int .i64 2]) (by simp [results, Try.results91, go_sem, r0, r1, r2, r3]) rfl ⟨rfl, ?_⟩
      exact (((HB1.out.setCell (p := ⟨w.heap.size, 0, none⟩) (by simp) _).setCell (p := ⟨w.heap.size, 1, none⟩) (by simp) _).setCell (p := ⟨w.heap.size, 2, none⟩) (by simp) _).setCell (p := ⟨w.heap.size, 3, none⟩) (by simp) _
  | false =>
    have hcf : coinB floor = true := by
      cases h : coinB floor with
      | true => rfl
      | false => simp [sellBad, h] at hbad
    have hany : l.any secBad = false := by simpa [sellBad, hcf] using hbad
    have hE : sellE floor l = if (l.map (·.b)).Nodup then 0 else 5 := by unfold sellE; rw [if_neg (by rw [hbad]; decide)]
    have HCF := Lib.hid hcf
    have HANY := Lib.hid hany
    have HE := Lib.hid hE
    have hmm := @run_makeMap Try.prog
    clear hbad hcf hany hE
    go_enter Try.func91, Try.ntmps91
    go_wp2_with (first
      | (go_at_call 128; refine (coins_any floor _).mono ?_; rintro e w1 ⟨rfl, rfl⟩; rw [HCF.out])
      | (go_at_call 129; refine (containsSec_any l _ R _ (HL.out.alloc _)).mono ?_; rintro e w1 ⟨rfl, hb1⟩; rw [HANY.out]; have HK1 := Lib.hid (HK0.out.grow hb1); have HB1 := Lib.hid (((Below.refl _ _).alloc (Nat.le_refl _) _).trans (hb1.mono (B' := w.heap.size) (by simp))); clear hb1))
    clear hmm
    have hb2 := HB1.out.alloc HB1.out.size (.map #[] 0)
    have hk2 := HK1.out.alloc (.map #[] 0)
    have hklt := HK1.out.lt
    have hm2 := MapI.made (P := Try.prog) (kt := 3) (et := 3) w1
    obtain ⟨u2, hu2⟩ : ∃ u, u = w1.alloc (.map #[] 0) := ⟨_, rfl⟩
    rw [← hu2] at hb2 hk2 hm2 ⊢
    clear hu2
    have HB2 := Lib.hid hb2
    have HK2 := Lib.hid hk2
    have HM2 := Lib.hid hm2
    clear hb2 hk2 hm2
    go_loopw [22] (fun i wr => ∃ k : Nat, k ≤ l.length ∧ i = .int .i64 k ∧ ((l.take k).map (·.b)).Nodup ∧ MapI Try.prog 3 3 wr w1.heap.size k (seenF l k) ∧ Blk wr w.heap.size 150 #[.bool false, .int .i64 0, .int .i64 0, .int .i64 0] ∧ Below w.heap.size w wr) (fun i _ => l.length - (intOf i).toNat)
    case atStart => exact ⟨0, Nat.zero_le _, rfl, by simp, by
      have h := HM2.out
      have e : seenF l 0 = fun _ => none := by funext x; simp [seenF]
      rw [e]; exact h, HK2.out, HB2.out⟩
    case round =>
      obtain ⟨k, hk, rfl, hnd, hm, hkb, hb⟩ := hrel
      have HND := Lib.hid hnd
      have HM := Lib.hid hm
      have HKB := Lib.hid hkb
      have HB := Lib.hid hb
      by_cases hlt : k < l.length
      · obtain ⟨bb, off, rfl, _, hbb, hcs⟩ := HC.out (by omega)
        obtain ⟨o, ho⟩ : ∃ o, l[k]? = some o := ⟨_, List.getElem?_eq_getElem hlt⟩
        have c0 : wr.cell? ⟨bb, off + k * 2, none⟩ = some (.int .i64 o.b) := (hb.cell hbb).trans (hcs _ _ (Sec.all_fst l k o ho))
        have c1 : wr.cell? ⟨bb, off + k * 2 + 1, none⟩ = some (.int .i64 o.c) := (hb.cell hbb).trans (hcs _ _ (Sec.all_snd l k o ho))
        have hw := HWF.out o (List.mem_of_getElem? ho)
        have hwf : (Lit.int .i64 o.b).wf = true := WalkArith.wf_i64 ⟨hw.1.1, hw.1.2⟩
        have e1 : (0 : Int) ≤ (k : Int) := by omega
        have e2 : (k : Int) < (l.length : Int) := by omega
        have hsn := take_snocS ho
        have hmx := hm.alloc (.cells #[.int .i64 o.b, .int .i64 o.c] 148)
        have hl1 := hmx.look int_keyed' Try.underlying196 Try.underlying3 Try.underlying3 (Try.zeroValue3 _) hwf
        have HO := Lib.hid ho
        have HSN := Lib.hid hsn
        have hmlt := hm.lt
        by_cases hin : o.b ∈ (l.take k).map (·.b)
        · have hv : (seenF l k o.b).getD 0 = 1 := by unfold seenF; rw [if_pos hin]; rfl
          rw [hv] at hl1
          obtain ⟨w', hs1, hm1, hg1⟩ := hmx.store int_keyed' Try.underlying196 Try.underlying3 Try.underlying3 (by unfold maxLen; omega) hwf (show (Lit.int .i64 2).wf = true by decide)
          have hl2 := hm1.look int_keyed' Try.underlying196 Try.underlying3 Try.underlying3 (Try.zeroValue3 _) hwf
          simp only [if_true, Option.getD_some] at hl2
          have hne : w1.heap.size ≠ w.heap.size := by have := HK1.out.lt; omega
          have hkb' := (hkb.alloc (.cells #[.int .i64 o.b, .int .i64 o.c] 148)).grown hg1 (fun e => hne (by injection e with e; exact e.symm))
          have n0 := (Blk.new wr 148 #[.int .i64 o.b, .int .i64 o.c]).grown hg1 (fun e => by injection e with e; omega)
          have n00 : w'.cell? ⟨wr.heap.size, 0, none⟩ = some (.int .i64 o.b) := n0.cell 0
          have q0 := hkb'.cell 0
          have q1 := hkb'.cell 1
          have q2 := hkb'.cell 2
          have q3 := hkb'.cell 3
          have qf := hkb'.frozen
          have hq := (((hkb'.set_ 0 (.bool false)).set_ 1 (.int .i64 0)).set_ 2 (.int .i64 0)).set_ 3 (.int .i64 0)
          have r0 := hq.cell 0
          have r1 := hq.cell 1
          have r2 := hq.cell 2
          have r3 := hq.cell 3
          simp at q0 q1 q2 q3 r0 r1 r2 r3
          have hbw := (HB.out.alloc HB.out.size (.cells #[.int .i64 o.b, .int .i64 o.c] 148)).grown hg1 (by have := HB.out.size; simp; omega) (fun g e => by injection e with e; have := HB1.out.size; omega)
          have HBW := Lib.hid hbw
          have hnot : ¬ (l.map (·.b)).Nodup := fun hn => by
            have h1 : ((l.take (k + 1)).map (·.b)).Nodup := hn.sublist ((List.take_sublist (k + 1) l).map _)
            rw [HSN.out] at h1
            exact (List.nodup_append.1 h1).2.2 _ hin _ (by simp) rfl
          have hE5 : sellE floor l = 5 := by rw [HE.out, if_neg hnot]
          have hV5 : sellV floor l = .agg #[.bool false, .int .i64 0, .int .i64 0, .int .i64 0] := by unfold sellV; rw [hE5, if_neg (by decide)]
          have HE5 := Lib.hid hE5
          have HV5 := Lib.hid hV5
          clear hnd hm hkb hb hcs ho hsn hmx hm1 hg1 hkb' n0 hq hbw hnot hE5 hV5 hin hv
          go_wp2_with fail
          rw [HE5.out, HV5.out]
          refine bodyPost_ret (v := .tuple #[.agg #[.bool false, .int .i64 0, .int .i64 0, .int .i64 0], .int .i64 5]) (by simp [results, Try.results91, go_sem, r0, r1, r2, r3]) rfl ⟨rfl, ?_⟩
          exact (((HBW.out.setCell (p := ⟨w.heap.size, 0, none⟩) (by simp) _).setCell (p := ⟨w.heap.size, 1, none⟩) (by simp) _).setCell (p := ⟨w.heap.size, 2, none⟩) (by simp) _).setCell (p := ⟨w.heap.size, 3, none⟩) (by simp) _
        · have hv : (seenF l k o.b).getD 0 = 0 := by unfold seenF; rw [if_neg hin]; rfl
          rw [hv] at hl1
          obtain ⟨w', hs1, hm1, hg1⟩ := hmx.store int_keyed' Try.underlying196 Try.underlying3 Try.underlying3 (by unfold maxLen; omega) hwf (show (Lit.int .i64 1).wf = true by decide)
          have hl2 := hm1.look int_keyed' Try.underlying196 Try.underlying3 Try.underlying3 (Try.zeroValue3 _) hwf
          simp only [if_true, Option.getD_some] at hl2
          have hne : w1.heap.size ≠ w.heap.size := by have := HK1.out.lt; omega
          have hkb' := (hkb.alloc (.cells #[.int .i64 o.b, .int .i64 o.c] 148)).grown hg1 (fun e => hne (by injection e with e; exact e.symm))
          have n0 := (Blk.new wr 148 #[.int .i64 o.b, .int .i64 o.c]).grown hg1 (fun e => by injection e with e; omega)
          have n00 : w'.cell? ⟨wr.heap.size, 0, none⟩ = some (.int .i64 o.b) := n0.cell 0
          have hbw := (HB.out.alloc HB.out.size (.cells #[.int .i64 o.b, .int .i64 o.c] 148)).grown hg1 (by have := HB.out.size; simp; omega) (fun g e => by injection e with e; have := HB1.out.size; omega)
          have hF : (fun y => if y = o.b then some (1 : Int) else seenF l k y) = seenF l (k + 1) := by
            funext y
            unfold seenF
            rw [HSN.out]
            by_cases hy : y = o.b <;> simp [hy]
          rw [hF] at hm1
          have HBW := Lib.hid hbw
          have HM1 := Lib.hid hm1
          have HKB1 := Lib.hid hkb'
          have HIN := Lib.hid hin
          clear hnd hm hkb hb hcs ho hsn hmx hm1 hg1 hkb' n0 hbw hF hin hv
          go_wp2_with fail
          go_roundw
          case rel =>
            refine ⟨k + 1, by omega, by go_num, ?_, HM1.out, HKB1.out, HBW.out⟩
            rw [HSN.out]
            refine List.nodup_append.2 ⟨HND.out, by simp, fun a ha b hb => ?_⟩
            simp at hb
            subst hb
            exact fun e => HIN.out (by rw [← e]; exact ha)
          case measure => simp [intOf]; omega
      · obtain rfl : k = l.length := by omega
        have hn : (l.map (·.b)).Nodup := by rw [List.take_length] at hnd; exact hnd
        have hE0 : sellE floor l = 0 := by rw [HE.out, if_pos hn]
        have hV0 : sellV floor l = soldVal floor l := by unfold sellV; rw [hE0, if_pos rfl]
        have HE0 := Lib.hid hE0
        have HV0 := Lib.hid hV0
        have hbw : Below w.heap.size w wr := hb
        obtain ⟨vb, vx, vy, vz, hform⟩ := soldVal_form floor l
        have HF := Lib.hid hform
        clear hnd hm hkb hb hn hE0 hV0 hbw hform
        go_wp2_with (go_at_call 130; refine (come_any floor l _ R _ (HL.out.grow HB.out)).mono ?_; rintro e w2 ⟨rfl, hb2⟩; rw [HF.out]; have hk := HKB.out.grow hb2; have q0 := hk.cell 0; have q1 := hk.cell 1; have q2 := hk.cell 2; have q3 := hk.cell 3; have qf := hk.frozen; simp at q0 q1 q2 q3; have HKX := Lib.hid hk; have HBX := Lib.hid (HB.out.trans (hb2.mono HB.out.size)); clear hb2 hk)
        have hq := (((HKX.out.set_ 0 (.bool vb)).set_ 1 (.int .i64 vx)).set_ 2 (.int .i64 vy)).set_ 3 (.int .i64 vz)
        have r0 := hq.cell 0
        have r1 := hq.cell 1
        have r2 := hq.cell 2
        have r3 := hq.cell 3
        simp at r0 r1 r2 r3
        rw [HE0.out, HV0.out, HF.out]
        refine bodyPost_ret (v := .tuple #[.agg #[.bool vb, .int .i64 vx, .int .i64 vy, .int .i64 vz], .int .i64 0]) (by simp [results, Try.results91, go_sem, r0, r1, r2, r3]) rfl ⟨rfl, ?_⟩
        exact (((HBX.out.setCell (p := ⟨w.heap.size, 0, none⟩) (by simp) _).setCell (p := ⟨w.heap.size, 1, none⟩) (by simp) _).setCell (p := ⟨w.heap.size, 2, none⟩) (by simp) _).setCell (p := ⟨w.heap.size, 3, none⟩) (by simp) _
end Go.Proofs.Ytcigobiolbojhaa.Vb

/- truth.wrong, and what it stands on; slices.Clone of bids. -/
namespace Go.Proofs.Ytcigobiolbojhaa.Vb
open Go.RowKit

theorem et_sec29 : ElemT Try.prog 116 148 2 16 := elemT_of Try.underlying116 (by omega) (z := .agg #[.int .i64 0, .int .i64 0]) (by kernel_rfl) rfl

set_option maxHeartbeats 400000 in
theorem clone_sec (xs : List Value) (n : Nat) (v : Value) (R : Nat → Prop) (w : World) (hl : Sl w R v n 2 xs) (h1 : ∀ u ∈ xs, u.oneCell' = true) (hb : n * 16 ≤ 140737488355328) :
    Calls Try.prog 138 #[v] w fun e w' => ∃ A' cap', e = .returned (.slice A' n cap') ∧ w'.ownsRow w.heap.size 148 2 (.slice A' n cap') n xs ∧ Below w.heap.size w w' := by
  obtain ⟨hlen, A, cap, rfl, hncap, hcap, hcells⟩ := id hl
  have HS := Lib.hid hl
  clear hl hcells
  have hq := fun (W : World) (a : Option Addr) => Lib.run_eql_slice_nil (P := Try.prog) W 116 148 a n cap 0 0 Try.underlying116
  cases A with
  | none =>
    have hn : n = 0 := by
      obtain ⟨_, A, c, h, _, _, hc⟩ := HS.out
      injection h with hA _ _
      subst hA
      rcases Nat.eq_zero_or_pos n with h0 | h0
      · exact h0
      · obtain ⟨b, off, h, _⟩ := hc h0
        cases h
    subst hn
    have hx : xs = [] := List.eq_nil_of_length_eq_zero (by simpa using hlen)
    subst hx
    go_enter Try.func138, Try.ntmps138
    go_wp2
    go_ret
    exact ⟨none, 0, rfl, World.ownsRow_nil _ _ _ _, Below.refl _ _⟩
  | some ad =>
    clear hlen
    go_enter Try.func138, Try.ntmps138
    go_wp2_with (at_builtin; refine wpList_app _ rfl (.tmp 5) (.tmp 6) et_sec29 rfl w.heap.size (.slice (some ⟨w.heap.size, 0, none⟩) 0 0) 0 [] rfl (World.ownsRow_lit w #[] 0 (Nat.le_refl _) (Nat.zero_le _) rfl) R _ n xs rfl (HS.out.alloc _) h1 (by omega) (by unfold maxLen; omega) (by simp) ?_; intro A' cap' w1 hown hg hloc)
    go_ret
    refine ⟨A', cap', by simp, by simpa using hown, ((Below.refl _ _).alloc (Nat.le_refl _) _).grown hg (by simp) (by simp [Value.ownBlock])⟩

/-- the first one of which p is true -/
def atF {α : Type} (p : α → Bool) : List α → Option Nat
  | [] => none
  | o :: l => if p o then some 0 else (atF p l).map (· + 1)
def atFI {α : Type} (p : α → Bool) (l : List α) : Int := match atF p l with | some k => k | none => -1
theorem atF_none {α : Type} {p : α → Bool} : ∀ l : List α, (∀ o ∈ l, p o = false) → atF p l = none
  | [], _ => rfl
  | o :: l, h => by simp [atF, h o (by simp), atF_none l (fun x hx => h x (by simp [hx]))]
theorem atF_some {α : Type} {p : α → Bool} : ∀ (l : List α) (k : Nat) (o : α), l[k]? = some o → p o = true → (∀ j x, j < k → l[j]? = some x → p x = false) → atF p l = some k
  | [], k, o, h, _, _ => by simp at h
  | x :: l, 0, o, h, hb, _ => by simp at h; subst h; simp [atF, hb]
  | x :: l, k + 1, o, h, hb, hn => by
    have h0 := hn 0 x (by omega) rfl
    have := atF_some l k o (by simpa using h) hb (fun j y hj hy => hn (j + 1) y (by omega) (by simpa using hy))
    simp [atF, h0, this]
theorem atFI_ge {α : Type} (p : α → Bool) (l : List α) : decide (0 ≤ atFI p l) = l.any p := by
  unfold atFI
  induction l with
  | nil => rfl
  | cons o l ih =>
    cases hb : p o with
    | true => simp [atF, hb]
    | false =>
      simp only [atF, hb, List.any_cons, Bool.false_or]
      rw [← ih]
      cases atF p l with
      | none => rfl
      | some k => simp; omega
theorem atF_get {α : Type} {p : α → Bool} : ∀ {l : List α} {k : Nat}, atF p l = some k → ∃ o, l[k]? = some o ∧ p o = true
  | [], k, h => by simp [atF] at h
  | x :: l, k, h => by
    simp only [atF] at h
    split at h
    · rename_i hp
      injection h with h
      subst h
      exact ⟨x, rfl, hp⟩
    · cases ha : atF p l with
      | none => rw [ha] at h; cases h
      | some j =>
        rw [ha] at h
        simp at h
        subst h
        obtain ⟨o, h1, h2⟩ := atF_get ha
        exact ⟨o, by simpa using h1, h2⟩

def notCoin (x : Int) : Bool := !coinB x
set_option maxHeartbeats 400000 in
theorem wrong1_any (x : Int) (w : World) : Calls Try.prog 136 #[.int .i64 x] w fun e w' => e = .returned (.bool (notCoin x)) ∧ w = w' := by
  by_cases h0 : x < 0
  · go_enter Try.func136, Try.ntmps136
    go_wp2
    go_ret
    have e : notCoin x = true := by
      simp [notCoin, coinB]
      omega
    exact ⟨by rw [e]; rfl, rfl⟩
  · go_enter Try.func136, Try.ntmps136
    go_wp2
    go_ret
    have e : notCoin x = decide (1099511627776 < x) := by
      unfold notCoin coinB
      have h1 : decide (0 ≤ x) = true := by simp; omega
      rw [h1, Bool.true_and, ← decide_not]
      congr 1
      simp
    exact ⟨by rw [e]; rfl, rfl⟩

set_option maxHeartbeats 400000 in
theorem indexCoin_any (l : List Int) (v : Value) (R : Nat → Prop) (w : World) (hl : Sl w R v l.length 1 (ints l)) :
    Calls Try.prog 153 #[v, .func (.func 136) #[] #[]] w fun e w' => e = .returned (.int .i64 (atFI notCoin l)) ∧ w = w' := by
  obtain ⟨_, A, cap, rfl, hncap, hcap, hcells⟩ := hl
  unfold maxLen at hcap
  have HC := Lib.hid hcells
  clear hcells
  go_enter Try.func153, Try.ntmps153
  go_wp2
  go_loopw [8] (fun i wr => ∃ k : Nat, k ≤ l.length ∧ i = .int .i64 k ∧ wr = w ∧ ∀ j x, j < k → l[j]? = some x → notCoin x = false) (fun i _ => l.length - (intOf i).toNat)
  case atStart => exact ⟨0, Nat.zero_le _, rfl, rfl, fun j x hj => by omega⟩
  case round =>
    obtain ⟨k, hk, rfl, rfl, hno⟩ := hrel
    have HN := Lib.hid hno
    clear hno
    by_cases hlt : k < l.length
    · obtain ⟨bb, off, rfl, _, hbb, hcs⟩ := HC.out (by omega)
      obtain ⟨o, ho⟩ : ∃ o, l[k]? = some o := ⟨_, List.getElem?_eq_getElem hlt⟩
      have c0 : wr.cell? ⟨bb, off + k, none⟩ = some (.int .i64 o) := hcs k _ (by rw [ints, List.getElem?_map, ho]; rfl)
      have HO := Lib.hid ho
      clear hcs ho
      cases hbad : notCoin o with
      | true =>
        have HBAD := Lib.hid hbad
        clear hbad
        go_wp2_with (go_at_call 136; refine (wrong1_any o _).mono ?_; rintro e w1 ⟨rfl, rfl⟩; rw [HBAD.out])
        go_ret
        refine ⟨ret_int ?_, rfl⟩
        unfold atFI
        rw [atF_some l k o HO.out HBAD.out HN.out]
      | false =>
        have HBAD := Lib.hid hbad
        clear hbad
        go_wp2_with (go_at_call 136; refine (wrong1_any o _).mono ?_; rintro e w1 ⟨rfl, rfl⟩; rw [HBAD.out])
        go_roundw
        case rel =>
          refine ⟨k + 1, by omega, by go_num, trivial, fun j x hj hx => ?_⟩
          by_cases hjk : j < k
          · exact HN.out j x hjk hx
          · obtain rfl : j = k := by omega
            rw [HO.out] at hx
            cases hx
            exact HBAD.out
        case measure => simp [intOf]; omega
    · go_wp2
      go_ret
      refine ⟨ret_int ?_, rfl⟩
      unfold atFI
      rw [atF_none l (fun o ho => ?_)]
      obtain ⟨j, hj, rfl⟩ := List.getElem_of_mem ho
      exact HN.out j _ (by omega) (List.getElem?_eq_getElem hj)

set_option maxHeartbeats 400000 in
theorem containsCoin_any (l : List Int) (v : Value) (R : Nat → Prop) (w : World) (hl : Sl w R v l.length 1 (ints l)) :
    Calls Try.prog 137 #[v, .func (.func 136) #[] #[]] w fun e w' => e = .returned (.bool (l.any notCoin)) ∧ w = w' := by
  have hg := atFI_ge notCoin l
  rw [← hg]
  clear hg
  go_enter Try.func137, Try.ntmps137
  go_wp2_with (go_at_call 153; refine (indexCoin_any l v R _ hl).mono ?_; rintro e w1 ⟨rfl, rfl⟩)
  go_ret
  exact ⟨rfl, rfl⟩

theorem sellV_form (floor : Int) (l : List Sec) : ∃ (b : Bool) (x y z : Int), sellV floor l = .agg #[.bool b, .int .i64 x, .int .i64 y, .int .i64 z] := by
  unfold sellV
  split
  · exact soldVal_form floor l
  · exact ⟨_, _, _, _, rfl⟩
theorem sellE_bd (floor : Int) (l : List Sec) : sellE floor l = 0 ∨ sellE floor l = 2 ∨ sellE floor l = 5 := by
  unfold sellE
  split
  · exact .inr (.inl rfl)
  · split
    · exact .inl rfl
    · exact .inr (.inr rfl)

def wrongE (floor : Int) (l : List Sec) (b : Int) (ns : List Int) : Int := if sellE floor l ≠ 0 then sellE floor l else if b < 0 then 2 else if ns.any notCoin = true then 2 else 0

set_option maxHeartbeats 1600000 in
theorem wrong_any (floor : Int) (l : List Sec) (b : Int) (ns : List Int) (v vn : Value) (R Rn : Nat → Prop) (w : World) (hl : Secs w R v l) (hn : Sl w Rn vn ns.length 1 (ints ns)) :
    Calls Try.prog 110 #[.int .i64 floor, v, .int .i64 b, vn] w fun e w' => e = .returned (.int .i64 (wrongE floor l b ns)) ∧ Below w.heap.size w w' := by
  have HL := Lib.hid hl
  have HN := Lib.hid hn
  obtain ⟨⟨_, A, cap, rfl, _⟩, _⟩ := id hl
  obtain ⟨_, A2, cap2, rfl, _⟩ := id hn
  clear hl hn
  obtain ⟨sb, sx, sy, sz, hsv⟩ := sellV_form floor l
  have hsb := sellE_bd floor l
  by_cases hE : sellE floor l = 0
  · have HE := Lib.hid hE
    have HV := Lib.hid hsv
    by_cases hb : b < 0
    · have hr : wrongE floor l b ns = 2 := by unfold wrongE; rw [if_neg (by simp [hE]), if_pos hb]
      rw [hr]
      clear hE hsv hr hsb
      go_enter Try.func110, Try.ntmps110
      go_wp2_with (go_at_call 91; refine (sell_any floor l _ R _ HL.out).mono ?_; rintro e w1 ⟨rfl, hb1⟩; rw [HE.out, HV.out]; have HB1 := Lib.hid hb1; clear hb1)
      go_ret
      exact ⟨rfl, HB1.out.alloc HB1.out.size _⟩
    · cases ha : ns.any notCoin with
      | true =>
        have hr : wrongE floor l b ns = 2 := by unfold wrongE; rw [if_neg (by simp [hE]), if_neg hb, if_pos ha]
        rw [hr]
        have HA := Lib.hid ha
        clear hE hsv hr hsb ha
        go_enter Try.func110, Try.ntmps110
        go_wp2_with (first
          | (go_at_call 91; refine (sell_any floor l _ R _ HL.out).mono ?_; rintro e w1 ⟨rfl, hb1⟩; rw [HE.out, HV.out]; have HB1 := Lib.hid hb1; clear hb1)
          | (go_at_call 137; refine (containsCoin_any ns _ Rn _ ((HN.out.grow HB1.out).alloc _)).mono ?_; rintro e w2 ⟨rfl, rfl⟩; rw [HA.out]))
        go_ret
        exact ⟨rfl, HB1.out.alloc HB1.out.size _⟩
      | false =>
        have hr : wrongE floor l b ns = 0 := by unfold wrongE; rw [if_neg (by simp [hE]), if_neg hb, if_neg (by simp [ha])]
        rw [hr]
        have HA := Lib.hid ha
        clear hE hsv hr hsb ha
        go_enter Try.func110, Try.ntmps110
        go_wp2_with (first
          | (go_at_call 91; refine (sell_any floor l _ R _ HL.out).mono ?_; rintro e w1 ⟨rfl, hb1⟩; rw [HE.out, HV.out]; have HB1 := Lib.hid hb1; clear hb1)
          | (go_at_call 137; refine (containsCoin_any ns _ Rn _ ((HN.out.grow HB1.out).alloc _)).mono ?_; rintro e w2 ⟨rfl, rfl⟩; rw [HA.out]))
        go_ret
        exact ⟨rfl, HB1.out.alloc HB1.out.size _⟩
  · have hr : wrongE floor l b ns = sellE floor l := by unfold wrongE; rw [if_pos hE]
    rw [hr]
    obtain ⟨z, hz⟩ : ∃ z, z = sellE floor l := ⟨_, rfl⟩
    rw [← hz] at hsb hE ⊢
    have hcb : (z != 0) = true := by simpa using hE
    have HE := Lib.hid hz
    have HV := Lib.hid hsv
    clear hsv hr hz
    have hzb : -9223372036854775808 ≤ z ∧ z ≤ 9223372036854775807 := by omega
    clear hsb
    go_enter Try.func110, Try.ntmps110
    go_wp2_with (go_at_call 91; refine (sell_any floor l _ R _ HL.out).mono ?_; rintro e w1 ⟨rfl, hb1⟩; rw [← HE.out, HV.out]; have HB1 := Lib.hid hb1; clear hb1)
    go_ret
    exact ⟨rfl, HB1.out.alloc HB1.out.size _⟩
end Go.Proofs.Ytcigobiolbojhaa.Vb

/- truth.gains, truth.Sealed. -/
namespace Go.Proofs.Ytcigobiolbojhaa.Vb
open Go.RowKit

def isB (b : Int) (s : Sec) : Bool := decide (s.b = b)
set_option maxHeartbeats 400000 in
theorem gains1_any (s : Sec) (b : Int) (g : Nat) (w : World) (hc : w.cell? ⟨g, 0, none⟩ = some (.int .i64 b)) :
    Calls Try.prog 140 #[.agg #[.int .i64 s.b, .int .i64 s.c], .pointer (some ⟨g, 0, none⟩)] w fun e w' => e = .returned (.bool (isB b s)) ∧ Below w.heap.size w w' := by
  obtain ⟨x, c⟩ := s
  have hg := World.block_lt_of_cell? w _ hc
  have c0 : (w.alloc (.cells #[.int .i64 x, .int .i64 c] 148)).cell? ⟨g, 0, none⟩ = some (.int .i64 b) := by rw [World.cell?_alloc_old _ _ _ (Nat.ne_of_lt hg)]; exact hc
  go_enter Try.func140, Try.ntmps140
  go_wp2
  go_ret
  exact ⟨rfl, (Below.refl _ _).alloc (Nat.le_refl _) _⟩

set_option maxHeartbeats 400000 in
theorem indexB_any (l : List Sec) (b : Int) (g : Nat) (v : Value) (R : Nat → Prop) (w : World) (hl : Secs w R v l) (hg : w.cell? ⟨g, 0, none⟩ = some (.int .i64 b)) :
    Calls Try.prog 139 #[v, .func (.func 140) #[] #[.pointer (some ⟨g, 0, none⟩)]] w fun e w' => e = .returned (.int .i64 (atFI (isB b) l)) ∧ Below w.heap.size w w' := by
  obtain ⟨⟨_, A, cap, rfl, hncap, hcap, hcells⟩, hwf⟩ := hl
  unfold maxLen at hcap
  have hlt := World.block_lt_of_cell? w _ hg
  have HC := Lib.hid hcells
  have HG := Lib.hid hg
  clear hcells hwf hg
  go_enter Try.func139, Try.ntmps139
  go_wp2
  go_loopw [8] (fun i wr => ∃ k : Nat, k ≤ l.length ∧ i = .int .i64 k ∧ Below w.heap.size w wr ∧ ∀ j x, j < k → l[j]? = some x → isB b x = false) (fun i _ => l.length - (intOf i).toNat)
  case atStart => exact ⟨0, Nat.zero_le _, rfl, Below.refl _ _, fun j x hj => by omega⟩
  case round =>
    obtain ⟨k, hk, rfl, hb, hno⟩ := hrel
    have HN := Lib.hid hno
    have HB := Lib.hid hb
    clear hno
    by_cases hltk : k < l.length
    · obtain ⟨bb, off, rfl, _, hbb, hcs⟩ := HC.out (by omega)
      obtain ⟨o, ho⟩ : ∃ o, l[k]? = some o := ⟨_, List.getElem?_eq_getElem hltk⟩
      have c0 : wr.cell? ⟨bb, off + k * 2, none⟩ = some (.int .i64 o.b) := (hb.cell hbb).trans (hcs _ _ (Sec.all_fst l k o ho))
      have c1 : wr.cell? ⟨bb, off + k * 2 + 1, none⟩ = some (.int .i64 o.c) := (hb.cell hbb).trans (hcs _ _ (Sec.all_snd l k o ho))
      have hgc : wr.cell? ⟨g, 0, none⟩ = some (.int .i64 b) := (hb.cell (p := ⟨g, 0, none⟩) hlt).trans HG.out
      have HGC := Lib.hid hgc
      have HO := Lib.hid ho
      clear hcs hb ho hgc
      cases hbad : isB b o with
      | true =>
        have HBAD := Lib.hid hbad
        clear hbad
        go_wp2_with (go_at_call 140; refine (gains1_any o b g _ HGC.out).mono ?_; rintro e w1 ⟨rfl, hb1⟩; rw [HBAD.out]; have HB1 := Lib.hid hb1; clear hb1)
        go_ret
        refine ⟨ret_int ?_, HB.out.trans (HB1.out.mono HB.out.size)⟩
        unfold atFI
        rw [atF_some l k o HO.out HBAD.out HN.out]
      | false =>
        have HBAD := Lib.hid hbad
        clear hbad
        go_wp2_with (go_at_call 140; refine (gains1_any o b g _ HGC.out).mono ?_; rintro e w1 ⟨rfl, hb1⟩; rw [HBAD.out]; have HB1 := Lib.hid hb1; clear hb1)
        go_roundw
        case rel =>
          refine ⟨k + 1, by omega, by go_num, HB.out.trans (HB1.out.mono HB.out.size), fun j x hj hx => ?_⟩
          by_cases hjk : j < k
          · exact HN.out j x hjk hx
          · obtain rfl : j = k := by omega
            rw [HO.out] at hx
            cases hx
            exact HBAD.out
        case measure => simp [intOf]; omega
    · clear hb
      go_wp2
      go_ret
      refine ⟨ret_int ?_, HB.out⟩
      unfold atFI
      rw [atF_none l (fun o ho => ?_)]
      obtain ⟨j, hj, rfl⟩ := List.getElem_of_mem ho
      exact HN.out j _ (by omega) (List.getElem?_eq_getElem hj)

/-- bids with other coins in the place of a bidder's -/
def laidS (l : List Sec) (b c : Int) : List Sec := match atF (isB b) l with | some k => l.set k ⟨b, c⟩ | none => l ++ [⟨b, c⟩]
/-- what Sell tells: sold, the winner, the price -/
def sold4 (floor : Int) (l : List Sec) : Bool × Int × Int × Int :=
  if sellE floor l = 0 then (match bestK floor (-1) l l.length with | none => (false, 0, 0, 0) | some (j, c) => (true, (l[j]?.map (·.b)).getD 0, c, nextC floor l j)) else (false, 0, 0, 0)
theorem sold4_val (floor : Int) (l : List Sec) : sellV floor l = .agg #[.bool (sold4 floor l).1, .int .i64 (sold4 floor l).2.1, .int .i64 (sold4 floor l).2.2.1, .int .i64 (sold4 floor l).2.2.2] := by
  unfold sellV sold4 soldVal
  split
  · cases bestK floor (-1) l l.length with
    | none => rfl
    | some p => rfl
  · rfl
def gainsW (floor : Int) (l : List Sec) (b worth c : Int) : Int :=
  if (sold4 floor (laidS l b c)).1 = true ∧ (sold4 floor (laidS l b c)).2.1 = b then IntKind.i64.wrap (worth - (sold4 floor (laidS l b c)).2.2.2) else 0

theorem Sec.all_set (l : List Sec) (k : Nat) (o : Sec) (c : Int) (h : l[k]? = some o) : (Sec.all l).set (k * 2 + 1) (.int .i64 c) = Sec.all (l.set k ⟨o.b, c⟩) := by
  induction l generalizing k with
  | nil => simp at h
  | cons x l ih =>
    cases k with
    | zero =>
      simp at h
      subst h
      simp [Sec.all, Sec.cells]
    | succ k =>
      have := ih k (by simpa using h)
      simp only [Sec.all, List.flatMap_cons, Sec.cells, List.set_cons_succ] at *
      rw [show (k + 1) * 2 + 1 = k * 2 + 1 + 2 from by omega]
      simpa using this

set_option maxHeartbeats 1600000 in
theorem gains_any (floor : Int) (l : List Sec) (b worth c : Int) (v : Value) (R : Nat → Prop) (w : World) (hl : Secs w R v l) (hll : l.length ≤ 1000000)
    (hb : -9223372036854775808 ≤ b ∧ b ≤ 9223372036854775807) (hc : -9223372036854775808 ≤ c ∧ c ≤ 9223372036854775807) :
    Calls Try.prog 111 #[.int .i64 floor, v, .int .i64 b, .int .i64 worth, .int .i64 c] w fun e w' => e = .returned (.int .i64 (gainsW floor l b worth c)) ∧ Below w.heap.size w w' := by
  have HL := Lib.hid hl
  obtain ⟨⟨_, A, cap, rfl, _⟩, hwf⟩ := id hl
  have HWF := Lib.hid hwf
  clear hl hwf
  have hsv := sold4_val floor (laidS l b c)
  obtain ⟨l', hl'⟩ : ∃ z, z = laidS l b c := ⟨_, rfl⟩
  have hgw : gainsW floor l b worth c = if (sold4 floor l').1 = true ∧ (sold4 floor l').2.1 = b then IntKind.i64.wrap (worth - (sold4 floor l').2.2.2) else 0 := by rw [hl']; rfl
  rw [← hl'] at hsv
  rw [hgw]
  obtain ⟨p, hp⟩ : ∃ z, z = sold4 floor l' := ⟨_, rfl⟩
  obtain ⟨s1, s2, s3, s4⟩ := p
  rw [← hp] at hsv ⊢
  have HV := Lib.hid hsv
  simp only at hsv ⊢
  obtain ⟨r, hr⟩ : ∃ z, z = if s1 = true ∧ s2 = b then IntKind.i64.wrap (worth - s4) else 0 := ⟨_, rfl⟩
  rw [← hr]
  have HR := Lib.hid hr
  clear hgw hp hsv hr
  cases hat : atF (isB b) l with
  | none =>
    have hi : atFI (isB b) l = -1 := by unfold atFI; rw [hat]
    have hlm : l' = l ++ [⟨b, c⟩] := by rw [hl']; unfold laidS; rw [hat]
    have HLM := Lib.hid hlm
    have HI := Lib.hid hi
    clear hat hi hlm hl'
    go_enter Try.func111, Try.ntmps111
    go_wp2_with fail
    refine (clone_sec (Sec.all l) l.length _ R _ (HL.out.alloc _).1 (Sec.all_one l) (by omega)).mono ?_
    rintro e w1 ⟨A1, c1, rfl, hown1, hb1⟩
    have hbx : Blk w1 w.heap.size 3 #[.int .i64 b] := (Blk.new w 3 #[.int .i64 b]).grow hb1
    have HBX := Lib.hid hbx
    have hown1' : w1.ownsRow (w.heap.size + 1) 148 2 (.slice A1 l.length c1) l.length (Sec.all l) := by simpa using hown1
    have HO1 := Lib.hid hown1'
    have HB1 := Lib.hid (((Below.refl _ _).alloc (Nat.le_refl _) _).trans (hb1.mono (B' := w.heap.size) (by simp)))
    clear hb1 hown1 hown1' hbx
    go_wp2_with (first
      | (go_at_call 139; refine (indexB_any l b w.heap.size _ _ _ ⟨Sl.of_own HO1.out, HWF.out⟩ (HBX.out.cell 0)).mono ?_; rintro e w2 ⟨rfl, hb2⟩; rw [HI.out]; have HO2 := Lib.hid (own_grow HO1.out hb2); have HB2 := Lib.hid (HB1.out.trans (hb2.mono HB1.out.size)); have hsz2 := hb2.size; have HBX2 := Lib.hid (HBX.out.grow hb2); have hcb : w2.cell? ⟨w.heap.size, 0, none⟩ = some (.int .i64 b) := (HBX.out.grow hb2).cell 0; have hwsz := HB1.out.size; clear hb2)
      | (at_builtin; have := HO2; go_must (refine wpList_app _ rfl (.tmp 24) (.tmp 27) et_sec29 rfl (w.heap.size + 1) (.slice A1 l.length c1) l.length (Sec.all l) rfl (own_alloc HO2.out (.cells #[.int .i64 b, .int .i64 0] 148)) _ _ 1 _ rfl (Sl.new w2 #[.int .i64 b, .int .i64 0] _ 1 2 (by unfold maxLen; omega) rfl) (by simp [Value.oneCell']) (by omega) (by unfold maxLen; omega) (by have := HBX2.out.lt; simp <;> omega) ?_); go_must (intro A3 c3 w3 hown3 hg3 hlo3; obtain ⟨g, cm, hform, hgm1, hgm2⟩ := World.ownsRow.form hown3 (by omega); injection hform with hA3 _ hc3; subst hA3 hc3; have q0 : w3.cell? ⟨g, l.length * 2 + 1, none⟩ = some (.int .i64 0) := (hown3.cellAt (l.length * 2 + 1) (by omega)).trans (by rw [List.getElem?_append_right (by rw [Sec.all_length]; omega), Sec.all_length]; simp); have q1 := hown3.frozenAt (l.length * 2 + 1); have HO3 := Lib.hid hown3; have HBX3 := Lib.hid ((HBX2.out.alloc _).grown hg3 (fun e => by have := (HO2.out.lt _ e.symm).1; omega)); have HB3 := Lib.hid ((HB2.out.alloc HB2.out.size _).grown hg3 (by have := HBX2.out.lt; simp <;> omega) (fun r e => by have := (HO2.out.lt r e).1; omega)); clear hown3 hg3 hlo3)))
    obtain ⟨h1, h2⟩ := HO3.out.stored (l.length * 2 + 1) (.int .i64 c)
    have hx : (Sec.all l ++ [Value.int .i64 b, Value.int .i64 0]).set (l.length * 2 + 1) (.int .i64 c) = Sec.all l' := by
      rw [HLM.out, Sec.all_app l (Sec.mk b 0), Sec.all_set (l ++ [Sec.mk b 0]) l.length (Sec.mk b 0) c (by simp)]
      congr 1
      simp
    have hll' : l'.length = l.length + 1 := by rw [HLM.out]; simp
    have hs4 : Secs (w3.setCell ⟨g, l.length * 2 + 1, none⟩ (.int .i64 c)) (fun b => (Value.slice (some ⟨g, 0, none⟩) (l.length + 1) c3).ownBlock = some b) (.slice (some ⟨g, 0, none⟩) (l.length + 1) c3) l' := by
      refine ⟨?_, fun o ho => ?_⟩
      · rw [hll', ← hx]
        exact Sl.of_own h1
      · rw [HLM.out] at ho
        rcases List.mem_append.1 ho with h | h
        · exact HWF.out o h
        · simp at h
          subst h
          exact ⟨hb, hc⟩
    have hbx4 : Blk (w3.setCell ⟨g, l.length * 2 + 1, none⟩ (.int .i64 c)) w.heap.size 3 #[.int .i64 b] := HBX3.out.far (by simp; omega) _
    have hb4 : Below w.heap.size w (w3.setCell ⟨g, l.length * 2 + 1, none⟩ (.int .i64 c)) := HB3.out.setCell (by simp; omega) _
    obtain ⟨W4, hW4⟩ : ∃ V, V = w3.setCell ⟨g, l.length * 2 + 1, none⟩ (.int .i64 c) := ⟨_, rfl⟩
    rw [← hW4] at hs4 hbx4 hb4 ⊢
    have HS4 := Lib.hid hs4
    have HBX4 := Lib.hid hbx4
    have HB4 := Lib.hid hb4
    clear h1 h2 hx hs4 hbx4 hb4 hW4 hcb q0 q1
    have hbx4 : Blk W4 w.heap.size 3 #[.int .i64 b] := HBX4.out
    refine (sell_any floor l' _ _ W4 HS4.out).mono ?_
    rintro e w5 ⟨rfl, hb5⟩
    rw [HV.out]
    have hbx5 := hbx4.grow hb5
    have x0 : w5.cell? ⟨w.heap.size, 0, none⟩ = some (.int .i64 b) := hbx5.cell 0
    have x1 : (w5.alloc (.cells #[.bool s1, .int .i64 s2, .int .i64 s3, .int .i64 s4] 150)).cell? ⟨w.heap.size, 0, none⟩ = some (.int .i64 b) := (hbx5.alloc _).cell 0
    have HB6 := Lib.hid ((HB4.out.trans (hb5.mono HB4.out.size)).alloc (HB4.out.trans (hb5.mono HB4.out.size)).size (.cells #[.bool s1, .int .i64 s2, .int .i64 s3, .int .i64 s4] 150))
    clear hb5 hbx4 hbx5
    cases s1 with
    | false =>
      have hr : r = 0 := by rw [HR.out]; simp
      have HRR := Lib.hid hr
      clear hr
      go_wp2_with fail
      go_ret
      exact ⟨by rw [HRR.out]; rfl, HB6.out⟩
    | true =>
      by_cases h2 : s2 = b
      · have hr : r = IntKind.i64.wrap (worth - s4) := by rw [HR.out]; simp [h2]
        have HRR := Lib.hid hr
        have hne : (s2 != b) = false := by simpa using h2
        clear hr h2
        go_wp2_with fail
        exact bodyPost_ret (v := .int .i64 (wrap64 (worth - s4))) (by simp [results, Try.results111, go_sem]) rfl ⟨by rw [HRR.out, IntWalk.i64_left], HB6.out⟩
      · have hr : r = 0 := by rw [HR.out]; simp [h2]
        have HRR := Lib.hid hr
        have hne : (s2 != b) = true := by simpa using h2
        clear hr h2
        go_wp2_with fail
        exact bodyPost_ret (v := .int .i64 0) (by simp [results, Try.results111, go_sem]) rfl ⟨by rw [HRR.out], HB6.out⟩
  | some k =>
    obtain ⟨o, ho, hob⟩ := atF_get hat
    have hob' : o.b = b := by simpa [isB] using hob
    have hi : atFI (isB b) l = k := by unfold atFI; rw [hat]
    have hlm : l' = l.set k ⟨b, c⟩ := by rw [hl']; unfold laidS; rw [hat]
    have hkl : k < l.length := (List.getElem?_eq_some_iff.1 ho).1
    have HLM := Lib.hid hlm
    have HI := Lib.hid hi
    have HO := Lib.hid ho
    have HOB := Lib.hid hob'
    clear hat hi hlm hl' ho hob hob'
    go_enter Try.func111, Try.ntmps111
    go_wp2_with fail
    refine (clone_sec (Sec.all l) l.length _ R _ (HL.out.alloc _).1 (Sec.all_one l) (by omega)).mono ?_
    rintro e w1 ⟨A1, c1, rfl, hown1, hb1⟩
    have hbx : Blk w1 w.heap.size 3 #[.int .i64 b] := (Blk.new w 3 #[.int .i64 b]).grow hb1
    have HBX := Lib.hid hbx
    have hown1' : w1.ownsRow (w.heap.size + 1) 148 2 (.slice A1 l.length c1) l.length (Sec.all l) := by simpa using hown1
    obtain ⟨g, cm, hform, hgm1, hgm2⟩ := World.ownsRow.form hown1' (by omega)
    injection hform with hA1 _ hc1
    subst hA1 hc1
    have HO1 := Lib.hid hown1'
    have HB1 := Lib.hid (((Below.refl _ _).alloc (Nat.le_refl _) _).trans (hb1.mono (B' := w.heap.size) (by simp)))
    clear hb1 hown1 hown1' hbx
    have e1 : (0 : Int) ≤ (k : Int) := by omega
    have e2 : (k : Int) < (l.length : Int) := by omega
    have e3 : ¬ (k : Int) < 0 := by omega
    go_wp2_with (first
      | (go_at_call 139; refine (indexB_any l b w.heap.size _ _ _ ⟨Sl.of_own HO1.out, HWF.out⟩ (HBX.out.cell 0)).mono ?_; rintro e w2 ⟨rfl, hb2⟩; rw [HI.out]; have HO2 := Lib.hid (own_grow HO1.out hb2); have HB2 := Lib.hid (HB1.out.trans (hb2.mono HB1.out.size)); have HBX2 := Lib.hid (HBX.out.grow hb2); have q0 : w2.cell? ⟨g, k * 2 + 1, none⟩ = some (.int .i64 o.c) := ((own_grow HO1.out hb2).cellAt (k * 2 + 1) (by omega)).trans (Sec.all_snd l k o HO.out); have q1 := (own_grow HO1.out hb2).frozenAt (k * 2 + 1); clear hb2))
    obtain ⟨h1, h2⟩ := HO2.out.stored (k * 2 + 1) (.int .i64 c)
    have hx : (Sec.all l).set (k * 2 + 1) (.int .i64 c) = Sec.all l' := by
      rw [HLM.out, Sec.all_set l k o c HO.out, HOB.out]
    have hll' : l'.length = l.length := by rw [HLM.out]; simp
    have hs4 : Secs (w2.setCell ⟨g, k * 2 + 1, none⟩ (.int .i64 c)) (fun b => (Value.slice (some ⟨g, 0, none⟩) l.length c1).ownBlock = some b) (.slice (some ⟨g, 0, none⟩) l.length c1) l' := by
      refine ⟨?_, fun x hx => ?_⟩
      · rw [hll', ← hx]
        exact Sl.of_own h1
      · rw [HLM.out] at hx
        rcases List.mem_or_eq_of_mem_set hx with h | h
        · exact HWF.out x h
        · subst h
          exact ⟨hb, hc⟩
    have hbx4 : Blk (w2.setCell ⟨g, k * 2 + 1, none⟩ (.int .i64 c)) w.heap.size 3 #[.int .i64 b] := HBX2.out.far (by simp; omega) _
    have hb4 : Below w.heap.size w (w2.setCell ⟨g, k * 2 + 1, none⟩ (.int .i64 c)) := HB2.out.setCell (by simp; omega) _
    obtain ⟨W4, hW4⟩ : ∃ V, V = w2.setCell ⟨g, k * 2 + 1, none⟩ (.int .i64 c) := ⟨_, rfl⟩
    rw [← hW4] at hs4 hbx4 hb4 ⊢
    have HS4 := Lib.hid hs4
    have HBX4 := Lib.hid hbx4
    have HB4 := Lib.hid hb4
    clear h1 h2 hx hs4 hbx4 hb4 hW4 q0 q1
    have hbx4 : Blk W4 w.heap.size 3 #[.int .i64 b] := HBX4.out
    refine (sell_any floor l' _ _ W4 HS4.out).mono ?_
    rintro e w5 ⟨rfl, hb5⟩
    rw [HV.out]
    have hbx5 := hbx4.grow hb5
    have x0 : w5.cell? ⟨w.heap.size, 0, none⟩ = some (.int .i64 b) := hbx5.cell 0
    have x1 : (w5.alloc (.cells #[.bool s1, .int .i64 s2, .int .i64 s3, .int .i64 s4] 150)).cell? ⟨w.heap.size, 0, none⟩ = some (.int .i64 b) := (hbx5.alloc _).cell 0
    have HB6 := Lib.hid ((HB4.out.trans (hb5.mono HB4.out.size)).alloc (HB4.out.trans (hb5.mono HB4.out.size)).size (.cells #[.bool s1, .int .i64 s2, .int .i64 s3, .int .i64 s4] 150))
    clear hb5 hbx4 hbx5
    cases s1 with
    | false =>
      have hr : r = 0 := by rw [HR.out]; simp
      have HRR := Lib.hid hr
      clear hr
      go_wp2_with fail
      go_ret
      exact ⟨by rw [HRR.out]; rfl, HB6.out⟩
    | true =>
      by_cases h2 : s2 = b
      · have hr : r = IntKind.i64.wrap (worth - s4) := by rw [HR.out]; simp [h2]
        have HRR := Lib.hid hr
        have hne : (s2 != b) = false := by simpa using h2
        clear hr h2
        go_wp2_with fail
        exact bodyPost_ret (v := .int .i64 (wrap64 (worth - s4))) (by simp [results, Try.results111, go_sem]) rfl ⟨by rw [HRR.out, IntWalk.i64_left], HB6.out⟩
      · have hr : r = 0 := by rw [HR.out]; simp [h2]
        have HRR := Lib.hid hr
        have hne : (s2 != b) = true := by simpa using h2
        clear hr h2
        go_wp2_with fail
        exact bodyPost_ret (v := .int .i64 0) (by simp [results, Try.results111, go_sem]) rfl ⟨by rw [HRR.out], HB6.out⟩

def sealedT (floor : Int) (l : List Sec) (b worth other : Int) : Value :=
  if wrongE floor l b [worth, other] = 0 then .tuple #[.int .i64 (gainsW floor l b worth worth), .int .i64 (gainsW floor l b worth other), .int .i64 0] else .tuple #[.int .i64 0, .int .i64 0, .int .i64 (wrongE floor l b [worth, other])]
theorem wrongE_bd (floor : Int) (l : List Sec) (b : Int) (ns : List Int) : wrongE floor l b ns = 0 ∨ wrongE floor l b ns = 2 ∨ wrongE floor l b ns = 5 := by
  unfold wrongE
  split
  · exact sellE_bd floor l
  · split
    · exact .inr (.inl rfl)
    · split
      · exact .inr (.inl rfl)
      · exact .inl rfl

set_option maxHeartbeats 1600000 in
theorem sealed_any (floor : Int) (l : List Sec) (b worth other : Int) (v : Value) (R : Nat → Prop) (w : World) (hl : Secs w R v l) (hll : l.length ≤ 1000000)
    (hb : -9223372036854775808 ≤ b ∧ b ≤ 9223372036854775807) (hw : -9223372036854775808 ≤ worth ∧ worth ≤ 9223372036854775807) (ho : -9223372036854775808 ≤ other ∧ other ≤ 9223372036854775807) :
    Calls Try.prog 68 #[.int .i64 floor, v, .int .i64 b, .int .i64 worth, .int .i64 other] w fun e w' => e = .returned (sealedT floor l b worth other) ∧ Below w.heap.size w w' := by
  have HL := Lib.hid hl
  obtain ⟨⟨_, A, cap, rfl, _⟩, _⟩ := id hl
  clear hl
  have hbd := wrongE_bd floor l b [worth, other]
  obtain ⟨z, hz⟩ : ∃ z, z = wrongE floor l b [worth, other] := ⟨_, rfl⟩
  have hs : sealedT floor l b worth other = if z = 0 then .tuple #[.int .i64 (gainsW floor l b worth worth), .int .i64 (gainsW floor l b worth other), .int .i64 0] else .tuple #[.int .i64 0, .int .i64 0, .int .i64 z] := by rw [hz]; rfl
  rw [hs]
  rw [← hz] at hbd
  have HZ := Lib.hid hz
  have hzb : -9223372036854775808 ≤ z ∧ z ≤ 9223372036854775807 := by omega
  clear hs hz hbd
  by_cases h0 : z = 0
  · rw [if_pos h0]
    subst h0
    clear hzb
    go_enter Try.func68, Try.ntmps68
    go_wp2_with fail
    refine (wrong_any floor l b [worth, other] _ _ _ _ _ (HL.out.alloc _) (Sl.new w #[.int .i64 worth, .int .i64 other] _ 2 1 (by unfold maxLen; omega) rfl)).mono ?_
    rintro e w1 ⟨rfl, hb1⟩
    rw [← HZ.out]
    have HB1 := Lib.hid (((Below.refl _ _).alloc (Nat.le_refl _) _).trans (hb1.mono (B' := w.heap.size) (by simp)))
    clear hb1
    go_wp2_with fail
    refine (gains_any floor l b worth worth _ _ w1 (HL.out.grow HB1.out) hll hb hw).mono ?_
    rintro e w2 ⟨rfl, hb2⟩
    have HB2 := Lib.hid (HB1.out.trans (hb2.mono HB1.out.size))
    clear hb2
    go_wp2_with fail
    refine (gains_any floor l b worth other _ _ w2 (HL.out.grow HB2.out) hll hb ho).mono ?_
    rintro e w3 ⟨rfl, hb3⟩
    have HB3 := Lib.hid (HB2.out.trans (hb3.mono HB2.out.size))
    clear hb3
    go_wp2_with fail
    refine bodyPost_ret (v := .tuple #[.int .i64 (gainsW floor l b worth worth), .int .i64 (gainsW floor l b worth other), .int .i64 0]) (by simp [results, Try.results68, go_sem]) rfl ⟨rfl, HB3.out⟩
  · rw [if_neg h0]
    have hcb : (z != 0) = true := by simpa using h0
    clear h0
    go_enter Try.func68, Try.ntmps68
    go_wp2_with fail
    refine (wrong_any floor l b [worth, other] _ _ _ _ _ (HL.out.alloc _) (Sl.new w #[.int .i64 worth, .int .i64 other] _ 2 1 (by unfold maxLen; omega) rfl)).mono ?_
    rintro e w1 ⟨rfl, hb1⟩
    rw [← HZ.out]
    have HB1 := Lib.hid (((Below.refl _ _).alloc (Nat.le_refl _) _).trans (hb1.mono (B' := w.heap.size) (by simp)))
    clear hb1
    go_wp2_with fail
    refine bodyPost_ret (v := .tuple #[.int .i64 0, .int .i64 0, .int .i64 z]) (by simp [results, Try.results68, go_sem]) rfl ⟨rfl, HB1.out⟩

theorem sealed7 : sealedT 0 [⟨1, 7⟩] 0 9 6 = .tuple #[.int .i64 2, .int .i64 0, .int .i64 0] := by
  have h1 : wrongE 0 [⟨1, 7⟩] 0 [9, 6] = 0 := by decide
  have h2 : gainsW 0 [⟨1, 7⟩] 0 9 9 = 2 := by decide
  have h3 : gainsW 0 [⟨1, 7⟩] 0 9 6 = 0 := by decide
  unfold sealedT
  rw [if_pos h1, h2, h3]
end Go.Proofs.Ytcigobiolbojhaa.Vb

/- Law 17: VcgCosts, walked. -/
namespace Go.Proofs.Ytcigobiolbojhaa.Vb
open Go.RowKit

theorem coinAt_bd {n : Int} {bs : List (List Off)} (hw : ∀ l ∈ bs, ∀ o ∈ l, o.wf) (h : instE n bs = 0) (i : Nat) (c : Int) : 0 ≤ coinAt bs i c ∧ coinAt bs i c ≤ 1099511627776 := by
  have hok := (okb_of hw h).1
  unfold coinAt
  split
  · omega
  · cases hb : bs[i]? with
    | none => simp
    | some l =>
      cases hl : l[c.toNat]? with
      | none => simp [hl]
      | some o =>
        have := hok.offer hb hl
        simp only [Option.getD_some, hl, Option.map_some]
        exact ⟨by have := this.2.2.1; omega, this.2.2.2⟩
theorem paysL_bd {n : Int} {bs : List (List Off)} (hw : ∀ l ∈ bs, ∀ o ∈ l, o.wf) : ∀ x ∈ paysL n bs, -9007199254740992 ≤ x ∧ x ≤ 9007199254740992 := by
  intro x hx
  unfold paysL at hx
  split at hx
  · rename_i hi
    simp only [paysC, List.mem_mapIdx] at hx
    obtain ⟨i, hlt, rfl⟩ := hx
    unfold payAt
    split
    · omega
    · obtain ⟨h0, h1⟩ := coinAt_bd hw hi i ((bestC n bs)[i])
      obtain ⟨h2, h3⟩ := woW_bd hw hi i
      have h4 := W_nonneg bs (allOf n)
      have h5 : W bs (allOf n) ≤ 35184372088832 := by simpa using (okb_of hw hi).1.W_le 0 (allOf n)
      omega
  · cases hx
theorem paysL_len (n : Int) (bs : List (List Off)) : (paysL n bs).length = (choiceL n bs).length := by
  unfold paysL choiceL
  split
  · rw [paysC_length, bestC_len]
  · rfl
theorem choiceL_len (n : Int) (bs : List (List Off)) : (choiceL n bs).length ≤ bs.length := by
  unfold choiceL
  split
  · rw [bestC_len]; exact Nat.le_refl _
  · simp

/-- only blocks from a up to b have turned -/
def Mid (a b : Nat) (w w' : World) : Prop := Below a w w' ∧ ∀ i, b ≤ i → i < w.heap.size → w'.heap[i]? = w.heap[i]?
theorem Mid.refl (a b : Nat) (w : World) : Mid a b w w := ⟨Below.refl _ _, fun _ _ _ => rfl⟩
theorem Mid.set {a b : Nat} {w w' : World} (h : Mid a b w w') {p : Addr} (h1 : a ≤ p.block) (h2 : p.block < b) (u : Value) : Mid a b w (w'.setCell p u) :=
  ⟨h.1.setCell h1 u, fun i hi hl => (Below.heap_setCell w' p u i (by omega)).trans (h.2 i hi hl)⟩
theorem Mid.sl {a b : Nat} {w w' : World} {R : Nat → Prop} {v : Value} {n sz : Nat} {xs : List Value} (h : Mid a b w w') (hs : Sl w R v n sz xs) (hR : ∀ i, i < w.heap.size → R i → b ≤ i) : Sl w' R v n sz xs :=
  hs.keep h.1.size fun i hi hr => h.2 i (hR i hi hr) hi
theorem Mid.blk {a b : Nat} {w w' : World} {g : Nat} {t : TypeId} {cs : Array Value} (h : Mid a b w w') (hs : Blk w g t cs) (hg : b ≤ g) : Blk w' g t cs := (h.2 g hg hs.lt).trans hs
/-- a row from a base on -/
theorem Sl.own_from {w : World} {base : Nat} {e : TypeId} {sz n : Nat} {v : Value} {xs : List Value} (h : w.ownsRow base e sz v n xs) : Sl w (fun b => base ≤ b) v n sz xs :=
  (Sl.of_own h).mono fun b _ hb => (h.lt b hb).1

set_option maxRecDepth 100000 in
set_option maxHeartbeats 3200000 in
theorem costs_walk (n : Int) (bs : List (List Off)) (v : Value) (R : Nat → Prop) (w : World) (hl : Buys w R v bs) :
    Calls Try.prog 4 #[.agg #[.int .i64 n, v]] w fun e w' => e = .returned (.bool true) ∧ Below w.heap.size w w' := by
  obtain ⟨_, ⟨_, A, cap, rfl, _⟩, _⟩ := id hl
  have HB := Lib.hid hl
  have HWF := Lib.hid (buys_wf hl)
  clear hl
  cases hg : greatB bs with
  | true =>
    have HG := Lib.hid hg
    clear hg
    go_enter Try.func4, Try.ntmps4
    go_wp2_with fail
    refine (great_any n bs _ R _ (HB.out.alloc _)).mono ?_
    rintro e w1 ⟨rfl, hb1⟩
    rw [HG.out]
    have HB1 := Lib.hid (((Below.refl _ _).alloc (Nat.le_refl _) _).trans (hb1.mono (B' := w.heap.size) (by simp)))
    clear hb1
    go_wp2_with fail
    refine (works_any _).mono ?_
    rintro e w2 ⟨rfl, hb2⟩
    have HB2 := Lib.hid (HB1.out.trans (hb2.mono HB1.out.size))
    clear hb2
    go_wp2_with fail
    go_ret
    exact ⟨rfl, HB2.out⟩
  | false =>
    obtain ⟨hs1, hs2⟩ := greatB_small hg
    have HSM := Lib.hid (show Small bs from ⟨by omega, fun l hl => by have := hs2 l hl; omega⟩)
    have HG := Lib.hid hg
    obtain ⟨hi0, hi1⟩ := instE_bd n bs
    obtain ⟨ie, hie⟩ : ∃ ie, ie = instE n bs := ⟨_, rfl⟩
    rw [← hie] at hi0 hi1
    have HIE := Lib.hid hie
    have hcl := Nat.le_trans (choiceL_len n bs) hs1
    obtain ⟨cl, hcle⟩ : ∃ cl, cl = choiceL n bs := ⟨_, rfl⟩
    obtain ⟨pl, hple⟩ : ∃ pl, pl = paysL n bs := ⟨_, rfl⟩
    obtain ⟨m, hm⟩ : ∃ m, m = cl.length := ⟨_, rfl⟩
    obtain ⟨W0, hW0⟩ : ∃ W0, W0 = worthL n bs := ⟨_, rfl⟩
    rw [← hcle, ← hm] at hcl
    have hpl := paysL_len n bs
    rw [← hcle, ← hple, ← hm] at hpl
    have hpb := paysL_bd (n := n) HWF.out
    rw [← hple] at hpb
    have HPB := Lib.hid hpb
    have HPL := Lib.hid hpl
    have HM := Lib.hid hm
    have HCE := Lib.hid hcle
    have HPE := Lib.hid hple
    have HWE := Lib.hid hW0
    clear hg hie hcle hple hW0 hs2 hpl hm hpb
    have hcost : ∀ (vb : Value) (R' : Nat → Prop) (w' : World), Buys w' R' vb bs → ∀ f, f = 21 ∨ f = 17 → Calls Try.prog f #[.agg #[.int .i64 n, vb]] w' fun e w2 => ∃ A1 c1 A2 c2, e = .returned (.tuple #[.agg #[.slice A1 m c1, .int .i64 W0, .slice A2 m c2], .int .i64 ie]) ∧
        w2.ownsRow w'.heap.size 3 1 (.slice A1 m c1) m (ints cl) ∧ w2.ownsRow w'.heap.size 2 1 (.slice A2 m c2) m (ints pl) ∧ Below w'.heap.size w' w2 := by
      intro vb R' w' hbu f hf
      rw [HIE.out, HWE.out, HM.out, HPE.out, HCE.out]
      rcases hf with rfl | rfl
      · exact costs_all n bs vb R' w' hbu
      · exact refCosts_all n bs vb R' w' hbu
    have HCOST := Lib.hid hcost
    clear hcost
    go_enter Try.func4, Try.ntmps4
    go_wp2_with fail
    refine (great_any n bs _ R _ (HB.out.alloc _)).mono ?_
    rintro e w1 ⟨rfl, hb1⟩
    rw [HG.out]
    have hX := (Blk.new w 24 #[.int .i64 n, .slice A bs.length cap]).grow hb1
    have x0 : w1.cell? ⟨w.heap.size, 0, none⟩ = some (.int .i64 n) := hX.cell 0
    have x1 : w1.cell? ⟨w.heap.size, 1, none⟩ = some (.slice A bs.length cap) := hX.cell 1
    have HX := Lib.hid hX
    have HB1 := Lib.hid (((Below.refl _ _).alloc (Nat.le_refl _) _).trans (hb1.mono (B' := w.heap.size) (by simp)))
    clear hb1 hX
    go_wp2_with fail
    refine (given_any n bs _ R w1 (HB.out.grow HB1.out) HSM.out).mono ?_
    rintro e w2 ⟨A2, k2, rfl, hgv, hb2⟩
    have HX2 := Lib.hid (HX.out.grow hb2)
    have HV2 := Lib.hid hgv
    have HB2 := Lib.hid (HB1.out.trans (hb2.mono HB1.out.size))
    clear hb2 hgv x0 x1
    go_wp2_with fail
    -- the instance's copy lies; all up to here stands below u3
    obtain ⟨u3, hu3⟩ : ∃ u, u = w2.alloc (.cells #[.int .i64 n, .slice A2 bs.length k2] 24) := ⟨_, rfl⟩
    have hX := HX2.out.alloc (.cells #[.int .i64 n, .slice A2 bs.length k2] 24)
    have hY := Blk.new w2 24 #[.int .i64 n, .slice A2 bs.length k2]
    have hV := HV2.out.grow ((Below.refl _ _).alloc (Nat.le_refl _) (.cells #[.int .i64 n, .slice A2 bs.length k2] 24))
    have hB := HB2.out.alloc HB2.out.size (.cells #[.int .i64 n, .slice A2 bs.length k2] 24)
    rw [← hu3] at hX hY hV hB ⊢
    have HX3 := Lib.hid hX
    have HY3 := Lib.hid hY
    have HV3 := Lib.hid hV
    have HB3 := Lib.hid hB
    clear hu3 hX hY hV hB
    refine (HCOST.out _ _ _ HV3.out.buys _ (.inl rfl)).mono ?_
    rintro e w3 ⟨CA, ca, PA, pa, rfl, hc3, hp3, hb3⟩
    have hU : Below u3.heap.size u3 (w3.alloc (.cells #[.slice CA m ca, .int .i64 W0, .slice PA m pa] 36)) := hb3.alloc hb3.size _
    have hY := HY3.out.grow hU
    have y0 : (w3.alloc (.cells #[.slice CA m ca, .int .i64 W0, .slice PA m pa] 36)).cell? ⟨w2.heap.size, 0, none⟩ = some (.int .i64 n) := hY.cell 0
    have y1 : (w3.alloc (.cells #[.slice CA m ca, .int .i64 W0, .slice PA m pa] 36)).cell? ⟨w2.heap.size, 1, none⟩ = some (.slice A2 bs.length k2) := hY.cell 1
    have HU3 := Lib.hid hb3
    have HCA3 := Lib.hid hc3
    have HPA3 := Lib.hid hp3
    have hlt3 := hb3.size
    clear hU hY hb3 hc3 hp3
    go_wp2_with fail
    obtain ⟨u4, hu4⟩ : ∃ u, u = w3.alloc (.cells #[.slice CA m ca, .int .i64 W0, .slice PA m pa] 36) := ⟨_, rfl⟩
    have hPa := Blk.new w3 36 #[.slice CA m ca, .int .i64 W0, .slice PA m pa]
    have hU4 := HU3.out.alloc HU3.out.size (.cells #[.slice CA m ca, .int .i64 W0, .slice PA m pa] 36)
    have h34 : Below w3.heap.size w3 (w3.alloc (.cells #[.slice CA m ca, .int .i64 W0, .slice PA m pa] 36)) := (Below.refl _ _).alloc (Nat.le_refl _) _
    have hs4 : w3.heap.size + 1 ≤ u4.heap.size := by rw [hu4]; simp
    rw [← hu4] at hPa hU4 h34 ⊢
    have HPa4 := Lib.hid hPa
    have HU4 := Lib.hid hU4
    have HCA4 := Lib.hid (own_grow HCA3.out h34)
    have HPA4 := Lib.hid (own_grow HPA3.out h34)
    clear hu4 hPa hU4 h34 y0 y1
    refine (HCOST.out _ _ _ (HV3.out.grow HU4.out).buys _ (.inl rfl)).mono ?_
    rintro e w5 ⟨CB, cb, PB, pb, rfl, hc5, hp5, hb5⟩
    have hX := HX3.out.grow (HU4.out.trans (hb5.mono (B' := u3.heap.size) HU4.out.size))
    have x0 : (w5.alloc (.cells #[.slice CB m cb, .int .i64 W0, .slice PB m pb] 36)).cell? ⟨w.heap.size, 0, none⟩ = some (.int .i64 n) := (hX.alloc _).cell 0
    have x1 : (w5.alloc (.cells #[.slice CB m cb, .int .i64 W0, .slice PB m pb] 36)).cell? ⟨w.heap.size, 1, none⟩ = some (.slice A bs.length cap) := (hX.alloc _).cell 1
    have HU5 := Lib.hid (HU4.out.trans (hb5.mono (B' := u3.heap.size) HU4.out.size))
    have H45 := Lib.hid hb5
    have HCB5 := Lib.hid hc5
    have HPB5 := Lib.hid hp5
    clear hX hb5 hc5 hp5
    go_wp2_with fail
    obtain ⟨u6, hu6⟩ : ∃ u, u = w5.alloc (.cells #[.slice CB m cb, .int .i64 W0, .slice PB m pb] 36) := ⟨_, rfl⟩
    have hPb := Blk.new w5 36 #[.slice CB m cb, .int .i64 W0, .slice PB m pb]
    have h46 := H45.out.alloc H45.out.size (.cells #[.slice CB m cb, .int .i64 W0, .slice PB m pb] 36)
    have h56 : Below w5.heap.size w5 (w5.alloc (.cells #[.slice CB m cb, .int .i64 W0, .slice PB m pb] 36)) := (Below.refl _ _).alloc (Nat.le_refl _) _
    have hs6 := H45.out.size
    rw [← hu6] at hPb h46 h56 ⊢
    have HPb6 := Lib.hid hPb
    have H46 := Lib.hid h46
    have HCB6 := Lib.hid (own_grow HCB5.out h56)
    have HPB6 := Lib.hid (own_grow HPB5.out h56)
    clear hu6 hPb h46 h56 x0 x1
    have HU6 := Lib.hid (HU4.out.trans (H46.out.mono (B' := u3.heap.size) HU4.out.size))
    refine (HCOST.out _ _ _ (HB.out.grow (HB3.out.trans (HU6.out.mono HB3.out.size))) _ (.inr rfl)).mono ?_
    rintro e w7 ⟨CW, cw, PW, pw, rfl, hc7, hp7, hb7⟩
    -- want lies: u8
    have h48 := (H46.out.trans (hb7.mono (B' := u4.heap.size) H46.out.size)).alloc (Nat.le_trans H46.out.size hb7.size) (.cells #[.slice CW m cw, .int .i64 W0, .slice PW m pw] 36)
    have h68 := hb7.alloc hb7.size (.cells #[.slice CW m cw, .int .i64 W0, .slice PW m pw] 36)
    have h78 : Below w7.heap.size w7 (w7.alloc (.cells #[.slice CW m cw, .int .i64 W0, .slice PW m pw] 36)) := (Below.refl _ _).alloc (Nat.le_refl _) _
    obtain ⟨u8, hu8⟩ : ∃ u, u = w7.alloc (.cells #[.slice CW m cw, .int .i64 W0, .slice PW m pw] 36) := ⟨_, rfl⟩
    have hPw := Blk.new w7 36 #[.slice CW m cw, .int .i64 W0, .slice PW m pw]
    have hs7 := Nat.le_trans H46.out.size hb7.size
    rw [← hu8] at h48 h68 h78 hPw
    have HPw8 := Lib.hid hPw
    have HPb8 := Lib.hid (HPb6.out.grow h68)
    have HPa8 := Lib.hid (HPa4.out.grow h48)
    have HCA8 := Lib.hid (own_grow HCA4.out h48)
    have HPA8 := Lib.hid (own_grow HPA4.out h48)
    have HCB8 := Lib.hid (own_mono (own_grow HCB6.out h68) (show w3.heap.size ≤ u4.heap.size by omega))
    have HPB8 := Lib.hid (own_mono (own_grow HPB6.out h68) (show w3.heap.size ≤ u4.heap.size by omega))
    have HCW8 := Lib.hid (own_mono (own_grow hc7 h78) (show w3.heap.size ≤ u6.heap.size by have := H46.out.size; omega))
    have HPW8 := Lib.hid (own_mono (own_grow hp7 h78) (show w3.heap.size ≤ u6.heap.size by have := H46.out.size; omega))
    have HU8 := Lib.hid (HU4.out.trans (h48.mono (B' := u3.heap.size) HU4.out.size))
    have hg7 : w3.heap.size + 1 ≤ w7.heap.size := by omega
    clear h48 h68 h78 hPw hc7 hp7 hb7 hs6
    go_wp2_with fail
    rw [← hu8]
    clear hu8
    have hX := HX3.out.grow HU8.out
    have hY := HY3.out.grow HU8.out
    have x0 : u8.cell? ⟨w.heap.size, 0, none⟩ = some (.int .i64 n) := hX.cell 0
    have x1 : u8.cell? ⟨w.heap.size, 1, none⟩ = some (.slice A bs.length cap) := hX.cell 1
    have y0 : u8.cell? ⟨w2.heap.size, 0, none⟩ = some (.int .i64 n) := hY.cell 0
    have y1 : u8.cell? ⟨w2.heap.size, 1, none⟩ = some (.slice A2 bs.length k2) := hY.cell 1
    have a0 : u8.cell? ⟨w3.heap.size, 0, none⟩ = some (.slice CA m ca) := HPa8.out.cell 0
    have a1 : u8.cell? ⟨w3.heap.size, 1, none⟩ = some (.int .i64 W0) := HPa8.out.cell 1
    have a2 : u8.cell? ⟨w3.heap.size, 2, none⟩ = some (.slice PA m pa) := HPa8.out.cell 2
    have t0 : u8.cell? ⟨w7.heap.size, 0, none⟩ = some (.slice CW m cw) := HPw8.out.cell 0
    have t1 : u8.cell? ⟨w7.heap.size, 1, none⟩ = some (.int .i64 W0) := HPw8.out.cell 1
    have t2 : u8.cell? ⟨w7.heap.size, 2, none⟩ = some (.slice PW m pw) := HPw8.out.cell 2
    have HX8 := Lib.hid hX
    have HY8 := Lib.hid hY
    clear hX hY
    have hsame : ∀ (w' : World) (CA PA CB PB : Option Addr) (ca pa cb pb : Nat) (R1 R2 R3 R4 : Nat → Prop), Sl w' R1 (.slice CA m ca) m 1 (ints cl) → Sl w' R2 (.slice CB m cb) m 1 (ints cl) → Sl w' R3 (.slice PA m pa) m 1 (ints pl) → Sl w' R4 (.slice PB m pb) m 1 (ints pl) →
        Calls Try.prog 22 #[.agg #[.slice CA m ca, .int .i64 W0, .slice PA m pa], .agg #[.slice CB m cb, .int .i64 W0, .slice PB m pb]] w' fun e w2 => e = .returned (.bool true) ∧ Below w'.heap.size w' w2 := by
      intro w' CA PA CB PB ca pa cb pb R1 R2 R3 R4 h1 h2 h3 h4
      have hm := HM.out
      have hp := HPL.out
      refine samePaid_true W0 cl pl _ _ _ _ R1 R2 R3 R4 w' ?_ ?_ ?_ ?_
      · rw [← hm]; exact h1
      · rw [← hm]; exact h2
      · rw [hp]; exact h3
      · rw [hp]; exact h4
    have HSAME := Lib.hid hsame
    clear hsame
    go_wp2_with (first
      | (go_at_call 18; refine (num_any _ (by omega) (by omega) _).mono ?_; rintro e w9 ⟨rfl, rfl⟩)
      | (go_at_call 22; refine (HSAME.out _ _ _ _ _ _ _ _ _ _ _ _ _ (Sl.of_own HCA8.out) (Sl.of_own HCW8.out) (Sl.of_own HPA8.out) (Sl.of_own HPW8.out)).mono ?_; rintro e w9 ⟨rfl, hb9⟩; have HB9 := Lib.hid hb9; have hX := HX8.out.grow hb9; have hY := HY8.out.grow hb9; obtain ⟨x0, x1, y0, y1⟩ : w9.cell? ⟨w.heap.size, 0, none⟩ = some (.int .i64 n) ∧ w9.cell? ⟨w.heap.size, 1, none⟩ = some (.slice A bs.length cap) ∧ w9.cell? ⟨w2.heap.size, 0, none⟩ = some (.int .i64 n) ∧ w9.cell? ⟨w2.heap.size, 1, none⟩ = some (.slice A2 bs.length k2) := ⟨hX.cell 0, hX.cell 1, hY.cell 0, hY.cell 1⟩; clear hb9 hX hY)
      | (go_at_call 19; refine (stays_any n bs _ _ _ R _ ((HV3.out.grow HU8.out).grow HB9.out) ((HB.out.grow (HB3.out.trans (HU8.out.mono HB3.out.size))).grow HB9.out) HSM.out).mono ?_; rintro e w10 ⟨rfl, hb10⟩; have H8 := Lib.hid (HB9.out.trans (hb10.mono HB9.out.size)); clear hb10 HB9 x0 x1 y0 y1 a0 a1 a2 t0 t1 t2))
    have hPw := HPw8.out.grow H8.out
    have t2 : w10.cell? ⟨w7.heap.size, 2, none⟩ = some (.slice PW m pw) := hPw.cell 2
    have HPw10 := Lib.hid hPw
    clear hPw
    have hslw := (Sl.of_own HPW8.out).grow H8.out
    have HSLW := Lib.hid hslw
    clear hslw
    go_loop [10, 11] (fun s i => ∃ k : Nat, k ≤ m ∧ i = .int .i64 k ∧ s = .int .i64 (sumI (pl.take k))) (fun _ i => m - (intOf i).toNat)
    case atStart => exact ⟨0, Nat.zero_le _, rfl, rfl⟩
    case round =>
      obtain ⟨k, hk, rfl, rfl⟩ := hrel
      by_cases hlt : k < m
      · obtain ⟨bw, ow, xw, rfl, hbw, hxw, hcw⟩ := HSLW.out.int_at hlt
        have hst := sumI_take hxw
        have h1 := sumI_bd (pl.take k) (fun x hx => HPB.out x (List.mem_of_mem_take hx))
        have h2 := HPB.out xw (List.mem_of_getElem? hxw)
        have hkl : ((pl.take k).length : Int) ≤ k := by simp; omega
        have h3 : ((pl.take k).length : Int) * 9007199254740992 ≤ 40 * 9007199254740992 := Int.mul_le_mul_of_nonneg_right (by omega) (by omega)
        have hsum : IntKind.i64.wrap (sumI (pl.take k) + xw) = sumI (pl.take k) + xw := IntWalk.i64_in _ (by omega)
        have HST := Lib.hid hst
        have e1 : (0 : Int) ≤ (k : Int) := by omega
        have e2 : (k : Int) < (m : Int) := by omega
        clear hst h1 h2 h3 hkl hxw
        go_wp2_with fail
        go_round
        case rel => exact ⟨k + 1, by omega, by go_num, by rw [HST.out]⟩
        case measure => simp [intOf]; omega
      · have hkm : k = pl.length := by rw [HPL.out]; omega
        have hsum0 : sumI (pl.take k) = sumI pl := by rw [hkm, List.take_length]
        rw [hsum0]
        have hPa := HPa8.out.grow H8.out
        have a0 : w10.cell? ⟨w3.heap.size, 0, none⟩ = some (.slice CA m ca) := hPa.cell 0
        have a1 : w10.cell? ⟨w3.heap.size, 1, none⟩ = some (.int .i64 W0) := hPa.cell 1
        have a2 : w10.cell? ⟨w3.heap.size, 2, none⟩ = some (.slice PA m pa) := hPa.cell 2
        have HPa10 := Lib.hid hPa
        clear hPa hkm hsum0
        have hinc : Calls Try.prog 23 #[.agg #[.slice CA m ca, .int .i64 W0, .slice PA m pa]] w10 fun e w' => e = .returned (.int .i64 (sumI pl)) ∧ Below w10.heap.size w10 w' :=
          income_any W0 pl _ _ _ w10 (by rw [HPL.out]; exact (Sl.of_own HPA8.out).grow H8.out) HPB.out (by rw [HPL.out]; omega)
        have HINC := Lib.hid hinc
        clear hinc
        go_wp2_with fail
        refine HINC.out.mono ?_
        rintro e w11 ⟨rfl, hb11⟩
        have H11 := Lib.hid (H8.out.trans (hb11.mono H8.out.size))
        clear hb11 a0 a1 a2
        have hPa := HPa8.out.grow H11.out
        have a0 : w11.cell? ⟨w3.heap.size, 0, none⟩ = some (.slice CA m ca) := hPa.cell 0
        have a2 : w11.cell? ⟨w3.heap.size, 2, none⟩ = some (.slice PA m pa) := hPa.cell 2
        have HPa11 := Lib.hid hPa
        clear hPa
        go_wp2_with fail
        clear a0 a2
        go_loopw [12] (fun i wr => ∃ (k : Nat) (xs ys : List Value), k ≤ m ∧ i = .int .i64 k ∧ Mid u3.heap.size w3.heap.size w11 wr ∧ wr.ownsRow u3.heap.size 3 1 (.slice CA m ca) m xs ∧ wr.ownsRow u3.heap.size 2 1 (.slice PA m pa) m ys) (fun i _ => m - (intOf i).toNat)
        case atStart => exact ⟨0, _, _, Nat.zero_le _, rfl, Mid.refl _ _ _, own_grow HCA8.out H11.out, own_grow HPA8.out H11.out⟩
        case round =>
          obtain ⟨j2, xs, ys, hk2, rfl, hmid, ho1, ho2⟩ := hrel
          have hPa := hmid.blk HPa11.out (Nat.le_refl _)
          have a0 : wr.cell? ⟨w3.heap.size, 0, none⟩ = some (.slice CA m ca) := hPa.cell 0
          have a2 : wr.cell? ⟨w3.heap.size, 2, none⟩ = some (.slice PA m pa) := hPa.cell 2
          by_cases hlt2 : j2 < m
          · obtain ⟨gA, rfl, hA0, hA1, hA2, hA3, hA4⟩ := own_some ho1 (by omega)
            obtain ⟨gP, rfl, hP0, hP1, hP2, hP3, hP4⟩ := own_some ho2 (by omega)
            have hAlt := (HCA3.out.lt gA rfl).2
            have hPlt := (HPA3.out.lt gP rfl).2
            have hne : gA ≠ gP := fun e => own_ne ho1 ho2 (by decide) (g := gA) rfl (by simp [Value.ownBlock, e])
            obtain ⟨uA, _, cA⟩ := hA4 j2 hlt2
            obtain ⟨uP, _, cP⟩ := hP4 j2 hlt2
            have fA := hA3 j2
            have fP := hP3 j2
            have b0 : (wr.setCell ⟨gP, j2, none⟩ (.int .i64 (-9))).cell? ⟨w3.heap.size, 0, none⟩ = some (.slice (some ⟨gA, 0, none⟩) m ca) := (World.cell?_setCell_other wr ⟨gP, j2, none⟩ ⟨w3.heap.size, 0, none⟩ _ (fun e => by injection e with e; omega)).trans a0
            have b1 : (wr.setCell ⟨gP, j2, none⟩ (.int .i64 (-9))).cell? ⟨gA, j2, none⟩ = some uA := (World.cell?_setCell_other wr ⟨gP, j2, none⟩ ⟨gA, j2, none⟩ _ (fun e => by injection e with e; omega)).trans cA
            have b2 : (wr.setCell ⟨gP, j2, none⟩ (.int .i64 (-9))).frozen? ⟨gA, j2, none⟩ = false := by rw [World.frozen?_setCell]; exact fA
            have e1 : (0 : Int) ≤ (j2 : Int) := by omega
            have e2 : (j2 : Int) < (m : Int) := by omega
            have HMID := Lib.hid hmid
            have HO1 := Lib.hid ho1
            have HO2 := Lib.hid ho2
            clear hmid ho1 ho2 hPa hA3 hA4 hP3 hP4
            go_wp2_with fail
            go_roundw
            case rel =>
              have s1 := HO2.out.stored j2 (.int .i64 (-9))
              have s2 := (own_far HO1.out s1.2 (fun g e => by simp [Value.ownBlock] at e ⊢; omega)).stored j2 (.int .i64 (-9))
              refine ⟨j2 + 1, _, _, by omega, by go_num, (HMID.out.set (p := ⟨gP, j2, none⟩) hP0 hPlt _).set (p := ⟨gA, j2, none⟩) hA0 hAlt _, s2.1, own_far s1.1 s2.2 (fun g e => by simp [Value.ownBlock] at e ⊢; omega)⟩
            case measure => simp [intOf]; omega
          · have hPb := hmid.blk (HPb8.out.grow H11.out) (by have := H45.out.size; omega)
            have hPw := hmid.blk (HPw8.out.grow H11.out) (by omega)
            have q0 : wr.cell? ⟨w5.heap.size, 0, none⟩ = some (.slice CB m cb) := hPb.cell 0
            have q1 : wr.cell? ⟨w5.heap.size, 1, none⟩ = some (.int .i64 W0) := hPb.cell 1
            have q2 : wr.cell? ⟨w5.heap.size, 2, none⟩ = some (.slice PB m pb) := hPb.cell 2
            have t0 : wr.cell? ⟨w7.heap.size, 0, none⟩ = some (.slice CW m cw) := hPw.cell 0
            have t1 : wr.cell? ⟨w7.heap.size, 1, none⟩ = some (.int .i64 W0) := hPw.cell 1
            have t2 : wr.cell? ⟨w7.heap.size, 2, none⟩ = some (.slice PW m pw) := hPw.cell 2
            have hX := (HX8.out.grow H11.out).below hmid.1 (by have := HX3.out.lt; omega)
            have hY := (HY8.out.grow H11.out).below hmid.1 (by have := HY3.out.lt; omega)
            have x0 : wr.cell? ⟨w.heap.size, 0, none⟩ = some (.int .i64 n) := hX.cell 0
            have x1 : wr.cell? ⟨w.heap.size, 1, none⟩ = some (.slice A bs.length cap) := hX.cell 1
            have y0 : wr.cell? ⟨w2.heap.size, 0, none⟩ = some (.int .i64 n) := hY.cell 0
            have y1 : wr.cell? ⟨w2.heap.size, 1, none⟩ = some (.slice A2 bs.length k2) := hY.cell 1
            have HMID := Lib.hid hmid
            have hH11 := H11.out.size
            have hbC := HMID.out.sl ((Sl.own_from HCB8.out).grow H11.out) (fun i _ h => h)
            have hbP := HMID.out.sl ((Sl.own_from HPB8.out).grow H11.out) (fun i _ h => h)
            have hwC := HMID.out.sl ((Sl.own_from HCW8.out).grow H11.out) (fun i _ h => h)
            have hwP := HMID.out.sl ((Sl.own_from HPW8.out).grow H11.out) (fun i _ h => h)
            have hall : Below u3.heap.size u3 wr := (HU8.out.trans (H11.out.mono HU8.out.size)).trans (HMID.out.1.mono (Nat.le_refl _))
            have HALL := Lib.hid hall
            have HBC := Lib.hid hbC
            have HBP := Lib.hid hbP
            have HWC := Lib.hid hwC
            have HWP := Lib.hid hwP
            have HXr := Lib.hid hX
            have HYr := Lib.hid hY
            clear hmid hPb hPw hX hY hbC hbP hwC hwP hall ho1 ho2 a0 hPa
            go_wp2_with (first
              | (go_at_call 22; refine (HSAME.out _ _ _ _ _ _ _ _ _ _ _ _ _ HBC.out HWC.out HBP.out HWP.out).mono ?_; rintro e w12 ⟨rfl, hb12⟩; have H12 := Lib.hid hb12; have hX := HXr.out.grow hb12; have hY := HYr.out.grow hb12; obtain ⟨x0, x1, y0, y1⟩ : w12.cell? ⟨w.heap.size, 0, none⟩ = some (.int .i64 n) ∧ w12.cell? ⟨w.heap.size, 1, none⟩ = some (.slice A bs.length cap) ∧ w12.cell? ⟨w2.heap.size, 0, none⟩ = some (.int .i64 n) ∧ w12.cell? ⟨w2.heap.size, 1, none⟩ = some (.slice A2 bs.length k2) := ⟨hX.cell 0, hX.cell 1, hY.cell 0, hY.cell 1⟩; clear hb12 hX hY)
              | (go_at_call 19; refine (stays_any n bs _ _ _ R _ ((HV3.out.grow HALL.out).grow H12.out) ((HB.out.grow (HB3.out.trans (HALL.out.mono HB3.out.size))).grow H12.out) HSM.out).mono ?_; rintro e w13 ⟨rfl, hb13⟩; have H13 := Lib.hid (H12.out.trans (hb13.mono H12.out.size)); clear hb13 x0 x1 y0 y1 q0 q1 q2 t0 t1 t2)
              | (go_at_call 14; refine (works_any _).mono ?_; rintro e w14 ⟨rfl, hb14⟩; have H14 := Lib.hid (H13.out.trans (hb14.mono H13.out.size)); clear hb14))
            go_ret
            exact ⟨rfl, (HB3.out.trans (HALL.out.mono HB3.out.size)).trans (H14.out.mono (HB3.out.trans (HALL.out.mono HB3.out.size)).size)⟩
end Go.Proofs.Ytcigobiolbojhaa.Vb

/- Plain: what a winner costs the others; with more offered for what it wins a buyer wins that, and pays the same. -/
namespace Go.Proofs.Ytcigobiolbojhaa.Vb

def SubG (a b : Nat) : Prop := ∀ i, a.testBit i = true → b.testBit i = true
theorem compl_bit {b : Nat} (hb : b < 4294967296) (i : Nat) : (4294967295 - b).testBit i = (decide (i < 32) && !b.testBit i) := by
  have e : 4294967295 - b = 2 ^ 32 - (b + 1) := by omega
  rw [e, Nat.testBit_two_pow_sub_succ (by simpa using hb)]
theorem andNot_bit {a b : Nat} (hb : b < 4294967296) (i : Nat) : (andNot a b).testBit i = (a.testBit i && (decide (i < 32) && !b.testBit i)) := by
  unfold andNot
  rw [Nat.testBit_and, compl_bit hb]
theorem bit_lt {a i : Nat} (ha : a < 4294967296) (h : a.testBit i = true) : i < 32 := by
  rcases Nat.lt_or_ge i 32 with h1 | h1
  · exact h1
  · have : a.testBit i = false := Nat.testBit_lt_two_pow (Nat.lt_of_lt_of_le ha (by
      have : 2 ^ 32 ≤ 2 ^ i := Nat.pow_le_pow_right (by omega) h1
      simpa using this))
    rw [this] at h
    cases h
theorem andNot_sub {a b : Nat} (hb : b < 4294967296) : SubG (andNot a b) a := fun i h => by
  rw [andNot_bit hb] at h
  simp at h
  exact h.1
theorem andNot_zero_iff {a b : Nat} (ha : a < 4294967296) (hb : b < 4294967296) : andNot a b = 0 ↔ SubG a b := by
  constructor
  · intro h i hi
    have := andNot_bit (a := a) hb i
    rw [h, hi] at this
    simpa [bit_lt ha hi] using this.symm
  · intro h
    apply Nat.eq_of_testBit_eq
    intro i
    rw [andNot_bit hb]
    cases hi : a.testBit i with
    | false => simp
    | true => simp [h i hi]
theorem SubG.trans {a b c : Nat} (h : SubG a b) (k : SubG b c) : SubG a c := fun i hi => k i (h i hi)
theorem SubG.andNot {a b c : Nat} (hc : c < 4294967296) (h : SubG a b) : SubG (Vb.andNot a c) (Vb.andNot b c) := fun i hi => by
  rw [andNot_bit hc] at hi ⊢
  simp at hi ⊢
  exact ⟨h i hi.1, hi.2⟩
theorem andNot_lt {a b : Nat} (ha : a < 4294967296) : Vb.andNot a b < 4294967296 := Nat.lt_of_le_of_lt (andNot_le a b) ha

/-- every offer's set is a set of goods -/
def GoodL (bs : List (List Off)) : Prop := ∀ l ∈ bs, ∀ o ∈ l, o.g < 4294967296

theorem fold_mono2 {g g' : Nat → Int} {f f' : Nat} (hstep : ∀ (o : Off) (b b' : Int), o.g < 4294967296 → b ≤ b' → stepO g f b o ≤ stepO g' f' b' o) : ∀ (l : List Off) {b b' : Int}, (∀ o ∈ l, o.g < 4294967296) → b ≤ b' → l.foldl (stepO g f) b ≤ l.foldl (stepO g' f') b'
  | [], _, _, _, h => h
  | o :: l, _, _, hl, h => fold_mono2 hstep l (fun x hx => hl x (by simp [hx])) (hstep o _ _ (hl o (by simp)) h)
/-- fewer goods, less worth -/
theorem W_free : ∀ (bs : List (List Off)) (f f' : Nat), GoodL bs → f < 4294967296 → f' < 4294967296 → SubG f f' → W bs f ≤ W bs f'
  | [], _, _, _, _, _, _ => Int.le_refl _
  | l :: bs, f, f', hg, hf, hf', hs => by
    have hg' : GoodL bs := fun x hx => hg x (by simp [hx])
    refine fold_mono2 (fun o b b' ho hb => ?_) l (hg l (by simp)) (W_free bs f f' hg' hf hf' hs)
    unfold stepO
    by_cases h1 : andNot o.g f = 0
    · have h2 : andNot o.g f' = 0 := (andNot_zero_iff ho hf').2 (((andNot_zero_iff ho hf).1 h1).trans hs)
      rw [if_pos h1, if_pos h2]
      have := W_free bs (andNot f o.g) (andNot f' o.g) hg' (andNot_lt hf) (andNot_lt hf') (hs.andNot ho)
      omega
    · rw [if_neg h1]
      split <;> omega

theorem pickAt_get' {g : Nat → Int} {f : Nat} {left : Int} : ∀ {l : List Off} {j x : Nat}, pickAt g f left l = some (j, x) → ∃ o, l[j]? = some o ∧ o.g = x ∧ andNot o.g f = 0 ∧ o.c + g (andNot f o.g) = left ∧ ∀ i y, i < j → l[i]? = some y → pickB g f left y = false
  | o :: l, j, x, h => by
    simp only [pickAt] at h
    split at h
    · rename_i hb
      simp only [Option.some.injEq, Prod.mk.injEq] at h
      obtain ⟨rfl, rfl⟩ := h
      simp only [pickB, Bool.and_eq_true, decide_eq_true_eq] at hb
      exact ⟨o, rfl, rfl, hb.1, hb.2, fun i y hi => by omega⟩
    · rename_i hb
      cases hp : pickAt g f left l with
      | none => rw [hp] at h; cases h
      | some p =>
        rw [hp] at h
        simp only [Option.map_some, Option.some.injEq, Prod.mk.injEq] at h
        obtain ⟨rfl, rfl⟩ := h
        obtain ⟨o', h1, h2, h3, h4, h5⟩ := pickAt_get' (j := p.1) (x := p.2) hp
        refine ⟨o', by simpa using h1, h2, h3, h4, fun i y hi hy => ?_⟩
        cases i with
        | zero => simp at hy; subst hy; simpa using hb
        | succ i => exact h5 i y (by omega) (by simpa using hy)
theorem pickAt_none' {g : Nat → Int} {f : Nat} {left : Int} : ∀ {l : List Off}, pickAt g f left l = none → ∀ o ∈ l, pickB g f left o = false
  | [], _, o, h => by cases h
  | x :: l, h, o, ho => by
    simp only [pickAt] at h
    split at h
    · cases h
    · rename_i hb
      rcases List.mem_cons.1 ho with rfl | ho
      · simpa using hb
      · exact pickAt_none' (by simpa using h) o ho

/-- what the others have without a winner is at least all less what it offers -/
theorem W_win : ∀ (bs : List (List Off)) (k f j : Nat) (l : List Off) (o : Off), GoodL bs → f < 4294967296 → (choose bs f)[k]? = some (j : Int) → bs[k]? = some l → l[j]? = some o → W bs f ≤ W (bs.set k []) f + o.c
  | [], k, f, j, l, o, _, _, h, _, _ => by simp [choose] at h
  | l0 :: bs, 0, f, j, l, o, hg, hf, h, hl, ho => by
    simp only [List.getElem?_cons_zero, Option.some.injEq] at hl
    subst hl
    simp only [choose, List.getElem?_cons_zero, Option.some.injEq] at h
    unfold pickN at h
    cases hp : pickAt (W bs) f (W (l0 :: bs) f) l0 with
    | none => rw [hp] at h; simp only at h; omega
    | some p =>
      rw [hp] at h
      simp only at h
      obtain ⟨o', h1, h2, h3, h4, _⟩ := pickAt_get' (j := p.1) (x := p.2) hp
      have hj : p.1 = j := by omega
      rw [hj, ho] at h1
      have h1' := Option.some.inj h1
      subst h1'
      have hg' : GoodL bs := fun x hx => hg x (by simp [hx])
      have hog := hg l0 (by simp) o (List.mem_of_getElem? ho)
      have := W_free bs (andNot f o.g) f hg' (andNot_lt hf) hf (andNot_sub hog)
      simp only [List.set_cons_zero]
      show W (l0 :: bs) f ≤ W bs f + o.c
      omega
  | l0 :: bs, k + 1, f, j, l, o, hg, hf, h, hl, ho => by
    have hg' : GoodL bs := fun x hx => hg x (by simp [hx])
    simp only [choose, List.getElem?_cons_succ] at h hl
    simp only [List.set_cons_succ]
    unfold pickN at h
    cases hp : pickAt (W bs) f (W (l0 :: bs) f) l0 with
    | none =>
      rw [hp] at h
      have ih := W_win bs k f j l o hg' hf h hl ho
      rw [pick_none_W hp]
      have := fold_ge (W (bs.set k [])) f l0 (W (bs.set k []) f)
      show W bs f ≤ W (l0 :: bs.set k []) f + o.c
      simp only [W]
      omega
    | some p =>
      obtain ⟨j0, x⟩ := p
      rw [hp] at h
      obtain ⟨o0, ho0, rfl, hf0, he0⟩ := pickAt_att hp
      have ih := W_win bs k (andNot f o0.g) j l o hg' (andNot_lt hf) h hl ho
      have := fold_mem (g := W (bs.set k [])) (f := f) l0 (W (bs.set k []) f) o0 ho0 hf0
      show W (l0 :: bs) f ≤ W (l0 :: bs.set k []) f + o.c
      simp only [W] at he0 ⊢
      omega

/-- a list in which one offer is raised -/
def raiseL (l : List Off) (n : Nat) (more : Int) : List Off := l.modify n fun o => ⟨o.g, o.c + more⟩
def raiseB (bs : List (List Off)) (b n : Nat) (more : Int) : List (List Off) := bs.modify b fun l => raiseL l n more
theorem raiseL_get (l : List Off) (n : Nat) (more : Int) (i : Nat) : (raiseL l n more)[i]? = (l[i]?).map fun o => if i = n then ⟨o.g, o.c + more⟩ else o := by
  unfold raiseL
  rw [List.getElem?_modify]
  by_cases h : n = i
  · subst h; cases l[n]? <;> simp
  · have h' : ¬ i = n := fun e => h e.symm
    cases l[i]? <;> simp [h, h']
theorem fold_raise {g : Nat → Int} {f : Nat} {more : Int} (hm : 0 ≤ more) : ∀ (l : List Off) (n : Nat) {b b' : Int}, b' ≤ b + more → (raiseL l n more).foldl (stepO g f) b' ≤ l.foldl (stepO g f) b + more := by
  intro l n b b' hb
  refine fold_le g f _ _ _ (fun o ho hfe => ?_) (Int.le_trans hb (Int.add_le_add_right (fold_ge g f l b) _))
  obtain ⟨i, hi⟩ := List.getElem?_of_mem ho
  rw [raiseL_get] at hi
  cases hl : l[i]? with
  | none => rw [hl] at hi; cases hi
  | some x =>
    rw [hl] at hi
    simp only [Option.map_some, Option.some.injEq] at hi
    have hx : x ∈ l := List.mem_of_getElem? hl
    by_cases hin : i = n
    · rw [if_pos hin] at hi
      subst hi
      have := fold_mem (g := g) (f := f) l b x hx hfe
      simp only
      omega
    · rw [if_neg hin] at hi
      subst hi
      have := fold_mem (g := g) (f := f) l b x hx hfe
      omega
theorem W_raise_le {more : Int} (hm : 0 ≤ more) : ∀ (bs : List (List Off)) (b n f : Nat), W (raiseB bs b n more) f ≤ W bs f + more
  | [], b, n, f => by
    have : raiseB [] b n more = [] := by unfold raiseB; cases b <;> rfl
    rw [this]; simp only [W]; omega
  | l :: bs, 0, n, f => by
    show W (raiseL l n more :: bs) f ≤ W (l :: bs) f + more
    simp only [W]
    exact fold_raise hm l n (by omega)
  | l :: bs, b + 1, n, f => by
    have ih := W_raise_le hm bs b n
    show W (l :: raiseB bs b n more) f ≤ W (l :: bs) f + more
    simp only [W]
    refine fold_le _ _ _ _ _ (fun o ho hfe => ?_) (Int.le_trans (ih f) (Int.add_le_add_right (fold_ge _ _ _ _) _))
    have h1 := fold_mem (g := W bs) (f := f) l (W bs f) o ho hfe
    have h2 := ih (andNot f o.g)
    omega

theorem pickB_lt {g : Nat → Int} {f : Nat} {left : Int} {l : List Off} {b : Int} {o : Off} (hl : l.foldl (stepO g f) b = left) (ho : o ∈ l) (hp : pickB g f left o = false) (hfe : andNot o.g f = 0) : o.c + g (andNot f o.g) < left := by
  have h1 := fold_mem (g := g) (f := f) l b o ho hfe
  simp only [pickB, Bool.and_eq_false_iff, decide_eq_false_iff_not] at hp
  rcases hp with h | h
  · exact absurd hfe h
  · omega
theorem pickB_false_of {g : Nat → Int} {f : Nat} {left : Int} {o : Off} (h : andNot o.g f = 0 → o.c + g (andNot f o.g) < left) : pickB g f left o = false := by
  simp only [pickB, Bool.and_eq_false_iff, decide_eq_false_iff_not]
  by_cases hf : andNot o.g f = 0
  · exact .inr (by have := h hf; omega)
  · exact .inl hf

/-- with more offered for what it wins, all is worth that much more, and it wins the same -/
theorem choose_raise {more : Int} (hm : 0 < more) : ∀ (bs : List (List Off)) (b f n : Nat) (l : List Off) (o : Off), (choose bs f)[b]? = some (n : Int) → bs[b]? = some l → l[n]? = some o →
    W (raiseB bs b n more) f = W bs f + more ∧ (choose (raiseB bs b n more) f)[b]? = some (n : Int)
  | [], b, f, n, l, o, h, _, _ => by simp [choose] at h
  | l0 :: bs, 0, f, n, l, o, h, hl, ho => by
    simp only [List.getElem?_cons_zero, Option.some.injEq] at hl
    subst hl
    simp only [choose, List.getElem?_cons_zero, Option.some.injEq] at h
    unfold pickN at h
    cases hp : pickAt (W bs) f (W (l0 :: bs) f) l0 with
    | none => rw [hp] at h; simp only at h; omega
    | some p =>
      rw [hp] at h
      simp only at h
      obtain ⟨o', h1, h2, h3, h4, h5⟩ := pickAt_get' (j := p.1) (x := p.2) hp
      have hj : p.1 = n := by omega
      rw [hj, ho] at h1
      have h1' := Option.some.inj h1
      subst h1'
      rw [hj] at h5
      have hrn : (raiseL l0 n more)[n]? = some ⟨o.g, o.c + more⟩ := by rw [raiseL_get, ho]; simp
      have hW : W (raiseL l0 n more :: bs) f = W (l0 :: bs) f + more := by
        refine Int.le_antisymm (W_raise_le (by omega) (l0 :: bs) 0 n f) ?_
        have := fold_mem (g := W bs) (f := f) (raiseL l0 n more) (W bs f) ⟨o.g, o.c + more⟩ (List.mem_of_getElem? hrn) h3
        show W (l0 :: bs) f + more ≤ (raiseL l0 n more).foldl (stepO (W bs) f) (W bs f)
        simp only at this
        omega
      refine ⟨hW, ?_⟩
      show (choose (raiseL l0 n more :: bs) f)[0]? = some (n : Int)
      simp only [choose, List.getElem?_cons_zero, Option.some.injEq]
      rw [hW, pickN_some (o := ⟨o.g, o.c + more⟩) hrn ?_ ?_]
      · simp only [pickB, Bool.and_eq_true, decide_eq_true_eq]
        exact ⟨h3, by omega⟩
      · intro j x hjn hx
        rw [raiseL_get] at hx
        cases hl0 : l0[j]? with
        | none => rw [hl0] at hx; cases hx
        | some y =>
          rw [hl0] at hx
          simp only [Option.map_some, Option.some.injEq, if_neg (show ¬ j = n by omega)] at hx
          subst hx
          exact pickB_false_of fun hfe => by
            have := pickB_lt (g := W bs) (l := l0) (b := W bs f) rfl (List.mem_of_getElem? hl0) (h5 j y hjn hl0) hfe
            show _ < W (l0 :: bs) f + more
            simp only [W] at this ⊢
            omega
  | l0 :: bs, b + 1, f, n, l, o, h, hl, ho => by
    simp only [choose, List.getElem?_cons_succ] at h hl
    show W (l0 :: raiseB bs b n more) f = W (l0 :: bs) f + more ∧ (choose (l0 :: raiseB bs b n more) f)[b + 1]? = some (n : Int)
    have hle : W (l0 :: raiseB bs b n more) f ≤ W (l0 :: bs) f + more := W_raise_le (by omega) (l0 :: bs) (b + 1) n f
    have hlt : ∀ x ∈ l0, pickB (W bs) f (W (l0 :: bs) f) x = false → pickB (W (raiseB bs b n more)) f (W (l0 :: bs) f + more) x = false := fun x hx hp => pickB_false_of fun hfe => by
      have h1 := pickB_lt (g := W bs) (l := l0) (b := W bs f) rfl hx hp hfe
      have h2 := W_raise_le (Int.le_of_lt hm) bs b n (andNot f x.g)
      simp only [W] at h1 ⊢
      omega
    unfold pickN at h
    cases hp : pickAt (W bs) f (W (l0 :: bs) f) l0 with
    | none =>
      rw [hp] at h
      simp only at h
      obtain ⟨ih1, ih2⟩ := choose_raise hm bs b f n l o h hl ho
      have hW : W (l0 :: raiseB bs b n more) f = W (l0 :: bs) f + more := by
        refine Int.le_antisymm hle ?_
        rw [pick_none_W hp, ← ih1]
        exact fold_ge _ _ _ _
      refine ⟨hW, ?_⟩
      simp only [choose, List.getElem?_cons_succ]
      rw [hW]
      unfold pickN
      rw [pickAt_none (W (raiseB bs b n more)) f _ l0 (fun x hx => hlt x hx (pickAt_none' hp x hx))]
      exact ih2
    | some p =>
      obtain ⟨j0, x0⟩ := p
      rw [hp] at h
      simp only at h
      obtain ⟨o0, ho0, hx0, hf0, he0, hfirst⟩ := pickAt_get' hp
      subst hx0
      obtain ⟨ih1, ih2⟩ := choose_raise hm bs b (andNot f o0.g) n l o h hl ho
      have hW : W (l0 :: raiseB bs b n more) f = W (l0 :: bs) f + more := by
        refine Int.le_antisymm hle ?_
        have := fold_mem (g := W (raiseB bs b n more)) (f := f) l0 (W (raiseB bs b n more) f) o0 (List.mem_of_getElem? ho0) hf0
        show W (l0 :: bs) f + more ≤ l0.foldl (stepO (W (raiseB bs b n more)) f) (W (raiseB bs b n more) f)
        omega
      refine ⟨hW, ?_⟩
      simp only [choose, List.getElem?_cons_succ]
      rw [hW, pickN_some (o := o0) ho0 ?_ ?_]
      · exact ih2
      · simp only [pickB, Bool.and_eq_true, decide_eq_true_eq]
        exact ⟨hf0, by omega⟩
      · intro j x hjn hx
        exact hlt x (List.mem_of_getElem? hx) (hfirst j x hjn hx)
end Go.Proofs.Ytcigobiolbojhaa.Vb

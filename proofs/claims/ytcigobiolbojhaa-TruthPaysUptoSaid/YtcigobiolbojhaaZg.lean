/- Joined by program: Core3 Core4 Core5 Core6 Core7 Core8. -/
import Derived.Test.YtcigobiolbojhaaZf
/- core: payment. -/
namespace Go.Proofs.Ytcigobiolbojhaa.Vb
open Go.RowKit

def payL : List Int → List Int → Bool
  | p :: ps, b :: bs => decide (0 ≤ p ∧ p ≤ b) && payL ps bs
  | [], [] => true
  | _, _ => false
theorem payL_iff : ∀ (ps bs : List Int), payL ps bs = true ↔ ps.length = bs.length ∧ ∀ (i : Nat) (p b : Int), ps[i]? = some p → bs[i]? = some b → 0 ≤ p ∧ p ≤ b
  | [], [] => by simp [payL]
  | [], b :: bs => by simp [payL]
  | p :: ps, [] => by simp [payL]
  | p :: ps, b :: bs => by
    simp only [payL, Bool.and_eq_true, decide_eq_true_eq, payL_iff ps bs, List.length_cons]
    constructor
    · rintro ⟨h1, h2, h3⟩
      refine ⟨by omega, fun i q c hq hc => ?_⟩
      cases i with
      | zero => simp at hq hc; subst hq hc; exact h1
      | succ i => exact h3 i q c (by simpa using hq) (by simpa using hc)
    · rintro ⟨h1, h2⟩
      exact ⟨h2 0 p b rfl rfl, by omega, fun i q c hq hc => h2 (i + 1) q c (by simpa using hq) (by simpa using hc)⟩

theorem WonAt.grow {w w' : World} {lo g : Nat} {n : Int} {v : Value} {bs : List (List Off)} {A : Option Addr} {cap : Nat} (h : WonAt w lo g n v bs A cap) (hb : Below w.heap.size w w') : WonAt w' lo g n v bs A cap :=
  ⟨h.1, h.2.1.grow hb, own_grow h.2.2 hb⟩
theorem WonAt.mono {w : World} {lo lo' g : Nat} {n : Int} {v : Value} {bs : List (List Off)} {A : Option Addr} {cap : Nat} (h : WonAt w lo g n v bs A cap) (hl : lo' ≤ lo) : WonAt w lo' g n v bs A cap :=
  ⟨Nat.le_trans hl h.1, h.2.1, own_mono h.2.2 hl⟩
theorem WonAt.lt {w : World} {lo g : Nat} {n : Int} {v : Value} {bs : List (List Off)} {A : Option Addr} {cap : Nat} (h : WonAt w lo g n v bs A cap) : g < w.heap.size := h.2.1.lt
theorem WonAt.sl {w : World} {lo g : Nat} {n : Int} {v : Value} {bs : List (List Off)} {A : Option Addr} {cap : Nat} (h : WonAt w lo g n v bs A cap) : Sl w (lo ≤ ·) (.slice A bs.length cap) bs.length 1 (ints (bidsC n bs)) :=
  (Sl.of_own h.2.2).mono fun b _ hb => (h.2.2.lt b hb).1
theorem WonAt.c0 {w : World} {lo g : Nat} {n : Int} {v : Value} {bs : List (List Off)} {A : Option Addr} {cap : Nat} (h : WonAt w lo g n v bs A cap) : w.cell? ⟨g, 0, none⟩ = some (.int .i64 n) := h.2.1.cell 0
theorem WonAt.c1 {w : World} {lo g : Nat} {n : Int} {v : Value} {bs : List (List Off)} {A : Option Addr} {cap : Nat} (h : WonAt w lo g n v bs A cap) : w.cell? ⟨g, 1, none⟩ = some v := h.2.1.cell 1
theorem WonAt.cb {w : World} {lo g : Nat} {n : Int} {v : Value} {bs : List (List Off)} {A : Option Addr} {cap : Nat} (h : WonAt w lo g n v bs A cap) : w.cell? ⟨g, 34, none⟩ = some (.slice A bs.length cap) := (h.2.1.cell 34).trans (wonL_bid _ _ _ _ (winsL_len _))
theorem WonAt.cw {w : World} {lo g : Nat} {n : Int} {v : Value} {bs : List (List Off)} {A : Option Addr} {cap : Nat} (h : WonAt w lo g n v bs A cap) {i : Nat} (hi : i < 32) : w.cell? ⟨g, 2 + i, none⟩ = some (.bool (winB (bestC n bs) i)) := (h.2.1.cell (2 + i)).trans (wonL_win _ _ _ _ _ _ (winsL_get _ hi))

end Go.Proofs.Ytcigobiolbojhaa.Vb

/- core: lowered. -/
namespace Go.Proofs.Ytcigobiolbojhaa.Vb
open Go.RowKit

/-- The lowered lists. -/
def lowB (n : Int) (bs : List (List Off)) (pay : List Int) : List (List Off) := bs.mapIdx fun i l => lowL ((bidsC n bs)[i]?.getD 0 - pay[i]?.getD 0) l
theorem lowB_length (n : Int) (bs : List (List Off)) (pay : List Int) : (lowB n bs pay).length = bs.length := by simp [lowB]
theorem lowB_get {n : Int} {bs : List (List Off)} {pay : List Int} {k : Nat} {l : List Off} {p q : Int} (hl : bs[k]? = some l) (hp : pay[k]? = some p) (hq : (bidsC n bs)[k]? = some q) : (lowB n bs pay)[k]? = some (lowL (q - p) l) := by
  simp [lowB, hl, hp, hq]
theorem Buys.at_ {w : World} {R : Nat → Prop} {A : Option Addr} {m c k : Nat} {bs : List (List Off)} {l : List Off} (h : Buys w R (.slice A m c) bs) (hk : bs[k]? = some l) :
    ∃ b off u, A = some ⟨b, off, none⟩ ∧ b < w.heap.size ∧ w.cell? ⟨b, off + k, none⟩ = some u ∧ Offs w R u l := by
  obtain ⟨vs, ⟨_, A', c', hv, _, _, hcs⟩, hvs⟩ := h
  injection hv with hA _ _
  subst hA
  have hlt := (List.getElem?_eq_some_iff.mp hk).1
  obtain ⟨b, off, hA, _, hb, hc⟩ := hcs (by omega)
  obtain ⟨u, hu, hl⟩ := hvs k l hk
  exact ⟨b, off, u, hA, hb, hc _ _ hu, hl⟩
theorem coin_bd {n : Int} {bs : List (List Off)} (hi : instE n bs = 0) (hwf : ∀ l ∈ bs, ∀ o ∈ l, o.wf) {i : Nat} {q : Int} (h : (bidsC n bs)[i]? = some q) : 0 ≤ q ∧ q ≤ 1099511627776 := by
  have hib : i < bs.length := by have := (List.getElem?_eq_some_iff.mp h).1; rwa [bidsC_length] at this
  obtain ⟨c, hc⟩ : ∃ c, (bestC n bs)[i]? = some c := ⟨_, List.getElem?_eq_getElem (by rw [bestC, choose_length]; exact hib)⟩
  rw [bidsC_get hc] at h
  injection h with h
  have := coinAt_bd hwf hi i c
  omega

set_option maxRecDepth 100000 in
set_option maxHeartbeats 1600000 in
theorem lowered_any (n : Int) (bs : List (List Off)) (v : Value) (lo g : Nat) (A : Option Addr) (cap : Nat) (pay : List Int) (vp : Value) (R Rx : Nat → Prop) (w : World) (hw : WonAt w lo g n v bs A cap) (hl : Buys w Rx v bs) (hp : Sl w R vp pay.length 1 (ints pay))
    (hi : instE n bs = 0) (hok : payL pay (bidsC n bs) = true) :
    Calls Try.prog 100 #[.pointer (some ⟨g, 0, none⟩), vp] w fun e w' => ∃ A' cap', e = .returned (.agg #[.int .i64 n, .slice A' bs.length cap']) ∧ OwnBuys w' w.heap.size (.slice A' bs.length cap') (lowB n bs pay) ∧ Below w.heap.size w w' := by
  obtain ⟨hlen, hall⟩ := (payL_iff _ _).mp hok
  rw [bidsC_length] at hlen
  have hlen' : pay.length ≤ bs.length ∧ bs.length ≤ pay.length := by omega
  obtain ⟨hlen1, hlen2⟩ := hlen'
  clear hlen
  have hsm := instE_small hi
  have HWF := Lib.hid (Buys.wf hl)
  have HSM := Lib.hid hsm
  have HI := Lib.hid hi
  have hl32 := (instE_zero hi).2.2.1
  have hcb := hw.cb
  have hc0 := hw.c0
  have hc1 := hw.c1
  have hgl := hw.lt
  have HB := Lib.hid hl
  have HS := Lib.hid hw.sl
  have HP := Lib.hid hp
  have HALL := Lib.hid hall
  obtain ⟨_, Ap, capp, rfl, hncap, hcap, _⟩ := hp
  unfold maxLen at hcap
  obtain ⟨vs, ⟨_, Av, capv, rfl, _⟩, _⟩ := id hl
  clear hw hl hi hok hsm hall
  go_enter Try.func100, Try.ntmps100
  go_wp2
  obtain ⟨W0, hW0⟩ : ∃ W0, W0 = (w.alloc (.cells #[.int .i64 0, .slice none 0 0] 24)).alloc (.cells #[.int .i64 n, .slice none 0 0] 24) := ⟨_, rfl⟩
  have HR0 := Lib.hid (show Blk W0 w.heap.size 24 #[.int .i64 0, .slice none 0 0] from by rw [hW0]; exact (Blk.new w _ _).alloc _)
  have HY0 := Lib.hid (show Blk W0 (w.heap.size + 1) 24 #[.int .i64 n, .slice none 0 0] from by rw [hW0]; exact Blk.new' _ _ (by simp))
  have HBW := Lib.hid (show Below w.heap.size w W0 from by rw [hW0]; exact ((Below.refl _ _).alloc (Nat.le_refl _) _).alloc (by simp) _)
  have hs0 : W0.heap.size = w.heap.size + 2 := by rw [hW0]; simp
  rw [← hW0]
  clear hW0
  go_loopw [20] (fun i wr => ∃ (k : Nat) (A' : Option Addr) (cap' : Nat), k ≤ bs.length ∧ i = .int .i64 k ∧ OwnBuys wr (w.heap.size + 2) (.slice A' k cap') ((lowB n bs pay).take k) ∧ Blk wr (w.heap.size + 1) 24 #[.int .i64 n, .slice A' k cap'] ∧ Below (w.heap.size + 1) W0 wr)
    (fun i _ => bs.length - (intOf i).toNat)
  case atStart => exact ⟨0, none, 0, Nat.zero_le _, rfl, ⟨[], World.ownsRow_nil _ _ _ _, fun k l hk => by simp at hk⟩, HY0.out, Below.refl _ _⟩
  case round =>
    obtain ⟨k, A', cap', hk, rfl, hob, hy, hb⟩ := hrel
    have hbw := HBW.out.trans (hb.mono (B' := w.heap.size) (by omega))
    have hszr : w.heap.size + 2 ≤ wr.heap.size := by have := hb.size; omega
    have HOB := Lib.hid hob
    have HY := Lib.hid hy
    have HBR := Lib.hid hb
    have HBX := Lib.hid hbw
    clear hob hy hb hbw
    by_cases hlt : k < bs.length
    · obtain ⟨l, hl⟩ : ∃ l, bs[k]? = some l := ⟨_, List.getElem?_eq_getElem hlt⟩
      obtain ⟨bq, off, u, rfl, hbq, c0, hol⟩ := HB.out.at_ hl
      obtain ⟨bp, op, p, rfl, hbp, hp, cp⟩ := HP.out.int_at (k := k) (by omega)
      obtain ⟨bd, od, q, rfl, hbd, hq, cq⟩ := HS.out.int_at hlt
      have hpq := HALL.out k p q hp hq
      have hqb := coin_bd HI.out HWF.out hq
      have hll := HSM.out.2 l (List.mem_of_getElem? hl)
      have HLG := Lib.hid (lowB_get hl hp hq)
      obtain ⟨⟨_, A1, cap1, rfl, _⟩, _⟩ := id hol
      have HOL := Lib.hid (hol.grow HBX.out)
      have d0 := (HBX.out.cell (p := ⟨bq, off + k, none⟩) hbq).trans c0
      have dp := (HBX.out.cell (p := ⟨bp, op + k, none⟩) hbp).trans cp
      have dq := (HBX.out.cell (p := ⟨bd, od + k, none⟩) hbd).trans cq
      have db := (HBX.out.cell (p := ⟨g, 34, none⟩) hgl).trans hcb
      have dy : wr.cell? ⟨w.heap.size + 1, 1, none⟩ = some (.slice A' k cap') := HY.out.cell 1
      have e1 : (0 : Int) ≤ (k : Int) := by omega
      have e2 : (k : Int) < (bs.length : Int) := by omega
      have e3 : (k : Int) < (pay.length : Int) := by omega
      have hsub : IntKind.i64.wrap (q - p) = q - p := IntWalk.i64_in _ (by omega)
      obtain ⟨vs', hs', ho'⟩ := HOB.out
      have hlk : ((lowB n bs pay).take k).length = k := by rw [List.length_take, lowB_length]; omega
      rw [hlk] at hs'
      have HSR := Lib.hid hs'
      have HO' := Lib.hid ho'
      have HLK := Lib.hid hlk
      clear hl hp hq c0 cp cq hol hs' ho' hlk
      go_wp2_with fail
      refine wp_region_F (Below (w.heap.size + 2) wr) [19] (by kernel_rfl) ((Below.refl _ _).drew) (fun hS => ?_)
      refine wpAnyF_take (i := 0) (oi := { dst := some 25, op := Go.Op.fieldAddr 24 (Go.Operand.tmp 5) 1, type := 0, pos := "core.go:50", after := #[], guard := none }) (v := ?_) rfl (by kernel_rfl) (by kernel_rfl) (by kernel_rfl) (by kernel_rfl) (fun _ _ _ h => h) (Or.inl ⟨by rfl, ?_⟩) hS ?_
      rotate_left
      · intro w' hSw; have q1 := (hSw.cell (p := ⟨bq, off + k, none⟩) (by simp <;> omega)).trans d0; have q2 := (hSw.cell (p := ⟨bp, op + k, none⟩) (by simp <;> omega)).trans dp; have q3 := (hSw.cell (p := ⟨bd, od + k, none⟩) (by simp <;> omega)).trans dq; have q4 := (hSw.cell (p := ⟨g, 34, none⟩) (by simp <;> omega)).trans db; have q5 := (hSw.cell (p := ⟨w.heap.size + 1, 1, none⟩) (by simp <;> omega)).trans dy; go_simp; try with_reducible rfl
      try simp only [Act.put, List.setIfInBounds_toArray, List.set_cons_zero, List.set_cons_succ]
      refine wpAnyF_take (i := 1) (oi := { dst := some 26, op := Go.Op.load 22 (Go.Operand.tmp 25), type := 22, pos := "core.go:50", after := #[{ on := 0, ground := Go.Ground.data }], guard := none }) (v := ?_) rfl (by kernel_rfl) (by kernel_rfl) (by kernel_rfl) (by kernel_rfl) (fun _ _ _ h => h) (Or.inl ⟨by rfl, ?_⟩) hS ?_
      rotate_left
      · intro w' hSw; have q1 := (hSw.cell (p := ⟨bq, off + k, none⟩) (by simp <;> omega)).trans d0; have q2 := (hSw.cell (p := ⟨bp, op + k, none⟩) (by simp <;> omega)).trans dp; have q3 := (hSw.cell (p := ⟨bd, od + k, none⟩) (by simp <;> omega)).trans dq; have q4 := (hSw.cell (p := ⟨g, 34, none⟩) (by simp <;> omega)).trans db; have q5 := (hSw.cell (p := ⟨w.heap.size + 1, 1, none⟩) (by simp <;> omega)).trans dy; go_simp; try with_reducible rfl
      try simp only [Act.put, List.setIfInBounds_toArray, List.set_cons_zero, List.set_cons_succ]
      refine wpAnyF_take (i := 2) (oi := { dst := some 27, op := Go.Op.move (Go.Operand.tmp 0), type := 153, pos := "core.go:50", after := #[], guard := none }) (v := ?_) rfl (by kernel_rfl) (by kernel_rfl) (by kernel_rfl) (by kernel_rfl) (fun _ _ _ h => h) (Or.inl ⟨by rfl, ?_⟩) hS ?_
      rotate_left
      · intro w' hSw; have q1 := (hSw.cell (p := ⟨bq, off + k, none⟩) (by simp <;> omega)).trans d0; have q2 := (hSw.cell (p := ⟨bp, op + k, none⟩) (by simp <;> omega)).trans dp; have q3 := (hSw.cell (p := ⟨bd, od + k, none⟩) (by simp <;> omega)).trans dq; have q4 := (hSw.cell (p := ⟨g, 34, none⟩) (by simp <;> omega)).trans db; have q5 := (hSw.cell (p := ⟨w.heap.size + 1, 1, none⟩) (by simp <;> omega)).trans dy; go_simp; try with_reducible rfl
      try simp only [Act.put, List.setIfInBounds_toArray, List.set_cons_zero, List.set_cons_succ]
      refine wpAnyF_take (i := 3) (oi := { dst := some 28, op := Go.Op.nilCheck (Go.Operand.tmp 27), type := 0, pos := "core.go:50", after := #[{ on := 2, ground := Go.Ground.data }], guard := none }) (v := ?_) rfl (by kernel_rfl) (by kernel_rfl) (by kernel_rfl) (by kernel_rfl) (fun _ _ _ h => h) (Or.inl ⟨by rfl, ?_⟩) hS ?_
      rotate_left
      · intro w' hSw; have q1 := (hSw.cell (p := ⟨bq, off + k, none⟩) (by simp <;> omega)).trans d0; have q2 := (hSw.cell (p := ⟨bp, op + k, none⟩) (by simp <;> omega)).trans dp; have q3 := (hSw.cell (p := ⟨bd, od + k, none⟩) (by simp <;> omega)).trans dq; have q4 := (hSw.cell (p := ⟨g, 34, none⟩) (by simp <;> omega)).trans db; have q5 := (hSw.cell (p := ⟨w.heap.size + 1, 1, none⟩) (by simp <;> omega)).trans dy; go_simp; try with_reducible rfl
      try simp only [Act.put, List.setIfInBounds_toArray, List.set_cons_zero, List.set_cons_succ]
      refine wpAnyF_take (i := 4) (oi := { dst := some 29, op := Go.Op.fieldAddr 158 (Go.Operand.tmp 28) 2, type := 0, pos := "core.go:50", after := #[{ on := 3, ground := Go.Ground.data }], guard := none }) (v := ?_) rfl (by kernel_rfl) (by kernel_rfl) (by kernel_rfl) (by kernel_rfl) (fun _ _ _ h => h) (Or.inl ⟨by rfl, ?_⟩) hS ?_
      rotate_left
      · intro w' hSw; have q1 := (hSw.cell (p := ⟨bq, off + k, none⟩) (by simp <;> omega)).trans d0; have q2 := (hSw.cell (p := ⟨bp, op + k, none⟩) (by simp <;> omega)).trans dp; have q3 := (hSw.cell (p := ⟨bd, od + k, none⟩) (by simp <;> omega)).trans dq; have q4 := (hSw.cell (p := ⟨g, 34, none⟩) (by simp <;> omega)).trans db; have q5 := (hSw.cell (p := ⟨w.heap.size + 1, 1, none⟩) (by simp <;> omega)).trans dy; go_simp; try with_reducible rfl
      try simp only [Act.put, List.setIfInBounds_toArray, List.set_cons_zero, List.set_cons_succ]
      refine wpAnyF_take (i := 5) (oi := { dst := some 30, op := Go.Op.load 34 (Go.Operand.tmp 29), type := 34, pos := "core.go:50", after := #[{ on := 4, ground := Go.Ground.data }], guard := none }) (v := ?_) rfl (by kernel_rfl) (by kernel_rfl) (by kernel_rfl) (by kernel_rfl) (fun _ _ _ h => h) (Or.inl ⟨by rfl, ?_⟩) hS ?_
      rotate_left
      · intro w' hSw; have q1 := (hSw.cell (p := ⟨bq, off + k, none⟩) (by simp <;> omega)).trans d0; have q2 := (hSw.cell (p := ⟨bp, op + k, none⟩) (by simp <;> omega)).trans dp; have q3 := (hSw.cell (p := ⟨bd, od + k, none⟩) (by simp <;> omega)).trans dq; have q4 := (hSw.cell (p := ⟨g, 34, none⟩) (by simp <;> omega)).trans db; have q5 := (hSw.cell (p := ⟨w.heap.size + 1, 1, none⟩) (by simp <;> omega)).trans dy; go_simp; try with_reducible rfl
      try simp only [Act.put, List.setIfInBounds_toArray, List.set_cons_zero, List.set_cons_succ]
      refine wpAnyF_take (i := 6) (oi := { dst := some 31, op := Go.Op.move (Go.Operand.tmp 6), type := 3, pos := "core.go:50", after := #[], guard := none }) (v := ?_) rfl (by kernel_rfl) (by kernel_rfl) (by kernel_rfl) (by kernel_rfl) (fun _ _ _ h => h) (Or.inl ⟨by rfl, ?_⟩) hS ?_
      rotate_left
      · intro w' hSw; have q1 := (hSw.cell (p := ⟨bq, off + k, none⟩) (by simp <;> omega)).trans d0; have q2 := (hSw.cell (p := ⟨bp, op + k, none⟩) (by simp <;> omega)).trans dp; have q3 := (hSw.cell (p := ⟨bd, od + k, none⟩) (by simp <;> omega)).trans dq; have q4 := (hSw.cell (p := ⟨g, 34, none⟩) (by simp <;> omega)).trans db; have q5 := (hSw.cell (p := ⟨w.heap.size + 1, 1, none⟩) (by simp <;> omega)).trans dy; go_simp; try with_reducible rfl
      try simp only [Act.put, List.setIfInBounds_toArray, List.set_cons_zero, List.set_cons_succ]
      refine wpAnyF_take (i := 7) (oi := { dst := some 32, op := Go.Op.indexAddr 34 (Go.Operand.tmp 30) (Go.Operand.tmp 31), type := 0, pos := "core.go:50", after := #[{ on := 5, ground := Go.Ground.data }, { on := 6, ground := Go.Ground.data }], guard := none }) (v := ?_) rfl (by kernel_rfl) (by kernel_rfl) (by kernel_rfl) (by kernel_rfl) (fun _ _ _ h => h) (Or.inl ⟨by rfl, ?_⟩) hS ?_
      rotate_left
      · intro w' hSw; have q1 := (hSw.cell (p := ⟨bq, off + k, none⟩) (by simp <;> omega)).trans d0; have q2 := (hSw.cell (p := ⟨bp, op + k, none⟩) (by simp <;> omega)).trans dp; have q3 := (hSw.cell (p := ⟨bd, od + k, none⟩) (by simp <;> omega)).trans dq; have q4 := (hSw.cell (p := ⟨g, 34, none⟩) (by simp <;> omega)).trans db; have q5 := (hSw.cell (p := ⟨w.heap.size + 1, 1, none⟩) (by simp <;> omega)).trans dy; go_simp; try with_reducible rfl
      try simp only [Act.put, List.setIfInBounds_toArray, List.set_cons_zero, List.set_cons_succ]
      refine wpAnyF_take (i := 8) (oi := { dst := some 33, op := Go.Op.load 2 (Go.Operand.tmp 32), type := 2, pos := "core.go:50", after := #[{ on := 7, ground := Go.Ground.data }], guard := none }) (v := ?_) rfl (by kernel_rfl) (by kernel_rfl) (by kernel_rfl) (by kernel_rfl) (fun _ _ _ h => h) (Or.inl ⟨by rfl, ?_⟩) hS ?_
      rotate_left
      · intro w' hSw; have q1 := (hSw.cell (p := ⟨bq, off + k, none⟩) (by simp <;> omega)).trans d0; have q2 := (hSw.cell (p := ⟨bp, op + k, none⟩) (by simp <;> omega)).trans dp; have q3 := (hSw.cell (p := ⟨bd, od + k, none⟩) (by simp <;> omega)).trans dq; have q4 := (hSw.cell (p := ⟨g, 34, none⟩) (by simp <;> omega)).trans db; have q5 := (hSw.cell (p := ⟨w.heap.size + 1, 1, none⟩) (by simp <;> omega)).trans dy; go_simp; try with_reducible rfl
      try simp only [Act.put, List.setIfInBounds_toArray, List.set_cons_zero, List.set_cons_succ]
      refine wpAnyF_take (i := 9) (oi := { dst := some 34, op := Go.Op.move (Go.Operand.tmp 1), type := 34, pos := "core.go:50", after := #[], guard := none }) (v := ?_) rfl (by kernel_rfl) (by kernel_rfl) (by kernel_rfl) (by kernel_rfl) (fun _ _ _ h => h) (Or.inl ⟨by rfl, ?_⟩) hS ?_
      rotate_left
      · intro w' hSw; have q1 := (hSw.cell (p := ⟨bq, off + k, none⟩) (by simp <;> omega)).trans d0; have q2 := (hSw.cell (p := ⟨bp, op + k, none⟩) (by simp <;> omega)).trans dp; have q3 := (hSw.cell (p := ⟨bd, od + k, none⟩) (by simp <;> omega)).trans dq; have q4 := (hSw.cell (p := ⟨g, 34, none⟩) (by simp <;> omega)).trans db; have q5 := (hSw.cell (p := ⟨w.heap.size + 1, 1, none⟩) (by simp <;> omega)).trans dy; go_simp; try with_reducible rfl
      try simp only [Act.put, List.setIfInBounds_toArray, List.set_cons_zero, List.set_cons_succ]
      refine wpAnyF_take (i := 10) (oi := { dst := some 35, op := Go.Op.move (Go.Operand.tmp 6), type := 3, pos := "core.go:50", after := #[], guard := none }) (v := ?_) rfl (by kernel_rfl) (by kernel_rfl) (by kernel_rfl) (by kernel_rfl) (fun _ _ _ h => h) (Or.inl ⟨by rfl, ?_⟩) hS ?_
      rotate_left
      · intro w' hSw; have q1 := (hSw.cell (p := ⟨bq, off + k, none⟩) (by simp <;> omega)).trans d0; have q2 := (hSw.cell (p := ⟨bp, op + k, none⟩) (by simp <;> omega)).trans dp; have q3 := (hSw.cell (p := ⟨bd, od + k, none⟩) (by simp <;> omega)).trans dq; have q4 := (hSw.cell (p := ⟨g, 34, none⟩) (by simp <;> omega)).trans db; have q5 := (hSw.cell (p := ⟨w.heap.size + 1, 1, none⟩) (by simp <;> omega)).trans dy; go_simp; try with_reducible rfl
      try simp only [Act.put, List.setIfInBounds_toArray, List.set_cons_zero, List.set_cons_succ]
      refine wpAnyF_take (i := 11) (oi := { dst := some 36, op := Go.Op.indexAddr 34 (Go.Operand.tmp 34) (Go.Operand.tmp 35), type := 0, pos := "core.go:50", after := #[{ on := 9, ground := Go.Ground.data }, { on := 10, ground := Go.Ground.data }], guard := none }) (v := ?_) rfl (by kernel_rfl) (by kernel_rfl) (by kernel_rfl) (by kernel_rfl) (fun _ _ _ h => h) (Or.inl ⟨by rfl, ?_⟩) hS ?_
      rotate_left
      · intro w' hSw; have q1 := (hSw.cell (p := ⟨bq, off + k, none⟩) (by simp <;> omega)).trans d0; have q2 := (hSw.cell (p := ⟨bp, op + k, none⟩) (by simp <;> omega)).trans dp; have q3 := (hSw.cell (p := ⟨bd, od + k, none⟩) (by simp <;> omega)).trans dq; have q4 := (hSw.cell (p := ⟨g, 34, none⟩) (by simp <;> omega)).trans db; have q5 := (hSw.cell (p := ⟨w.heap.size + 1, 1, none⟩) (by simp <;> omega)).trans dy; go_simp; try with_reducible rfl
      try simp only [Act.put, List.setIfInBounds_toArray, List.set_cons_zero, List.set_cons_succ]
      refine wpAnyF_take (i := 12) (oi := { dst := some 37, op := Go.Op.load 2 (Go.Operand.tmp 36), type := 2, pos := "core.go:50", after := #[{ on := 11, ground := Go.Ground.data }], guard := none }) (v := ?_) rfl (by kernel_rfl) (by kernel_rfl) (by kernel_rfl) (by kernel_rfl) (fun _ _ _ h => h) (Or.inl ⟨by rfl, ?_⟩) hS ?_
      rotate_left
      · intro w' hSw; have q1 := (hSw.cell (p := ⟨bq, off + k, none⟩) (by simp <;> omega)).trans d0; have q2 := (hSw.cell (p := ⟨bp, op + k, none⟩) (by simp <;> omega)).trans dp; have q3 := (hSw.cell (p := ⟨bd, od + k, none⟩) (by simp <;> omega)).trans dq; have q4 := (hSw.cell (p := ⟨g, 34, none⟩) (by simp <;> omega)).trans db; have q5 := (hSw.cell (p := ⟨w.heap.size + 1, 1, none⟩) (by simp <;> omega)).trans dy; go_simp; try with_reducible rfl
      try simp only [Act.put, List.setIfInBounds_toArray, List.set_cons_zero, List.set_cons_succ]
      refine wpAnyF_take (i := 13) (oi := { dst := some 38, op := Go.Op.binOp Go.BinOp.sub 2 (Go.Operand.tmp 33) (Go.Operand.tmp 37) 2, type := 2, pos := "core.go:50", after := #[{ on := 8, ground := Go.Ground.data }, { on := 12, ground := Go.Ground.data }], guard := none }) (v := ?_) rfl (by kernel_rfl) (by kernel_rfl) (by kernel_rfl) (by kernel_rfl) (fun _ _ _ h => h) (Or.inl ⟨by rfl, ?_⟩) hS ?_
      rotate_left
      · intro w' hSw; have q1 := (hSw.cell (p := ⟨bq, off + k, none⟩) (by simp <;> omega)).trans d0; have q2 := (hSw.cell (p := ⟨bp, op + k, none⟩) (by simp <;> omega)).trans dp; have q3 := (hSw.cell (p := ⟨bd, od + k, none⟩) (by simp <;> omega)).trans dq; have q4 := (hSw.cell (p := ⟨g, 34, none⟩) (by simp <;> omega)).trans db; have q5 := (hSw.cell (p := ⟨w.heap.size + 1, 1, none⟩) (by simp <;> omega)).trans dy; go_simp; try with_reducible rfl
      try simp only [Act.put, List.setIfInBounds_toArray, List.set_cons_zero, List.set_cons_succ]
      refine wpAnyF_take (i := 14) (oi := { dst := some 39, op := Go.Op.move (Go.Operand.tmp 7), type := 41, pos := "core.go:50", after := #[], guard := none }) (v := ?_) rfl (by kernel_rfl) (by kernel_rfl) (by kernel_rfl) (by kernel_rfl) (fun _ _ _ h => h) (Or.inl ⟨by rfl, ?_⟩) hS ?_
      rotate_left
      · intro w' hSw; have q1 := (hSw.cell (p := ⟨bq, off + k, none⟩) (by simp <;> omega)).trans d0; have q2 := (hSw.cell (p := ⟨bp, op + k, none⟩) (by simp <;> omega)).trans dp; have q3 := (hSw.cell (p := ⟨bd, od + k, none⟩) (by simp <;> omega)).trans dq; have q4 := (hSw.cell (p := ⟨g, 34, none⟩) (by simp <;> omega)).trans db; have q5 := (hSw.cell (p := ⟨w.heap.size + 1, 1, none⟩) (by simp <;> omega)).trans dy; go_simp; try with_reducible rfl
      try simp only [Act.put, List.setIfInBounds_toArray, List.set_cons_zero, List.set_cons_succ]
      refine wpAnyF_ready (rs := [15]) (by kernel_rfl) (by simp) ?_
      refine AllReadyF.cons (o := { dst := some 40, op := Go.Op.call { callee := Go.Callee.value (Go.Operand.func 107), args := #[Go.Operand.tmp 38, Go.Operand.tmp 39], argTypes := #[2, 41] }, type := 41, pos := "core.go:50", after := #[{ on := 13, ground := Go.Ground.data }, { on := 14, ground := Go.Ground.data }], guard := none }) rfl (by rfl) (fun K hK => ?_) ?_
      · go_simp
        refine (lower_any (q - p) (by omega) (by omega) l _ Rx _ (HOL.out.grow (Below.refl _ _).drew) (by omega)).mono ?_
        rintro e w1 ⟨A2, c2, rfl, hown2, hb2⟩
        refine hK.out _ _ ?_ (fun hS => ?_)
        · exact ((Below.refl wr.heap.size wr).drew.trans (hb2.mono (by simp))).mono (by omega)
        clear hK K
        try simp only [Act.put, List.setIfInBounds_toArray, List.set_cons_zero, List.set_cons_succ]
        have hb2' : Below wr.heap.size wr w1 := (Below.refl _ _).drew.trans (hb2.mono (by simp))
        have HB2 := Lib.hid hb2'
        have HW2 := Lib.hid hown2
        have hs1 := hb2'.size
        clear hb2 hb2' hown2
        refine wpAnyF_ready (rs := [16]) (by kernel_rfl) (by simp) ?_
        refine AllReadyF.cons (o := { dst := some 41, op := Go.Op.buildSlice 22 1 #[(0, Go.Operand.tmp 40)], type := 22, pos := "core.go:50", after := #[{ on := 15, ground := Go.Ground.data }], guard := none }) rfl (by rfl) (fun K hK => ?_) ?_
        · go_simp
          refine hK.out _ _ ?_ (fun hS => ?_)
          · exact hS.alloc (by omega) _
          clear hK K
          try simp only [Act.put, List.setIfInBounds_toArray, List.set_cons_zero, List.set_cons_succ]
          refine wpAnyF_ready (rs := [17]) (by kernel_rfl) (by simp) ?_
          refine AllReadyF.cons (o := { dst := some 42, op := Go.Op.call { callee := Go.Callee.builtin Go.Builtin.append, args := #[Go.Operand.tmp 26, Go.Operand.tmp 41], argTypes := #[22, 22] }, type := 22, pos := "core.go:50", after := #[{ on := 1, ground := Go.Ground.data }, { on := 16, ground := Go.Ground.data }, { on := 15, ground := Go.Ground.chain }], guard := none }) rfl (by rfl) (fun K hK => ?_) ?_
          · refine step_app (w1.alloc (.cells #[.slice A2 (lowL (q - p) l).length c2] 41)) rfl (.tmp 26) (.tmp 41) et_offs rfl (w.heap.size + 2) (.slice A' k cap') k vs' rfl (own_alloc (own_grow HSR.out HB2.out) _) (fun _ => True) (.slice (some ⟨w1.heap.size, 0, none⟩) 1 1) 1 [.slice A2 (lowL (q - p) l).length c2] rfl (Sl.blk (sz := 1) (Blk.new w1 41 #[.slice A2 (lowL (q - p) l).length c2]) (Nat.le_refl 1) (by unfold maxLen; omega) rfl) (by simp [Value.oneCell']) (by omega) (by unfold maxLen; omega) (by simp; omega) ?_
            intro A3 c3 w3 hown3 hg3 hloc3
            refine hK.out _ _ ?_ (fun hS => ?_)
            · exact hS.grown hg3 (by simp; omega) (fun g e => (HSR.out.lt g e).1)
            clear hK K
            try simp only [Act.put, List.setIfInBounds_toArray, List.set_cons_zero, List.set_cons_succ]
            have HW3 := Lib.hid hown3
            have HG3 := Lib.hid hg3
            have HL3 := Lib.hid hloc3
            have HY3 := Lib.hid (show Blk w3 (w.heap.size + 1) 24 #[.int .i64 n, .slice A' k cap'] from ((HY.out.grow HB2.out).alloc _).grown hg3 (fun e => by have := (HSR.out.lt _ e.symm).1; omega))
            clear hown3 hg3 hloc3
            refine wpAnyF_take (i := 18) (oi := { dst := some 43, op := Go.Op.fieldAddr 24 (Go.Operand.tmp 5) 1, type := 0, pos := "core.go:50", after := #[{ on := 0, ground := Go.Ground.phase }, { on := 1, ground := Go.Ground.phase }, { on := 2, ground := Go.Ground.phase }, { on := 3, ground := Go.Ground.phase }, { on := 4, ground := Go.Ground.phase }, { on := 5, ground := Go.Ground.phase }, { on := 6, ground := Go.Ground.phase }, { on := 7, ground := Go.Ground.phase }, { on := 8, ground := Go.Ground.phase }, { on := 9, ground := Go.Ground.phase }, { on := 10, ground := Go.Ground.phase }, { on := 11, ground := Go.Ground.phase }, { on := 12, ground := Go.Ground.phase }, { on := 13, ground := Go.Ground.phase }, { on := 14, ground := Go.Ground.phase }, { on := 15, ground := Go.Ground.phase }, { on := 16, ground := Go.Ground.phase }, { on := 17, ground := Go.Ground.phase }], guard := none }) (v := ?_) rfl (by kernel_rfl) (by kernel_rfl) (by kernel_rfl) (by kernel_rfl) (fun _ _ _ h => h) (Or.inl ⟨by rfl, ?_⟩) hS ?_
            rotate_left
            · intro w' hSw; have q1 := (hSw.cell (p := ⟨bq, off + k, none⟩) (by simp <;> omega)).trans d0; have q2 := (hSw.cell (p := ⟨bp, op + k, none⟩) (by simp <;> omega)).trans dp; have q3 := (hSw.cell (p := ⟨bd, od + k, none⟩) (by simp <;> omega)).trans dq; have q4 := (hSw.cell (p := ⟨g, 34, none⟩) (by simp <;> omega)).trans db; have q5 := (hSw.cell (p := ⟨w.heap.size + 1, 1, none⟩) (by simp <;> omega)).trans dy; go_simp; try with_reducible rfl
            try simp only [Act.put, List.setIfInBounds_toArray, List.set_cons_zero, List.set_cons_succ]
            refine wpAnyF_ready (rs := [19]) (by kernel_rfl) (by simp) ?_
            refine AllReadyF.fin (o := { dst := none, op := Go.Op.store 22 (Go.Operand.tmp 43) (Go.Operand.tmp 42), type := 0, pos := "core.go:50", after := #[{ on := 18, ground := Go.Ground.data }, { on := 17, ground := Go.Ground.data }, { on := 17, ground := Go.Ground.chain }, { on := 0, ground := Go.Ground.phase }, { on := 1, ground := Go.Ground.phase }, { on := 2, ground := Go.Ground.phase }, { on := 3, ground := Go.Ground.phase }, { on := 4, ground := Go.Ground.phase }, { on := 5, ground := Go.Ground.phase }, { on := 6, ground := Go.Ground.phase }, { on := 7, ground := Go.Ground.phase }, { on := 8, ground := Go.Ground.phase }, { on := 9, ground := Go.Ground.phase }, { on := 10, ground := Go.Ground.phase }, { on := 11, ground := Go.Ground.phase }, { on := 12, ground := Go.Ground.phase }, { on := 13, ground := Go.Ground.phase }, { on := 14, ground := Go.Ground.phase }, { on := 15, ground := Go.Ground.phase }, { on := 16, ground := Go.Ground.phase }, { on := 17, ground := Go.Ground.phase }], guard := none }) rfl (by rfl) (fun K hK => ?_) ?_
            · have f1 := HY3.out.frozen 1
              have f2 := HY3.out.cell 1
              go_simp
              refine hK.out _ _ ?_
              clear hK K
              try simp only [Act.put, List.setIfInBounds_toArray, List.set_cons_zero, List.set_cons_succ]
              refine wpAnyF_done (by kernel_rfl) ?_ _
              clear hS
              go_wp2_with fail
              go_roundw
              case rel =>
                have hclone : Offs (w1.alloc (.cells #[.slice A2 (lowL (q - p) l).length c2] 41)) (fun b => w.heap.size + 2 ≤ b ∧ (Value.slice A' k cap').ownBlock ≠ some b) (.slice A2 (lowL (q - p) l).length c2) (lowL (q - p) l) := by
                  refine ⟨((Sl.of_own HW2.out).alloc _).mono fun b _ hb => ⟨?_, fun e => ?_⟩, lowL_wf _ (by omega) _ HOL.out.2⟩
                  · have := (HW2.out.lt b hb).1; simp at this; omega
                  · have h1 := (HW2.out.lt b hb).1
                    have h2 := (HSR.out.lt b e).2
                    simp at h1
                    omega
                have hold : ∀ (j : Nat) (l2 : List Off), ((lowB n bs pay).take k)[j]? = some l2 → ∃ u, vs'[j]? = some u ∧ Offs (w1.alloc (.cells #[.slice A2 (lowL (q - p) l).length c2] 41)) (fun b => w.heap.size + 2 ≤ b ∧ (Value.slice A' k cap').ownBlock ≠ some b) u l2 :=
                  fun j l2 hj => let ⟨u, hu, hl⟩ := HO'.out j l2 hj; ⟨u, hu, (hl.grow HB2.out).alloc _⟩
                have hob2 := OwnBuys.snoc HLK.out (own_alloc (own_grow HSR.out HB2.out) _) hold hclone HW3.out HG3.out HL3.out
                refine ⟨k + 1, A3, c3, by omega, by go_num, ?_, (HY3.out.set_ 1 _).drew, ?_⟩
                · rw [List.take_add_one, HLG.out]
                  exact (hob2.far (grownBy_setCell _ ⟨w.heap.size + 1, 1, none⟩ _) (fun j e => by simp at e; omega)).drew
                · exact (((HBR.out.trans ((HB2.out.mono (by omega)).alloc (by omega) _)).grown HG3.out (by simp; omega) (fun j e => by have := (HSR.out.lt j e).1; omega)).setCell (p := ⟨w.heap.size + 1, 1, none⟩) (by simp) _)
              case measure => simp [intOf]; omega
            exact AllReadyF.nil
          exact AllReadyF.nil
        exact AllReadyF.nil
      exact AllReadyF.nil
    · obtain rfl : k = bs.length := by omega
      have hR := HR0.out.below HBR.out (by omega)
      have r1 := hR.cell 1
      have r0 := hR.cell 0
      have rf := hR.frozen
      have y1 := HY.out.cell 1
      have y0 := HY.out.cell 0
      have HRR := Lib.hid hR
      clear hR
      go_wp2_with fail
      have hq := ((HRR.out.set_ 0 (.int .i64 n)).set_ 1 (.slice A' bs.length cap'))
      have s0 := hq.cell 0
      have s1 := hq.cell 1
      simp at s0 s1
      refine bodyPost_ret (v := .agg #[.int .i64 n, .slice A' bs.length cap']) (by simp [results, Try.results100, go_sem, s0, s1]) rfl ⟨_, _, rfl, ?_, ?_⟩
      · have h1 := HOB.out
        rw [List.take_of_length_le (by rw [lowB_length]; omega)] at h1
        exact ((h1.far (grownBy_setCell _ ⟨w.heap.size, 0, none⟩ _) (fun j e => by simp at e; omega)).far (grownBy_setCell _ ⟨w.heap.size, 1, none⟩ _) (fun j e => by simp at e; omega)).mono (by omega)
      · exact (HBX.out.setCell (p := ⟨w.heap.size, 0, none⟩) (by simp) _).setCell (p := ⟨w.heap.size, 1, none⟩) (by simp) _
end Go.Proofs.Ytcigobiolbojhaa.Vb

/- core: asked; clear.Without; what is lowered may be. -/
namespace Go.Proofs.Ytcigobiolbojhaa.Vb
open Go.RowKit

theorem badB_low {all : Nat} {o : Off} {c : Int} (h : badB all o = false) (h0 : 0 ≤ c) (h1 : c < o.c) : badB all ⟨o.g, o.c - c⟩ = false := by
  simp only [badB, Bool.or_eq_false_iff, decide_eq_false_iff_not] at h ⊢
  obtain ⟨⟨⟨h2, h3⟩, h4⟩, h5⟩ := h
  exact ⟨⟨⟨h2, h3⟩, by omega⟩, by omega⟩
theorem checkE_low {n : Int} {l : List Off} {c : Int} (h : checkE n l = 0) (h0 : 0 ≤ c) : checkE n (lowL c l) = 0 := by
  unfold checkE at h ⊢
  have hlen := lowL_len c l
  split at h
  · omega
  · split at h
    · omega
    · rename_i h1 h2
      rw [if_neg h1, if_neg (by omega)]
      have hn : badAt (2 ^ n.toNat - 1) l = none := by
        cases hb : badAt (2 ^ n.toNat - 1) l with
        | none => rfl
        | some k => rw [hb] at h; simp at h
      have hn2 : badAt (2 ^ n.toNat - 1) (lowL c l) = none := by
        rw [badAt_none_iff]
        intro o ho
        simp only [lowL, List.mem_map, List.mem_filter, decide_eq_true_eq] at ho
        obtain ⟨p, ⟨hp, hlt⟩, rfl⟩ := ho
        exact badB_low ((badAt_none_iff _ _).mp hn p hp) h0 hlt
      rw [hn2]
theorem lowB_mem {n : Int} {bs : List (List Off)} {pay : List Int} {l : List Off} (hok : payL pay (bidsC n bs) = true) (h : l ∈ lowB n bs pay) : ∃ l0 ∈ bs, ∃ c : Int, 0 ≤ c ∧ l = lowL c l0 := by
  simp only [lowB, List.mem_mapIdx] at h
  obtain ⟨i, hi, rfl⟩ := h
  refine ⟨bs[i], List.getElem_mem hi, _, ?_, rfl⟩
  obtain ⟨hlen, hall⟩ := (payL_iff _ _).mp hok
  have hb : i < (bidsC n bs).length := by rw [bidsC_length]; exact hi
  have h1 := List.getElem?_eq_getElem hb
  have h2 := List.getElem?_eq_getElem (show i < pay.length by omega)
  have := hall i _ _ h2 h1
  rw [h1, h2]
  simp only [Option.getD_some]
  omega
theorem instE_low {n : Int} {bs : List (List Off)} {pay : List Int} (hi : instE n bs = 0) (hok : payL pay (bidsC n bs) = true) : instE n (lowB n bs pay) = 0 := by
  obtain ⟨h1, h2, h3, h4, h5⟩ := instE_zero hi
  refine instE_of h1 h2 (by rw [lowB_length]; exact h3) (fun l hl => ?_) (fun l hl => ?_)
  · obtain ⟨l0, hl0, c, _, rfl⟩ := lowB_mem hok hl
    have := h4 l0 hl0
    have := lowL_len c l0
    omega
  · obtain ⟨l0, hl0, c, hc, rfl⟩ := lowB_mem hok hl
    exact checkE_low (h5 l0 hl0) hc

set_option maxHeartbeats 800000 in
theorem clearWithout_ok (n : Int) (bs : List (List Off)) (buyer : Int) (v : Value) (R : Nat → Prop) (w : World) (hl : Buys w R v bs) (he : withE n bs buyer [] = 0) :
    Calls Try.prog 47 #[.agg #[.int .i64 n, v], .int .i64 buyer] w fun e w' => ∃ A' cap', e = .returned (.tuple #[.agg #[.slice A' bs.length cap', .int .i64 (W (bs.set buyer.toNat []) (allOf n))], .int .i64 0]) ∧
      w'.ownsRow w.heap.size 3 1 (.slice A' bs.length cap') bs.length (ints (bestC n (bs.set buyer.toNat []))) ∧ Below w.heap.size w w' := by
  obtain ⟨vs, ⟨_, A, cap, rfl, _⟩, _⟩ := id hl
  have HB := Lib.hid hl
  have HI := Lib.hid (instE_nil (i := buyer.toNat) (withE_inst he))
  have HE := Lib.hid he
  have hls : (bs.set buyer.toNat []).length = bs.length := by simp
  have HLS := Lib.hid hls
  clear hl he hls
  go_enter Try.func47, Try.ntmps47
  go_wp2_with (first
    | (go_at_call 32; refine (without_ok n bs buyer _ R _ ((HB.out.alloc _).alloc _) HE.out).mono ?_; rintro e w1 ⟨A1, cap1, rfl, hob, hb1⟩; have hb1a := hb1.mono (B' := w.heap.size + 2) (by simp); obtain ⟨cx0, cx1, cy0, cy1, fx, fy, hs1, hb1'⟩ := two_new hb1a; have HOB := Lib.hid hob; have HB1 := Lib.hid hb1'; clear hob hb1 hb1a hb1')
    | (go_at_call 31; go_must (refine (best_ok n (bs.set buyer.toNat []) (.slice A1 bs.length cap1) _ _ ((HOB.out.alloc _).buys) HI.out).mono ?_); go_must (rintro e w2 ⟨A2, cap2, rfl, hown, hb2⟩); go_must (rw [HLS.out] at hown); go_must (rw [HLS.out]); have hb2a := ((Below.refl w1.heap.size w1).alloc (Nat.le_refl _) _).trans (hb2.mono (B' := w1.heap.size) (by simp)); have cz0 := (hb2a.cell (p := ⟨w.heap.size + 1, 0, none⟩) (by simp; omega)).trans cy0; have cz1 := (hb2a.cell (p := ⟨w.heap.size + 1, 1, none⟩) (by simp; omega)).trans cy1; have fz : ∀ i, w2.frozen? ⟨w.heap.size + 1, i, none⟩ = false := fun i => (hb2a.frozen (p := ⟨w.heap.size + 1, i, none⟩) (by simp; omega)).trans (fy i); have HOW := Lib.hid hown; have HB2 := Lib.hid hb2a; clear hown hb2 hb2a))
  refine bodyPost_ret (v := .tuple #[.agg #[.slice A2 bs.length cap2, .int .i64 (W (bs.set buyer.toNat []) (allOf n))], .int .i64 0]) (by simp [results, Try.results47, go_sem, cz0, cz1]) rfl ⟨_, _, rfl, ?_, ?_⟩
  · exact own_mono (ownsRow_setCell_below (ownsRow_setCell_below HOW.out (a := ⟨w.heap.size + 1, 0, none⟩) (by simp; omega) _) (a := ⟨w.heap.size + 1, 1, none⟩) (by simp; omega) _) (by simp; omega)
  · exact ((HB1.out.trans (HB2.out.mono (by omega))).setCell (p := ⟨w.heap.size + 1, 0, none⟩) (by simp) _).setCell (p := ⟨w.heap.size + 1, 1, none⟩) (by simp) _

end Go.Proofs.Ytcigobiolbojhaa.Vb

/- core: least, Least, Lowered. -/
namespace Go.Proofs.Ytcigobiolbojhaa.Vb
open Go.RowKit

theorem pay_bd {n : Int} {bs : List (List Off)} {pay : List Int} (hi : instE n bs = 0) (hwf : ∀ l ∈ bs, ∀ o ∈ l, o.wf) (hok : payL pay (bidsC n bs) = true) : ∀ x ∈ pay, 0 ≤ x ∧ x ≤ 1099511627776 := by
  intro x hx
  obtain ⟨i, hi', rfl⟩ := List.mem_iff_getElem.mp hx
  obtain ⟨hlen, hall⟩ := (payL_iff _ _).mp hok
  have hb : i < (bidsC n bs).length := by omega
  have h1 := List.getElem?_eq_getElem hb
  have h2 := List.getElem?_eq_getElem hi'
  have h3 := hall i _ _ h2 h1
  have h4 := coin_bd hi hwf h1
  omega
theorem lowB_wf {n : Int} {bs : List (List Off)} {pay : List Int} (hwf : ∀ l ∈ bs, ∀ o ∈ l, o.wf) (hok : payL pay (bidsC n bs) = true) : ∀ l ∈ lowB n bs pay, ∀ o ∈ l, o.wf := by
  intro l hl
  obtain ⟨l0, hl0, c, hc, rfl⟩ := lowB_mem hok hl
  exact lowL_wf c hc l0 (hwf l0 hl0)
/-- A winner's least payment. -/
def leastI (n : Int) (bs : List (List Off)) (pay : List Int) (i : Nat) : Int := max 0 (woW n (lowB n bs pay) i - (sumI pay - pay[i]?.getD 0))
theorem pay_len {n : Int} {bs : List (List Off)} {pay : List Int} (hok : payL pay (bidsC n bs) = true) : pay.length = bs.length := by
  have := ((payL_iff _ _).mp hok).1
  rwa [bidsC_length] at this
theorem sum_bd {pay : List Int} (h : ∀ x ∈ pay, 0 ≤ x ∧ x ≤ 1099511627776) (hl : pay.length ≤ 32) : 0 ≤ sumI pay ∧ sumI pay ≤ 35184372088832 := by
  have h1 : ∀ l : List Int, (∀ x ∈ l, 0 ≤ x ∧ x ≤ 1099511627776) → 0 ≤ sumI l ∧ sumI l ≤ l.length * 1099511627776 := by
    intro l
    induction l with
    | nil => intro _; simp [sumI]
    | cons x l ih =>
      intro h
      have h1 := h x (by simp)
      have h2 := ih (fun y hy => h y (by simp [hy]))
      simp only [sumI, List.length_cons]
      omega
  have := h1 pay h
  omega

set_option maxRecDepth 100000 in
set_option maxHeartbeats 1600000 in
theorem least_any (n : Int) (bs : List (List Off)) (v : Value) (lo g : Nat) (A : Option Addr) (cap : Nat) (pay : List Int) (vp : Value) (R Rx : Nat → Prop) (k : Nat) (hk : k < bs.length) (w : World) (hw : WonAt w lo g n v bs A cap) (hl : Buys w Rx v bs) (hp : Sl w R vp pay.length 1 (ints pay))
    (hi : instE n bs = 0) (hok : payL pay (bidsC n bs) = true) :
    Calls Try.prog 97 #[.pointer (some ⟨g, 0, none⟩), .int .i64 (k : Int), vp] w fun e w' => e = .returned (.int .i64 (leastI n bs pay k)) ∧ Below w.heap.size w w' := by
  have hwf := Buys.wf hl
  have hil := instE_low hi hok
  have hpl := pay_len hok
  have hl32 := (instE_zero hi).2.2.1
  have hwe : withE n (lowB n bs pay) (k : Int) [] = 0 := instE_withE hil (by rw [lowB_length]; exact hk)
  have hpb := pay_bd hi hwf hok
  obtain ⟨hs0, hs1⟩ := sum_bd hpb (by omega)
  obtain ⟨hw0, hw1⟩ := woW_bd (lowB_wf hwf hok) hil (k : Int)
  have hwo : woW n (lowB n bs pay) (k : Int) = W ((lowB n bs pay).set k []) (allOf n) := by unfold woW; rw [if_pos hwe]; rfl
  obtain ⟨b, off, p, hA, hb, hpk, hc⟩ : ∃ b off p, vp = .slice (some ⟨b, off, none⟩) pay.length (match vp with | .slice _ _ c => c | _ => 0) ∧ b < w.heap.size ∧ pay[k]? = some p ∧ w.cell? ⟨b, off + k, none⟩ = some (.int .i64 p) := by
    obtain ⟨_, Ap, capp, rfl, _⟩ := id hp
    obtain ⟨b, off, x, rfl, hb, hx, hc⟩ := hp.int_at (k := k) (by omega)
    exact ⟨b, off, x, rfl, hb, hx, hc⟩
  have hp2 := hpb p (List.mem_of_getElem? hpk)
  have hle : leastI n bs pay k = max 0 (woW n (lowB n bs pay) k - (sumI pay - p)) := by unfold leastI; rw [hpk]; rfl
  obtain ⟨capp, hcp⟩ : ∃ c, c = (match vp with | .slice _ _ c => c | _ => 0) := ⟨_, rfl⟩
  rw [← hcp] at hA
  clear hcp
  subst hA
  obtain ⟨Wk, hWk⟩ : ∃ x, x = woW n (lowB n bs pay) (k : Int) := ⟨_, rfl⟩
  rw [← hWk] at hw0 hw1 hwo hle
  obtain ⟨T, hT⟩ : ∃ x, x = sumI pay := ⟨_, rfl⟩
  rw [← hT] at hs0 hs1 hle
  have e1 : IntKind.i64.wrap (T - p) = T - p := IntWalk.i64_in _ (by omega)
  have e2 : IntKind.i64.wrap (Wk - (T - p)) = Wk - (T - p) := IntWalk.i64_in _ (by omega)
  have e3 : (0 : Int) ≤ (k : Int) := by omega
  have e4 : (k : Int) < (pay.length : Int) := by omega
  have HW := Lib.hid hw
  have HL := Lib.hid hl
  have HP := Lib.hid hp
  have HI := Lib.hid hi
  have HOK := Lib.hid hok
  have HWE := Lib.hid hwe
  have HWO := Lib.hid hwo
  have HT := Lib.hid hT
  have HLE := Lib.hid hle
  have HPB := Lib.hid hpb
  have HLL := Lib.hid (lowB_length n bs pay)
  have HPL := Lib.hid hpl
  have hpl64 : pay.length ≤ 64 := by omega
  clear hw hl hp hi hok hwe hwo hT hle hpb hwf hil hpk hWk hpl
  go_enter Try.func97, Try.ntmps97
  go_wp2_with (first
    | (go_at_call 100; refine (lowered_any n bs v lo g A cap pay _ R Rx _ HW.out HL.out HP.out HI.out HOK.out).mono ?_; rintro e w1 ⟨A1, c1, rfl, hob, hb1⟩; have HOB := Lib.hid hob; have HB1 := Lib.hid hb1; have hsz1 := hb1.size; clear hob hb1)
    | (go_at_call 47; go_must (refine (clearWithout_ok n (lowB n bs pay) (k : Int) (.slice A1 bs.length c1) _ _ HOB.out.buys HWE.out).mono ?_); rintro e w2 ⟨A2, c2, rfl, _, hb2⟩; rw [Int.toNat_natCast, ← HWO.out]; have HB2 := Lib.hid (HB1.out.trans (hb2.mono (B' := w.heap.size) (by omega))); clear hb2))
  obtain ⟨W2, hW2⟩ : ∃ W2, W2 = w2.alloc (.cells #[.slice A2 (lowB n bs pay).length c2, .int .i64 Wk] 66) := ⟨_, rfl⟩
  have HB3 := Lib.hid (show Below w.heap.size w W2 from by rw [hW2]; exact HB2.out.alloc HB2.out.size _)
  have hlt2 : w2.heap.size < W2.heap.size := by rw [hW2]; simp
  have d0 : W2.cell? ⟨w2.heap.size, 1, none⟩ = some (.int .i64 Wk) := by rw [hW2]; exact (Blk.new w2 66 #[.slice A2 (lowB n bs pay).length c2, .int .i64 Wk]).cell 1
  have d1 := (HB3.out.cell (p := ⟨b, off + k, none⟩) hb).trans hc
  have hbW := Nat.lt_of_lt_of_le hb HB3.out.size
  rw [← hW2]
  clear hW2
  have hmx : leastI n bs pay k = if T - p < Wk then Wk - (T - p) else 0 := by rw [HLE.out]; split <;> omega
  have HMX := Lib.hid hmx
  clear hmx
  refine wp_region_F (Below W2.heap.size W2) [] (by kernel_rfl) ((Below.refl _ _).drew) (fun hS => ?_)
  refine wpAnyF_take (i := 0) (oi := { dst := some 17, op := Go.Op.fieldAddr 66 (Go.Operand.tmp 7) 1, type := 0, pos := "core.go:67", after := #[], guard := none }) (v := ?_) rfl (by kernel_rfl) (by kernel_rfl) (by kernel_rfl) (by kernel_rfl) (fun _ _ _ h => h) (Or.inl ⟨by rfl, ?_⟩) hS ?_
  rotate_left
  · intro w' hSw; have q1 := (hSw.cell (p := ⟨w2.heap.size, 1, none⟩) hlt2).trans d0; have q2 := (hSw.cell (p := ⟨b, off + k, none⟩) hbW).trans d1; go_simp; try with_reducible rfl
  try simp only [Act.put, List.setIfInBounds_toArray, List.set_cons_zero, List.set_cons_succ]
  refine wpAnyF_take (i := 1) (oi := { dst := some 18, op := Go.Op.load 2 (Go.Operand.tmp 17), type := 2, pos := "core.go:67", after := #[{ on := 0, ground := Go.Ground.data }], guard := none }) (v := ?_) rfl (by kernel_rfl) (by kernel_rfl) (by kernel_rfl) (by kernel_rfl) (fun _ _ _ h => h) (Or.inl ⟨by rfl, ?_⟩) hS ?_
  rotate_left
  · intro w' hSw; have q1 := (hSw.cell (p := ⟨w2.heap.size, 1, none⟩) hlt2).trans d0; have q2 := (hSw.cell (p := ⟨b, off + k, none⟩) hbW).trans d1; go_simp; try with_reducible rfl
  try simp only [Act.put, List.setIfInBounds_toArray, List.set_cons_zero, List.set_cons_succ]
  refine wpAnyF_take (i := 2) (oi := { dst := some 19, op := Go.Op.move (Go.Operand.tmp 2), type := 34, pos := "core.go:67", after := #[], guard := none }) (v := ?_) rfl (by kernel_rfl) (by kernel_rfl) (by kernel_rfl) (by kernel_rfl) (fun _ _ _ h => h) (Or.inl ⟨by rfl, ?_⟩) hS ?_
  rotate_left
  · intro w' hSw; have q1 := (hSw.cell (p := ⟨w2.heap.size, 1, none⟩) hlt2).trans d0; have q2 := (hSw.cell (p := ⟨b, off + k, none⟩) hbW).trans d1; go_simp; try with_reducible rfl
  try simp only [Act.put, List.setIfInBounds_toArray, List.set_cons_zero, List.set_cons_succ]
  refine wpAnyF_take (i := 4) (oi := { dst := some 21, op := Go.Op.move (Go.Operand.tmp 2), type := 34, pos := "core.go:67", after := #[], guard := none }) (v := ?_) rfl (by kernel_rfl) (by kernel_rfl) (by kernel_rfl) (by kernel_rfl) (fun _ _ _ h => h) (Or.inl ⟨by rfl, ?_⟩) hS ?_
  rotate_left
  · intro w' hSw; have q1 := (hSw.cell (p := ⟨w2.heap.size, 1, none⟩) hlt2).trans d0; have q2 := (hSw.cell (p := ⟨b, off + k, none⟩) hbW).trans d1; go_simp; try with_reducible rfl
  try simp only [Act.put, List.setIfInBounds_toArray, List.set_cons_zero, List.set_cons_succ]
  refine wpAnyF_take (i := 5) (oi := { dst := some 22, op := Go.Op.move (Go.Operand.tmp 1), type := 3, pos := "core.go:67", after := #[], guard := none }) (v := ?_) rfl (by kernel_rfl) (by kernel_rfl) (by kernel_rfl) (by kernel_rfl) (fun _ _ _ h => h) (Or.inl ⟨by rfl, ?_⟩) hS ?_
  rotate_left
  · intro w' hSw; have q1 := (hSw.cell (p := ⟨w2.heap.size, 1, none⟩) hlt2).trans d0; have q2 := (hSw.cell (p := ⟨b, off + k, none⟩) hbW).trans d1; go_simp; try with_reducible rfl
  try simp only [Act.put, List.setIfInBounds_toArray, List.set_cons_zero, List.set_cons_succ]
  refine wpAnyF_take (i := 6) (oi := { dst := some 23, op := Go.Op.indexAddr 34 (Go.Operand.tmp 21) (Go.Operand.tmp 22), type := 0, pos := "core.go:67", after := #[{ on := 4, ground := Go.Ground.data }, { on := 5, ground := Go.Ground.data }], guard := none }) (v := ?_) rfl (by kernel_rfl) (by kernel_rfl) (by kernel_rfl) (by kernel_rfl) (fun _ _ _ h => h) (Or.inl ⟨by rfl, ?_⟩) hS ?_
  rotate_left
  · intro w' hSw; have q1 := (hSw.cell (p := ⟨w2.heap.size, 1, none⟩) hlt2).trans d0; have q2 := (hSw.cell (p := ⟨b, off + k, none⟩) hbW).trans d1; go_simp; try with_reducible rfl
  try simp only [Act.put, List.setIfInBounds_toArray, List.set_cons_zero, List.set_cons_succ]
  refine wpAnyF_take (i := 7) (oi := { dst := some 24, op := Go.Op.load 2 (Go.Operand.tmp 23), type := 2, pos := "core.go:67", after := #[{ on := 6, ground := Go.Ground.data }], guard := none }) (v := ?_) rfl (by kernel_rfl) (by kernel_rfl) (by kernel_rfl) (by kernel_rfl) (fun _ _ _ h => h) (Or.inl ⟨by rfl, ?_⟩) hS ?_
  rotate_left
  · intro w' hSw; have q1 := (hSw.cell (p := ⟨w2.heap.size, 1, none⟩) hlt2).trans d0; have q2 := (hSw.cell (p := ⟨b, off + k, none⟩) hbW).trans d1; go_simp; try with_reducible rfl
  try simp only [Act.put, List.setIfInBounds_toArray, List.set_cons_zero, List.set_cons_succ]
  refine wpAnyF_ready (rs := [3]) (by kernel_rfl) (by simp) ?_
  refine AllReadyF.cons (o := { dst := some 20, op := Go.Op.call { callee := Go.Callee.value (Go.Operand.func 101), args := #[Go.Operand.tmp 19], argTypes := #[34] }, type := 2, pos := "core.go:67", after := #[{ on := 2, ground := Go.Ground.data }], guard := none }) rfl (by rfl) (fun K hK => ?_) ?_
  · go_simp
    refine (coreTotal_any pay _ R _ ((HP.out.grow HB3.out).grow (Below.refl _ _).drew) (fun x hx => by have := HPB.out x hx; omega) hpl64).mono ?_
    rintro e w4 ⟨rfl, rfl⟩
    rw [← HT.out]
    refine hK.out _ _ ?_ (fun hS => ?_)
    · exact hS
    clear hK K
    try simp only [Act.put, List.setIfInBounds_toArray, List.set_cons_zero, List.set_cons_succ]
    refine wpAnyF_take (i := 8) (oi := { dst := some 25, op := Go.Op.binOp Go.BinOp.sub 2 (Go.Operand.tmp 20) (Go.Operand.tmp 24) 2, type := 2, pos := "core.go:67", after := #[{ on := 3, ground := Go.Ground.data }, { on := 7, ground := Go.Ground.data }], guard := none }) (v := ?_) rfl (by kernel_rfl) (by kernel_rfl) (by kernel_rfl) (by kernel_rfl) (fun _ _ _ h => h) (Or.inl ⟨by rfl, ?_⟩) hS ?_
    rotate_left
    · intro w' hSw; have q1 := (hSw.cell (p := ⟨w2.heap.size, 1, none⟩) hlt2).trans d0; have q2 := (hSw.cell (p := ⟨b, off + k, none⟩) hbW).trans d1; go_simp; try with_reducible rfl
    try simp only [Act.put, List.setIfInBounds_toArray, List.set_cons_zero, List.set_cons_succ]
    refine wpAnyF_take (i := 9) (oi := { dst := some 26, op := Go.Op.binOp Go.BinOp.sub 2 (Go.Operand.tmp 18) (Go.Operand.tmp 25) 2, type := 2, pos := "core.go:67", after := #[{ on := 1, ground := Go.Ground.data }, { on := 8, ground := Go.Ground.data }], guard := none }) (v := ?_) rfl (by kernel_rfl) (by kernel_rfl) (by kernel_rfl) (by kernel_rfl) (fun _ _ _ h => h) (Or.inl ⟨by rfl, ?_⟩) hS ?_
    rotate_left
    · intro w' hSw; have q1 := (hSw.cell (p := ⟨w2.heap.size, 1, none⟩) hlt2).trans d0; have q2 := (hSw.cell (p := ⟨b, off + k, none⟩) hbW).trans d1; go_simp; try with_reducible rfl
    try simp only [Act.put, List.setIfInBounds_toArray, List.set_cons_zero, List.set_cons_succ]
    refine wpAnyF_ready (rs := [10]) (by kernel_rfl) (by simp) ?_
    refine AllReadyF.cons (o := { dst := some 27, op := Go.Op.call { callee := Go.Callee.builtin Go.Builtin.max, args := #[Go.Operand.const (Go.Value.int Go.IntKind.i64 0), Go.Operand.tmp 26], argTypes := #[2, 2] }, type := 2, pos := "core.go:67", after := #[{ on := 9, ground := Go.Ground.data }], guard := none }) rfl (by rfl) (fun K hK => ?_) ?_
    · go_simp
      refine hK.out _ _ ?_ (fun hS => ?_)
      · exact hS
      clear hK K
      try simp only [Act.put, List.setIfInBounds_toArray, List.set_cons_zero, List.set_cons_succ]
      refine wpAnyF_take (i := 11) (oi := { dst := some 6, op := Go.Op.assign (Go.Operand.tmp 27), type := 2, pos := "core.go:67", after := #[{ on := 10, ground := Go.Ground.data }, { on := 3, ground := Go.Ground.chain }, { on := 0, ground := Go.Ground.phase }, { on := 1, ground := Go.Ground.phase }, { on := 2, ground := Go.Ground.phase }, { on := 3, ground := Go.Ground.phase }, { on := 4, ground := Go.Ground.phase }, { on := 5, ground := Go.Ground.phase }, { on := 6, ground := Go.Ground.phase }, { on := 7, ground := Go.Ground.phase }, { on := 8, ground := Go.Ground.phase }, { on := 9, ground := Go.Ground.phase }, { on := 10, ground := Go.Ground.phase }], guard := none }) (v := ?_) rfl (by kernel_rfl) (by kernel_rfl) (by kernel_rfl) (by kernel_rfl) (fun _ _ _ h => h) (Or.inl ⟨by rfl, ?_⟩) hS ?_
      rotate_left
      · intro w' hSw; have q1 := (hSw.cell (p := ⟨w2.heap.size, 1, none⟩) hlt2).trans d0; have q2 := (hSw.cell (p := ⟨b, off + k, none⟩) hbW).trans d1; go_simp; try with_reducible rfl
      try simp only [Act.put, List.setIfInBounds_toArray, List.set_cons_zero, List.set_cons_succ]
      refine wpAnyF_done (by kernel_rfl) ?_ _
      go_wp2_with fail
      all_goals go_ret
      all_goals exact ⟨by rw [HMX.out]; first | (rw [if_pos (by omega)]; rfl) | (rw [if_neg (by omega)]; rfl), HB3.out.drew⟩
    exact AllReadyF.nil
  exact AllReadyF.nil

/-- The answer of asked. -/
def askE (n : Int) (bs : List (List Off)) (pay : List Int) : Int := if instE n bs = 0 then (if payL pay (bidsC n bs) = true then 0 else 2) else instE n bs
def leastOk (n : Int) (bs : List (List Off)) (pay : List Int) (buyer : Int) : Bool := decide (askE n bs pay = 0) && decide (0 ≤ buyer ∧ buyer < pay.length) && winB (bestC n bs) buyer.toNat
def leastV (n : Int) (bs : List (List Off)) (pay : List Int) (buyer : Int) : Int := if leastOk n bs pay buyer = true then leastI n bs pay buyer.toNat else 0
def leastE (n : Int) (bs : List (List Off)) (pay : List Int) (buyer : Int) : Int := if leastOk n bs pay buyer = true then 0 else if askE n bs pay = 0 then 2 else askE n bs pay

end Go.Proofs.Ytcigobiolbojhaa.Vb

/- core: Lowered; Blocks. -/
namespace Go.Proofs.Ytcigobiolbojhaa.Vb
open Go.RowKit

end Go.Proofs.Ytcigobiolbojhaa.Vb

/- core: Blocks. -/
namespace Go.Proofs.Ytcigobiolbojhaa.Vb
open Go.RowKit

/-- Who wins, of the first k. -/
def whoTo (cs : List Int) (k : Nat) : List Int := ((List.range k).filter (winB cs)).map fun (i : Nat) => (i : Int)
theorem whoTo_yes {cs : List Int} {k : Nat} (h : winB cs k = true) : whoTo cs (k + 1) = whoTo cs k ++ [(k : Int)] := by
  unfold whoTo; rw [List.range_succ, List.filter_append, List.map_append]; simp [h]
theorem whoTo_no {cs : List Int} {k : Nat} (h : winB cs k = false) : whoTo cs (k + 1) = whoTo cs k := by
  unfold whoTo; rw [List.range_succ, List.filter_append, List.map_append]; simp [h]
theorem whoTo_len (cs : List Int) (k : Nat) : (whoTo cs k).length ≤ k := by
  unfold whoTo; rw [List.length_map]; exact Nat.le_trans (List.length_filter_le _ _) (by simp)

def moreI (n : Int) (bs : List (List Off)) (pay : List Int) : Int := W (lowB n bs pay) (allOf n) - sumI pay
def blockB (n : Int) (bs : List (List Off)) (pay : List Int) : Bool := decide (askE n bs pay = 0) && decide (0 < moreI n bs pay)
def blockL (n : Int) (bs : List (List Off)) (pay : List Int) : List Int := if blockB n bs pay = true then whoTo (bestC n (lowB n bs pay)) bs.length else []
def blockM (n : Int) (bs : List (List Off)) (pay : List Int) : Int := if blockB n bs pay = true then moreI n bs pay else 0
def BlocksPost (n : Int) (bs : List (List Off)) (pay : List Int) (w : World) (e : Ending) (w' : World) : Prop :=
  ∃ A' cap', e = .returned (.tuple #[.agg #[.slice A' (blockL n bs pay).length cap', .int .i64 (blockM n bs pay)], .bool (blockB n bs pay), .int .i64 (askE n bs pay)]) ∧
    w'.ownsRow w.heap.size 3 1 (.slice A' (blockL n bs pay).length cap') (blockL n bs pay).length (ints (blockL n bs pay)) ∧ Below w.heap.size w w'

end Go.Proofs.Ytcigobiolbojhaa.Vb

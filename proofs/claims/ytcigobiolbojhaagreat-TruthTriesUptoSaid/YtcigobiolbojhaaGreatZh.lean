/- Joined by program: Tru7 LawU Tru8 Tru9 TruA TruB TruC TruD TruE TruG RefLow BitsX Tab15 Part15. -/
import Derived.Test.YtcigobiolbojhaaGreatZg
import Derived.Test.YtcigobiolbojhaaGreatZf
import Derived.Test.YtcigobiolbojhaaGreatZa
import Derived.Test.YtcigobiolbojhaaGreatZd
import Derived.Test.YtcigobiolbojhaaGreatZe
import Derived.Test.YtcigobiolbojhaaGreatZc
/- truth.Tries. -/
namespace Go.Proofs.YtcigobiolbojhaaGreat.Vb
open Go.RowKit

theorem OwnBuys.nil (w : World) (lo : Nat) : OwnBuys w lo (.slice none 0 0) [] := ⟨[], World.ownsRow_nil _ _ _ _, fun k l hk => by simp at hk⟩
theorem OwnBuys.lt_own {w : World} {lo n cap : Nat} {A : Option Addr} {bs : List (List Off)} (h : OwnBuys w lo (.slice A n cap) bs) {g : Nat} (hg : (Value.slice A n cap).ownBlock = some g) : lo ≤ g := by
  obtain ⟨vs, hs, _⟩ := h
  exact (hs.lt g hg).1

def fnV (b5 b6 b12 b8 : Nat) : Value := .func (.func 31) #[] #[.pointer (some ⟨b5, 0, none⟩), .pointer (some ⟨b6, 0, none⟩), .pointer (some ⟨b12, 0, none⟩), .pointer (some ⟨b8, 0, none⟩)]
def itV (g14 g12 : Nat) : Value := .func (.func 21) #[] #[.pointer (some ⟨g14, 0, none⟩), .pointer (some ⟨g12, 0, none⟩)]
/-- what the function that Tries told holds -/
structure TrC (W : World) (R0 : Nat → Prop) (g14 g12 : Nat) (n : Int) (bs : List (List Off)) (k : Nat) (r : Int) (tr : List Off) (ts : List (List Off)) : Prop where
  ask : ∃ (b5 b6 b12 b8 : Nat) (vb vt : Value), AskC W R0 b5 b6 b12 b8 n bs k r tr vb vt ∧ Blk W g12 62 #[fnV b5 b6 b12 b8]
  own : ∃ (A : Option Addr) (c : Nat), Blk W g14 22 #[.slice A ts.length c] ∧ Buys W R0 (.slice A ts.length c) ts
  l12 : R0 g12
  l14 : R0 g14
theorem TrC.lt12 {W : World} {R0 : Nat → Prop} {g14 g12 : Nat} {n : Int} {bs : List (List Off)} {k : Nat} {r : Int} {tr : List Off} {ts : List (List Off)} (h : TrC W R0 g14 g12 n bs k r tr ts) : g12 < W.heap.size ∧ g14 < W.heap.size := by
  obtain ⟨_, _, _, _, _, _, _, h1⟩ := h.ask
  obtain ⟨_, _, h2, _⟩ := h.own
  exact ⟨h1.lt, h2.lt⟩
theorem TrC.keep {W W' : World} {R0 : Nat → Prop} {g14 g12 : Nat} {n : Int} {bs : List (List Off)} {k : Nat} {r : Int} {tr : List Off} {ts : List (List Off)} (h : TrC W R0 g14 g12 n bs k r tr ts) (hs : W.heap.size ≤ W'.heap.size) (hk : ∀ b, b < W.heap.size → R0 b → W'.heap[b]? = W.heap[b]?) : TrC W' R0 g14 g12 n bs k r tr ts := by
  obtain ⟨l1, l2⟩ := h.lt12
  obtain ⟨b5, b6, b12, b8, vb, vt, ha, hb⟩ := h.ask
  obtain ⟨A, c, h2, h3⟩ := h.own
  exact ⟨⟨b5, b6, b12, b8, vb, vt, ha.keep hs hk, hb.keep (hk _ l1 h.l12)⟩, ⟨A, c, h2.keep (hk _ l2 h.l14), h3.keep hs hk⟩, h.l12, h.l14⟩
theorem TrC.mono {W : World} {R0 R1 : Nat → Prop} {g14 g12 : Nat} {n : Int} {bs : List (List Off)} {k : Nat} {r : Int} {tr : List Off} {ts : List (List Off)} (h : TrC W R0 g14 g12 n bs k r tr ts) (hR : ∀ b, b < W.heap.size → R0 b → R1 b) : TrC W R1 g14 g12 n bs k r tr ts := by
  obtain ⟨l1, l2⟩ := h.lt12
  obtain ⟨b5, b6, b12, b8, vb, vt, ha, hb⟩ := h.ask
  obtain ⟨A, c, h2, h3⟩ := h.own
  exact ⟨⟨b5, b6, b12, b8, vb, vt, ha.mono hR, hb⟩, ⟨A, c, h2, h3.mono hR⟩, hR _ l1 h.l12, hR _ l2 h.l14⟩

def TriesR (n : Int) (bs : List (List Off)) (buyer r : Int) (tr : List Off) (ts : List (List Off)) (w : World) (e : Ending) (w' : World) : Prop :=
  Below w.heap.size w w' ∧ ((askedE n bs buyer r (tr :: ts) ≠ 0 ∧ e = .returned (.tuple #[.nilFunc, .int .i64 (askedE n bs buyer r (tr :: ts))])) ∨
    (askedE n bs buyer r (tr :: ts) = 0 ∧ ∃ k g14 g12 : Nat, buyer = (k : Int) ∧ TrC w' (w.heap.size ≤ ·) g14 g12 n bs k r tr ts ∧ e = .returned (.tuple #[itV g14 g12, .int .i64 0])))

set_option maxRecDepth 100000 in
set_option maxHeartbeats 3200000 in
theorem tries_any (n : Int) (bs : List (List Off)) (buyer r : Int) (tr : List Off) (ts : List (List Off)) (v vt vs : Value) (R Rt Rs : Nat → Prop) (w : World) (hl : Buys w R v bs) (ht : Offs w Rt vt tr) (hs : Buys w Rs vs ts)
    (hts : ts.length ≤ 1000000) (hb : -9223372036854775808 ≤ buyer ∧ buyer ≤ 9223372036854775807) (hr : -9223372036854775808 ≤ r ∧ r ≤ 9223372036854775807) :
    Calls Tryz.prog 7 #[.agg #[.int .i64 n, v], .int .i64 buyer, .int .i64 r, vt, vs] w fun e w' => TriesR n bs buyer r tr ts w e w' := by
  obtain ⟨_, ⟨_, A, cap, rfl, _⟩, _⟩ := id hl
  obtain ⟨⟨_, At, capt, rfl, _⟩, _⟩ := id ht
  obtain ⟨vts, ⟨hvl, As, caps, rfl, hsl1, hsl2, hsl3⟩, hvs⟩ := id hs
  have HSL := Lib.hid (show Sl w Rs (.slice As ts.length caps) ts.length 1 vts from ⟨hvl, As, caps, rfl, hsl1, hsl2, hsl3⟩)
  have HVS := Lib.hid hvs
  have HB := Lib.hid hl
  have HT := Lib.hid ht
  have HS := Lib.hid hs
  have hbd := askedE_bd n bs buyer r (tr :: ts)
  obtain ⟨z, hz⟩ : ∃ z, z = askedE n bs buyer r (tr :: ts) := ⟨_, rfl⟩
  rw [← hz] at hbd
  have HZ := Lib.hid hz
  obtain ⟨P, hP⟩ : ∃ P : Ending → World → Prop, P = fun e w' => TriesR n bs buyer r tr ts w e w' := ⟨_, rfl⟩
  rw [← hP]
  have HP := Lib.hid hP
  have hsl3' : ∀ {k : Nat}, k < ts.length → ∃ b off, As = some ⟨b, off, none⟩ ∧ Rs b ∧ b < w.heap.size ∧ ∀ j u, vts[j]? = some u → w.cell? ⟨b, off + j, none⟩ = some u := fun hk => hsl3 (by omega)
  clear hsl1 hsl2 hsl3 hvs hl ht hs hz hP
  go_enter Tryz.func7, Tryz.ntmps7
  go_wp2_with fail
  refine (asked29_any n bs buyer r tr ts _ _ _ R Rt Rs (w.alloc (.cells #[.int .i64 n, .slice A bs.length cap] 24)) (HB.out.alloc _) (HT.out.alloc _) (HS.out.alloc _) hts hb hr).mono ?_
  rintro e w1 ⟨hb1, hcase⟩
  have HB1 := Lib.hid (((Below.refl w.heap.size w).alloc (Nat.le_refl _) (.cells #[.int .i64 n, .slice A bs.length cap] 24)).trans (hb1.mono (by simp)))
  clear hb1
  rw [← HZ.out] at hcase
  rcases hcase with ⟨hne, rfl⟩ | ⟨h0, k, b5, b6, b12, b8, vb, vt', hbk, hA, rfl⟩
  · have hcb : (z != 0) = true := by simpa using hne
    have HNZ := Lib.hid hne
    clear hne
    go_wp2_with fail
    show P (.returned (.tuple #[.nilFunc, .int .i64 z])) _
    rw [HP.out]
    exact ⟨HB1.out.alloc HB1.out.size _, .inl ⟨by rw [← HZ.out]; exact HNZ.out, by rw [← HZ.out]⟩⟩
  · subst h0
    clear hbd
    obtain ⟨h1, h2, h3, h4, h5⟩ := askedE_zero HZ.out.symm
    have HCK := Lib.hid (fun l hl => checkE_len (h5 l hl) : ∀ l ∈ tr :: ts, l.length ≤ 8)
    have HA := Lib.hid hA
    have HBK := Lib.hid hbk
    have hs1 := HB1.out.size
    clear h1 h2 h3 h4 h5 hA hbk
    go_wp2_with fail
    have hg12 : Blk ((w1.alloc (.cells #[fnV b5 b6 b12 b8] 62)).alloc (.cells #[.slice none 0 0] 22)) w1.heap.size 62 #[fnV b5 b6 b12 b8] := (Blk.new' _ _ rfl).alloc _
    have hg14 : Blk ((w1.alloc (.cells #[fnV b5 b6 b12 b8] 62)).alloc (.cells #[.slice none 0 0] 22)) (w1.heap.size + 1) 22 #[.slice none 0 0] := Blk.new' _ _ (by simp)
    have hb2 : Below w1.heap.size w1 ((w1.alloc (.cells #[fnV b5 b6 b12 b8] 62)).alloc (.cells #[.slice none 0 0] 22)) := ((Below.refl _ _).alloc (Nat.le_refl _) _).alloc (by simp) _
    have hs2 : ((w1.alloc (.cells #[fnV b5 b6 b12 b8] 62)).alloc (.cells #[.slice none 0 0] 22)).heap.size = w1.heap.size + 2 := by simp
    obtain ⟨W2, hW2⟩ : ∃ V, V = (w1.alloc (.cells #[fnV b5 b6 b12 b8] 62)).alloc (.cells #[.slice none 0 0] 22) := ⟨_, rfl⟩
    rw [show (w1.alloc (.cells #[Value.func (.func 31) #[] #[.pointer (some ⟨b5, 0, none⟩), .pointer (some ⟨b6, 0, none⟩), .pointer (some ⟨b12, 0, none⟩), .pointer (some ⟨b8, 0, none⟩)]] 62)).alloc (.cells #[.slice none 0 0] 22) = W2 from hW2.symm]
    rw [← hW2] at hg12 hg14 hb2 hs2
    have HG12 := Lib.hid hg12
    have HG14 := Lib.hid hg14
    have HB2 := Lib.hid hb2
    have HS2 := Lib.hid hs2
    clear hW2 hg12 hg14 hb2 hs2
    go_loopw [31] (fun i wr => ∃ (k : Nat) (A' : Option Addr) (c' : Nat), k ≤ ts.length ∧ i = .int .i64 k ∧ Blk wr (w1.heap.size + 1) 22 #[.slice A' k c'] ∧ OwnBuys wr (w1.heap.size + 2) (.slice A' k c') (ts.take k) ∧ Below (w1.heap.size + 1) W2 wr) (fun i _ => ts.length - (intOf i).toNat)
    case atStart => exact ⟨0, none, 0, Nat.zero_le _, rfl, HG14.out, OwnBuys.nil _ _, Below.refl _ _⟩
    case round =>
      obtain ⟨k, A', c', hk, rfl, hg, hob, hbr⟩ := hrel
      have hsz : w1.heap.size + 2 ≤ wr.heap.size := hg.lt
      have hbw1 : Below w1.heap.size w1 wr := HB2.out.trans (hbr.mono (by omega))
      have x0 : wr.cell? ⟨w1.heap.size + 1, 0, none⟩ = some (.slice A' k c') := hg.cell 0
      have HG := Lib.hid hg
      have HBR := Lib.hid hbr
      have HBW1 := Lib.hid hbw1
      have HBW := Lib.hid (HB1.out.trans (hbw1.mono HB1.out.size))
      by_cases hlt : k < ts.length
      · obtain ⟨l, hlk⟩ : ∃ l, ts[k]? = some l := ⟨_, List.getElem?_eq_getElem hlt⟩
        obtain ⟨u, hu, hou⟩ := HVS.out k l hlk
        obtain ⟨bq, of, rfl, _, hbq, hcs⟩ := hsl3' hlt
        have cu : wr.cell? ⟨bq, of + k, none⟩ = some u := (HBW.out.cell (p := ⟨bq, of + k, none⟩) hbq).trans (hcs _ _ hu)
        have hl8 := HCK.out l (List.mem_cons_of_mem _ (List.mem_of_getElem? hlk))
        obtain ⟨⟨_, Au, cu', rfl, _⟩, _⟩ := id hou
        have HOU := Lib.hid (hou.grow HBW.out)
        obtain ⟨vs', hs', ho'⟩ := hob
        have hlk2 : (ts.take k).length = k := by simp; omega
        rw [hlk2] at hs'
        have HS' := Lib.hid hs'
        have HO' := Lib.hid ho'
        have HLK := Lib.hid hlk
        have HLK2 := Lib.hid hlk2
        have e0 : (0 : Int) ≤ (k : Int) := by omega
        have e1 : (k : Int) < (ts.length : Int) := by omega
        have hcl := fun W hb => clone_off (Off.all l) l.length (.slice Au l.length cu') Rs W (HOU.out.grow hb).1 (Off.all_one l) (by omega)
        have HCL := Lib.hid hcl
        clear hg hbr hbw1 hcs hu hou hs' ho' hlk hlk2 hcl
        go_wp2_with fail
        refine wp_region_F (fun W : World => W.cell? ⟨w1.heap.size + 1, 0, none⟩ = some (.slice A' k c')) [5] (by kernel_rfl) (show wr.drew.cell? ⟨w1.heap.size + 1, 0, none⟩ = some (.slice A' k c') from x0) (fun hS => ?_)
        refine wpAnyF_take (i := 0) (oi := { dst := some 35, op := Go.Op.load 22 (Go.Operand.tmp 14), type := 22, pos := "truth.go:135", after := #[], guard := none }) (v := ?_) rfl (by kernel_rfl) (by kernel_rfl) (by kernel_rfl) (by kernel_rfl) (fun _ _ _ h => h) (Or.inl ⟨by rfl, ?_⟩) hS ?_
        rotate_left
        · intro w' hSw; have q0 : w'.cell? ⟨w1.heap.size + 1, 0, none⟩ = some (.slice A' k c') := hSw; go_simp; try with_reducible rfl
        try simp only [Act.put, List.setIfInBounds_toArray, List.set_cons_zero, List.set_cons_succ]
        refine wpAnyF_take (i := 1) (oi := { dst := some 36, op := Go.Op.move (Go.Operand.tmp 16), type := 26, pos := "truth.go:135", after := #[], guard := none }) (v := ?_) rfl (by kernel_rfl) (by kernel_rfl) (by kernel_rfl) (by kernel_rfl) (fun _ _ _ h => h) (Or.inl ⟨by rfl, ?_⟩) hS ?_
        rotate_left
        · intro w' hSw; have q0 : w'.cell? ⟨w1.heap.size + 1, 0, none⟩ = some (.slice A' k c') := hSw; go_simp; try with_reducible rfl
        try simp only [Act.put, List.setIfInBounds_toArray, List.set_cons_zero, List.set_cons_succ]
        refine wpAnyF_ready (rs := [2]) (by kernel_rfl) (by simp) ?_
        refine AllReadyF.cons (o := { dst := some 37, op := Go.Op.call { callee := Go.Callee.value (Go.Operand.func 20), args := #[Go.Operand.tmp 36], argTypes := #[26] }, type := 26, pos := "truth.go:135", after := #[{ on := 1, ground := Go.Ground.data }], guard := none }) rfl (by rfl) (fun K hK => ?_) ?_
        · go_simp
          refine (HCL.out _ (Below.refl _ _).drew).mono ?_
          rintro e w7 ⟨A7, c7, rfl, hown7, hb7⟩
          refine hK.out _ _ ?_ (fun hS => ?_)
          · exact (((Below.refl wr.heap.size wr).drew.trans (hb7.mono (by simp))).cell (p := ⟨w1.heap.size + 1, 0, none⟩) (by simp; omega)).trans x0
          clear hK K
          try simp only [Act.put, List.setIfInBounds_toArray, List.set_cons_zero, List.set_cons_succ]
          have hb7' : Below wr.heap.size wr w7 := (Below.refl wr.heap.size wr).drew.trans (hb7.mono (by simp))
          have HO7 := Lib.hid (show w7.ownsRow wr.heap.size 53 2 (.slice A7 l.length c7) l.length (Off.all l) from hown7)
          have HB7 := Lib.hid hb7'
          have hs7 := hb7'.size
          have HS8 := Lib.hid (own_alloc (own_grow HS'.out hb7') (.cells #[.slice A7 l.length c7] 26))
          clear hb7 hb7' hown7
          refine wpAnyF_ready (rs := [3]) (by kernel_rfl) (by simp) ?_
          refine AllReadyF.cons (o := { dst := some 38, op := Go.Op.buildSlice 22 1 #[(0, Go.Operand.tmp 37)], type := 22, pos := "truth.go:135", after := #[{ on := 2, ground := Go.Ground.data }], guard := none }) rfl (by rfl) (fun K hK => ?_) ?_
          · go_simp
            refine hK.out _ _ ?_ (fun hS => ?_)
            · exact ((HB7.out.alloc HB7.out.size _).cell (p := ⟨w1.heap.size + 1, 0, none⟩) (by simp; omega)).trans x0
            clear hK K
            try simp only [Act.put, List.setIfInBounds_toArray, List.set_cons_zero, List.set_cons_succ]
            refine wpAnyF_ready (rs := [4]) (by kernel_rfl) (by simp) ?_
            refine AllReadyF.cons (o := { dst := some 39, op := Go.Op.call { callee := Go.Callee.builtin Go.Builtin.append, args := #[Go.Operand.tmp 35, Go.Operand.tmp 38], argTypes := #[22, 22] }, type := 22, pos := "truth.go:135", after := #[{ on := 0, ground := Go.Ground.data }, { on := 3, ground := Go.Ground.data }, { on := 2, ground := Go.Ground.chain }], guard := none }) rfl (by rfl) (fun K hK => ?_) ?_
            · refine step_app (w7.alloc (.cells #[.slice A7 l.length c7] 26)) rfl (.tmp 35) (.tmp 38) et_offs rfl (w1.heap.size + 2) (.slice A' k c') k vs' rfl HS8.out _ (.slice (some ⟨w7.heap.size, 0, none⟩) 1 1) 1 [.slice A7 l.length c7] rfl (Sl.new w7 #[.slice A7 l.length c7] _ 1 1 (by unfold maxLen; omega) rfl) (by simp [Value.oneCell']) (by omega) (by unfold maxLen; omega) (by simp; omega) ?_
              intro A8 c8 w8 hown8 hg8 hlo8
              refine hK.out _ _ ?_ (fun hS => ?_)
              · exact (((HG.out.grow HB7.out).alloc (.cells #[.slice A7 l.length c7] 26)).grown hg8 (fun e => by have := (HS'.out.lt _ e.symm).1; omega)).cell 0
              clear hK K
              try simp only [Act.put, List.setIfInBounds_toArray, List.set_cons_zero, List.set_cons_succ]
              have hne14 : (Value.slice A' k c').ownBlock ≠ some (w1.heap.size + 1) := (fun e => by have := (HS'.out.lt _ e).1; omega)
              have hg14' := ((HG.out.grow HB7.out).alloc (.cells #[.slice A7 l.length c7] 26)).grown hg8 (fun e => hne14 e.symm)
              have z0 : w8.cell? ⟨w1.heap.size + 1, 0, none⟩ = some (.slice A' k c') := hg14'.cell 0
              have f0 := hg14'.frozen 0
              have HG8 := Lib.hid hg8
              have HO8 := Lib.hid hown8
              have HL8 := Lib.hid hlo8
              have HG14' := Lib.hid hg14'
              clear hown8 hg8 hlo8 hg14' hne14
              refine wpAnyF_ready (rs := [5]) (by kernel_rfl) (by simp) ?_
              refine AllReadyF.fin (o := { dst := none, op := Go.Op.store 22 (Go.Operand.tmp 14) (Go.Operand.tmp 39), type := 0, pos := "truth.go:135", after := #[{ on := 4, ground := Go.Ground.data }, { on := 4, ground := Go.Ground.chain }, { on := 0, ground := Go.Ground.phase }, { on := 1, ground := Go.Ground.phase }, { on := 2, ground := Go.Ground.phase }, { on := 3, ground := Go.Ground.phase }, { on := 4, ground := Go.Ground.phase }], guard := none }) rfl (by rfl) (fun K hK => ?_) ?_
              · go_simp
                refine hK.out _ _ ?_
                clear hK K
                try simp only [Act.put, List.setIfInBounds_toArray, List.set_cons_zero, List.set_cons_succ]
                refine wpAnyF_done (by kernel_rfl) ?_ _
                go_wp2_with fail
                go_roundw
                case rel =>
                  have hclone : Offs (w7.alloc (.cells #[.slice A7 l.length c7] 26)) (fun b => w1.heap.size + 2 ≤ b ∧ (Value.slice A' k c').ownBlock ≠ some b) (.slice A7 l.length c7) l := by
                    refine ⟨((Sl.of_own HO7.out).alloc _).mono fun b _ hb => ⟨?_, fun e => ?_⟩, HOU.out.2⟩
                    · have := (HO7.out.lt b hb).1; omega
                    · have h1 := (HO7.out.lt b hb).1
                      have h2 := (HS'.out.lt b e).2
                      omega
                  have hold : ∀ (j : Nat) (l2 : List Off), (ts.take k)[j]? = some l2 → ∃ u, vs'[j]? = some u ∧ Offs (w7.alloc (.cells #[.slice A7 l.length c7] 26)) (fun b => w1.heap.size + 2 ≤ b ∧ (Value.slice A' k c').ownBlock ≠ some b) u l2 :=
                    fun j l2 hj => let ⟨u, hu, hl⟩ := HO'.out j l2 hj; ⟨u, hu, (hl.grow HB7.out).alloc _⟩
                  have hsn := OwnBuys.snoc HLK2.out HS8.out hold hclone HO8.out HG8.out HL8.out
                  have htk : ts.take (k + 1) = ts.take k ++ [l] := by rw [List.take_add_one, HLK.out]; rfl
                  rw [← htk] at hsn
                  exact ⟨k + 1, A8, c8, by omega, by go_num, HG14'.out.set_ 0 (.slice A8 (k + 1) c8), hsn.far (grownBy_setCell w8 ⟨w1.heap.size + 1, 0, none⟩ (.slice A8 (k + 1) c8)) (fun j e => by simp at e; omega),
                    (((HBR.out.trans (HB7.out.mono (by omega))).alloc (by omega) _).grown HG8.out (by simp; omega) (fun g e => by have := (HS'.out.lt g e).1; omega)).setCell (p := ⟨w1.heap.size + 1, 0, none⟩) (by simp) _⟩
                case measure => simp [intOf]; omega
              exact AllReadyF.nil
            exact AllReadyF.nil
          exact AllReadyF.nil
        exact AllReadyF.nil
      · obtain rfl : k = ts.length := by omega
        rw [List.take_length] at hob
        have HOB := Lib.hid hob
        clear hg hbr hbw1 hob
        go_wp2_with fail
        show P (.returned (.tuple #[itV (w1.heap.size + 1) w1.heap.size, .int .i64 0])) _
        rw [HP.out]
        refine ⟨HBW.out, .inr ⟨HZ.out.symm, ?_⟩⟩
        refine ⟨_, w1.heap.size + 1, w1.heap.size, HBK.out, ⟨⟨b5, b6, b12, b8, vb, vt', (HA.out.grow HBW1.out).mono (fun b _ h => by simp at h; omega), ?_⟩, ⟨A', c', HG.out, (HOB.out.mono (show w.heap.size ≤ w1.heap.size + 2 by omega)).buys⟩, hs1, by omega⟩, rfl⟩
        exact HG12.out.below HBR.out (by omega)
end Go.Proofs.YtcigobiolbojhaaGreat.Vb

/- Law 29: an Ask that came in; how many lists it holds. -/
namespace Go.Proofs.YtcigobiolbojhaaGreat.Vb
open Go.RowKit Go.WideShapes Go.ChangeShapes Go.ChangeAt Go.Joins Go.Deep

theorem array6 {α : Type} {cs : Array α} (h : cs.size = 6) : ∃ c0 c1 c2 c3 c4 c5, cs = #[c0, c1, c2, c3, c4, c5] := by
  obtain ⟨l⟩ := cs
  match l, h with
  | [c0, c1, c2, c3, c4, c5], _ => exact ⟨c0, c1, c2, c3, c4, c5, rfl⟩
theorem list5 {α : Type} {l : List α} (h : l.length = 5) : ∃ c0 c1 c2 c3 c4, l = [c0, c1, c2, c3, c4] := by
  match l, h with
  | [c0, c1, c2, c3, c4], _ => exact ⟨c0, c1, c2, c3, c4, rfl⟩
theorem bulk_len {H : Type} (l : List (DataW H)) : l.length ≤ Rows.uptoBulkAll l := by
  induction l with
  | nil => simp [Rows.uptoBulkAll]
  | cons x r ih =>
    have : 1 ≤ Rows.uptoBulk x := by
      cases x with
      | lit l => cases l <;> simp [Rows.uptoBulk]
      | nil => simp [Rows.uptoBulk]
      | ptr d => simp [Rows.uptoBulk]
      | slice elems spare => simp [Rows.uptoBulk]
      | agg parts => simp [Rows.uptoBulk]
      | iface t d => simp [Rows.uptoBulk]
      | map entries => simp [Rows.uptoBulk]
      | held h => simp [Rows.uptoBulk]
    simp only [Rows.uptoBulkAll, List.length_cons]
    omega
theorem slice_bulk {H : Type} {enc : TypeId × Value → H} {P : Program} {w : World} {base : Nat} {held : Bool} {t e : TypeId} {fuel n c : Nat} {A : Option Addr} {x : DataW H × List MemPlace} (ht : P.underlying t = some (.slice e))
    (h : DataW.trod enc P w base (fun _ => true) held fuel t [.slice A n c] = some x) : n ≤ Rows.uptoBulk x.1 := by
  rcases open_slice ht h with ⟨hcs, _⟩ | ⟨a, len, cap, m, k, D, Pl, hcs, _, hl, hm, hmm, hx, _⟩
  · simp at hcs
    omega
  · simp at hcs
    subst hx
    have h1 := bulk_len ((List.range len).map D)
    simp only [Rows.uptoBulk]
    simp at h1
    omega

set_option maxRecDepth 100000 in
set_option maxHeartbeats 1600000 in
theorem open_ask {H : Type} {enc : TypeId × Value → H} {w : World} {base : Nat} {held : Bool} {r : Reach} {b0 : Nat} {v : Value} {d : DataW H} {p : List MemPlace}
    (hv : Value.okWide Tryz.prog w r b0 28 v) (h : DataW.Trod enc Tryz.prog w base (fun _ => true) held 28 v d p) :
    ∃ (n : Int) (bs : List (List Off)) (buyer r : Int) (tr : List Off) (ts : List (List Off)) (vb vt vs : Value), v = .agg #[.int .i64 n, vb, .int .i64 buyer, .int .i64 r, vt, vs] ∧ Buys w (fun _ => True) vb bs ∧ Offs w (fun _ => True) vt tr ∧ Buys w (fun _ => True) vs ts ∧
      (-9223372036854775808 ≤ buyer ∧ buyer ≤ 9223372036854775807) ∧ (-9223372036854775808 ≤ r ∧ r ≤ 9223372036854775807) ∧ bs.length ≤ Rows.uptoBulk d ∧ ts.length ≤ Rows.uptoBulk d := by
  obtain ⟨cs, rfl, hsz⟩ := okWide_struct Tryz.underlying28 hv
  obtain ⟨c0, c1, c2, c3, c4, c5, rfl⟩ := array6 (hsz.trans (show Tryz.prog.cellsOf 28 = 6 by kernel_rfl))
  obtain ⟨fuel, hf⟩ := h
  obtain ⟨xs, m, _, hx, _, hlen, hff⟩ := DataW.trod_struct Tryz.underlying28 hf
  obtain ⟨y0, y1, y2, y3, y4, rfl⟩ := list5 (l := xs) (by simpa using hlen)
  have k24 : Tryz.prog.cellsOf 24 = 2 := by kernel_rfl
  have k3 : Tryz.prog.cellsOf 3 = 1 := by kernel_rfl
  have k25 : Tryz.prog.cellsOf 25 = 1 := by kernel_rfl
  have k26 : Tryz.prog.cellsOf 26 = 1 := by kernel_rfl
  have k22 : Tryz.prog.cellsOf 22 = 1 := by kernel_rfl
  have h0 := hff 0 _ rfl
  have h1 := hff 1 _ rfl
  have h2 := hff 2 _ rfl
  have h3 := hff 3 _ rfl
  have h4 := hff 4 _ rfl
  simp [Value.cells, k24] at h0
  simp [Value.cells, k3] at h1
  simp [Value.cells, k25] at h2
  simp [Value.cells, k26] at h3
  simp [Value.cells, k22] at h4
  obtain ⟨z0, z1, m2, hz, _, g0, g1⟩ := trod_struct2 Tryz.underlying24 h0
  simp [k3] at g0
  simp [k22] at g1
  obtain ⟨n, e0, _, w0⟩ := DataW.trod_int Tryz.underlying3 g0
  obtain ⟨bu, e1, _, w1⟩ := DataW.trod_int Tryz.underlying3 h1
  obtain ⟨ru, e2, _, w2⟩ := DataW.trod_int Tryz.underlying25 h2
  simp at e0 e1 e2
  subst e0 e1 e2
  obtain ⟨bs, hbs⟩ := open_buys Tryz.underlying22 (by kernel_rfl) Tryz.underlying26 Tryz.underlying53 (by kernel_rfl) (by kernel_rfl) rfl rfl (by kernel_rfl) (by kernel_rfl) (by kernel_rfl) g1
  obtain ⟨ts, hts⟩ := open_buys Tryz.underlying22 (by kernel_rfl) Tryz.underlying26 Tryz.underlying53 (by kernel_rfl) (by kernel_rfl) rfl rfl (by kernel_rfl) (by kernel_rfl) (by kernel_rfl) h4
  obtain ⟨tr, htr⟩ := open_offs Tryz.underlying26 Tryz.underlying53 (by kernel_rfl) (by kernel_rfl) rfl rfl (by kernel_rfl) (by kernel_rfl) (by kernel_rfl) h3
  obtain ⟨_, ⟨_, Ab, cb, hvb, _⟩, _⟩ := id hbs
  obtain ⟨_, ⟨_, At, ct, hvt, _⟩, _⟩ := id hts
  subst hvb hvt
  have hb1 := slice_bulk Tryz.underlying22 g1
  have hb2 := slice_bulk Tryz.underlying22 h4
  subst hz
  simp only [List.map_cons, List.map_nil, Prod.mk.injEq] at hx
  obtain ⟨rfl, _⟩ := hx
  refine ⟨n, bs, bu, ru, tr, ts, _, c4, _, rfl, hbs, htr, hts, bd_i64 w1, bd_i64 w2, ?_, ?_⟩
  · simp only [Rows.uptoBulk, Rows.uptoBulkAll]
    omega
  · simp only [Rows.uptoBulk, Rows.uptoBulkAll]
    omega
end Go.Proofs.YtcigobiolbojhaaGreat.Vb

/- truth.Tries' iterator. -/
namespace Go.Proofs.YtcigobiolbojhaaGreat.Vb
open Go.RowKit Go.Shelf
attribute [local go_sem] Oper.semAt_some

/-- each try's number and what it gains -/
def gainsZ (n : Int) (bs : List (List Off)) (k : Nat) (r : Int) (tr : List Off) (ts : List (List Off)) : List (Int × Int) := ts.mapIdx fun i l => ((i : Int), byV n bs k r tr l)
theorem gainsZ_len (n : Int) (bs : List (List Off)) (k : Nat) (r : Int) (tr : List Off) (ts : List (List Off)) : (gainsZ n bs k r tr ts).length = ts.length := by simp [gainsZ]
theorem gainsZ_get {n : Int} {bs : List (List Off)} {k : Nat} {r : Int} {tr : List Off} {ts : List (List Off)} {i : Nat} {l : List Off} (h : ts[i]? = some l) : (gainsZ n bs k r tr ts)[i]? = some ((i : Int), byV n bs k r tr l) := by simp [gainsZ, h]

set_option maxRecDepth 100000 in
set_option maxHeartbeats 2000000 in
theorem tries1_in (nn : Nat) (hn : 1 ≤ nn) (l lo hi g14 g12 : Nat) (n : Int) (bs : List (List Off)) (k : Nat) (r : Int) (tr : List Off) (ts : List (List Off)) (hts : ts.length ≤ 1000000)
    (hr : r = 1 ∨ r = 2) (hinst : instE n bs = 0) (hk : k < bs.length) (hck : ∀ l ∈ ts, checkE n l = 0) (J Jx : List (Int × Int) → World → Prop) (W : World) (hhi : hi ≤ W.heap.size) (hJ : AbidesFrom W.heap.size J)
    (hY : ∀ pre x W1, J pre W1 → pre ++ [x] <+: gainsZ n bs k r tr ts → pre.length < ts.length → YieldAt Fence.wide (nn - 1) Tryz.prog l #[.int .i64 x.1, .int .i64 x.2] W1 fun e W' =>
      (e = .returned (.bool true) ∧ J (pre ++ [x]) W' ∧ KeepR lo hi W1 W') ∨ (e = .returned (.bool false) ∧ Jx (pre ++ [x]) W'))
    (hT : TrC W (fun b => lo ≤ b ∧ b < hi) g14 g12 n bs k r tr ts) (h0 : J [] W) :
    CallsIn Fence.wide nn Tryz.prog 21 #[.func (.yield l) #[] #[], .pointer (some ⟨g14, 0, none⟩), .pointer (some ⟨g12, 0, none⟩)] W fun e W' => (∃ v, e = .returned v) ∧
      ((∃ ys, ys = gainsZ n bs k r tr ts ∧ J ys W') ∨ (∃ pre, pre <+: gainsZ n bs k r tr ts ∧ Jx pre W')) := by
  refine callsIn_of_wp Tryz.func21 rfl trivial ?_ rfl
  obtain ⟨A, c, hg14, hbu⟩ := hT.own
  have hl14 := hT.l14
  have hl12 := hT.l12
  have x14 : W.cell? ⟨g14, 0, none⟩ = some (.slice A ts.length c) := hg14.cell 0
  have HT := Lib.hid hT
  have HY := Lib.hid hY
  have HJA := Lib.hid hJ
  have HR := Lib.hid hr
  have HI := Lib.hid hinst
  have HCK := Lib.hid hck
  have HBU := Lib.hid hbu
  clear hT hY hJ hr hinst hck hg14 hbu
  simp only [Tryz.ntmps21, List.size_toArray, List.length_cons, List.length_nil, Nat.reduceAdd, Nat.reduceSub, Array.replicate_succ, Array.replicate_zero, List.push_toArray, List.append_toArray, List.nil_append, List.cons_append]
  gi_wp2
  clear x14
  gi_loopw [8] (fun i wr => ∃ j : Nat, j ≤ ts.length ∧ i = .int .i64 j ∧ J ((gainsZ n bs k r tr ts).take j) wr ∧ KeepR lo hi W wr) (fun i _ => ts.length - (intOf i).toNat)
  case atStart => exact ⟨0, Nat.zero_le _, rfl, h0, KeepR.refl _ _ _⟩
  case round =>
    obtain ⟨j, hj, rfl, hJs, hnx⟩ := hrel
    have hkeep : TrC wr (fun b => lo ≤ b ∧ b < hi) g14 g12 n bs k r tr ts := HT.out.keep hnx.size fun b _ hb => hnx.same b hb.1 hb.2
    have hbr : Buys wr (fun b => lo ≤ b ∧ b < hi) (.slice A ts.length c) ts := HBU.out.keep hnx.size fun b _ hb => hnx.same b hb.1 hb.2
    have HJ := Lib.hid hJs
    have HNX := Lib.hid hnx
    have hsz := hnx.size
    clear hJs
    by_cases hlt : j < ts.length
    · obtain ⟨b5, b6, b12, b8, vb, vt, hA, hf⟩ := hkeep.ask
      have x12 : wr.cell? ⟨g12, 0, none⟩ = some (fnV b5 b6 b12 b8) := hf.cell 0
      obtain ⟨tl, htl⟩ : ∃ tl, ts[j]? = some tl := ⟨_, List.getElem?_eq_getElem hlt⟩
      obtain ⟨bq, of, u, rfl, _, hcu, hou⟩ := hbr.at_ htl
      obtain ⟨⟨_, Au, cu, rfl, _⟩, _⟩ := id hou
      have HA := Lib.hid hA
      have HOU := Lib.hid hou
      have HTL := Lib.hid htl
      have e0 : (0 : Int) ≤ (j : Int) := by omega
      have e1 : (j : Int) < (ts.length : Int) := by omega
      clear hA hf hou htl hbr hkeep hnx
      unfold fnV at x12
      gi_wp2
      refine ⟨trivial, (callsIn_wide.2 (asked1_any _ b5 b6 b12 b8 n bs k r tr tl vb vt _ _ wr HA.out HR.out HI.out hk HOU.out (HCK.out tl (List.mem_of_getElem? HTL.out)))).mono ?_⟩
      rintro e w2 ⟨rfl, hb2⟩
      obtain ⟨gv, hgv⟩ : ∃ z, z = byV n bs k r tr tl := ⟨_, rfl⟩
      rw [← hgv]
      have hget : (gainsZ n bs k r tr ts)[j]? = some ((j : Int), gv) := by rw [hgv]; exact gainsZ_get HTL.out
      have hsu : (gainsZ n bs k r tr ts).take (j + 1) = (gainsZ n bs k r tr ts).take j ++ [((j : Int), gv)] := by rw [List.take_add_one, hget]; rfl
      have HSU := Lib.hid hsu
      have HN2 := Lib.hid (HNX.out.grown (grownBy_of_below hb2 none) (by omega))
      have hlj : ((gainsZ n bs k r tr ts).take j).length < ts.length := by rw [List.length_take, gainsZ_len]; omega
      obtain ⟨fn, tmps, assign, body, hy, hRR⟩ := HY.out _ ((j : Int), gv) w2 (HJA.out _ wr w2 none HJ.out (grownBy_of_below hb2 none) (fun r e => by cases e)) (by rw [← hsu]; exact List.take_prefix _ _) hlj
      dsimp only at hy
      have HRR := Lib.hid hRR
      clear hgv hget hsu hb2 hlj hRR
      gi_wp2
      refine HRR.out.mono ?_
      rintro e W3 (⟨rfl, hJ3, hk3⟩ | ⟨rfl, hJx3⟩)
      · gi_wp2
        go_roundw
        case rel => exact ⟨j + 1, by omega, by go_num, by rw [HSU.out]; exact hJ3, HN2.out.trans hk3⟩
        case measure => simp [intOf]; omega
      · gi_wp2
        refine bodyPost_ret (results_none rfl _ _ _) rfl ?_
        exact ⟨⟨_, rfl⟩, .inr ⟨_, by rw [← HSU.out]; exact List.take_prefix _ _, hJx3⟩⟩
    · obtain rfl : j = ts.length := by omega
      clear hbr hkeep hnx
      gi_wp2
      go_end0
      have := HJ.out
      rw [List.take_of_length_le (by rw [gainsZ_len]; exact Nat.le_refl _)] at this
      exact ⟨⟨_, rfl⟩, .inl ⟨_, rfl, this⟩⟩

theorem tries1_stops (nn : Nat) (hn : 1 ≤ nn) (lo hi g14 g12 : Nat) (n : Int) (bs : List (List Off)) (k : Nat) (r : Int) (tr : List Off) (ts : List (List Off)) (hts : ts.length ≤ 1000000)
    (hr : r = 1 ∨ r = 2) (hinst : instE n bs = 0) (hk : k < bs.length) (hck : ∀ l ∈ ts, checkE n l = 0) (w : World) (hhi : hi ≤ w.heap.size) (hT : TrC w (fun b => lo ≤ b ∧ b < hi) g14 g12 n bs k r tr ts) :
    SeqStopsV Fence.wide nn Tryz.prog 21 #[.pointer (some ⟨g14, 0, none⟩), .pointer (some ⟨g12, 0, none⟩)] (fun x : Int × Int => #[Value.int .i64 x.1, Value.int .i64 x.2]) (KeepR lo hi) (fun _ _ _ => True) (fun ys => ys = gainsZ n bs k r tr ts) (fun pre => pre <+: gainsZ n bs k r tr ts) ts.length w := fun l J Jx W hW hJ _ hY h0 =>
  tries1_in nn hn l lo hi g14 g12 n bs k r tr ts hts hr hinst hk hck J Jx W (Nat.le_trans hhi hW.size) hJ (fun pre x W1 h1 h2 h3 => hY pre x W1 h1 trivial h2 h3) (hT.keep hW.size fun b hb _ => hW.block b hb) h0
end Go.Proofs.YtcigobiolbojhaaGreat.Vb

/- truth.Regret. -/
namespace Go.Proofs.YtcigobiolbojhaaGreat.Vb
open Go.RowKit Go.Shelf
attribute [local go_sem] Oper.semAt_some

theorem wp_quietP {P : Program} {c : Code} {Q : Exit → Act → World → Prop} {a : Act} {w : World} (h : c.wp P (fun e a w => match e with | .panic _ => False | e => Q e a w) a w) : c.wp P Q a w :=
  wp_mono h fun e a w h => by
    cases e with
    | panic c => exact h.elim
    | _ => exact h

/-- the best try so far: what it gains, its number -/
def bestZ (own : Int) (l : List (Int × Int)) : Int × Int := l.foldl (fun a x => if a.1 < x.2 then (x.2, x.1) else a) (own, -1)
theorem bestZ_snoc (own : Int) (l : List (Int × Int)) (x : Int × Int) : bestZ own (l ++ [x]) = if (bestZ own l).1 < x.2 then (x.2, x.1) else bestZ own l := by
  unfold bestZ
  rw [List.foldl_append]
  rfl
structure RegI (bB bA : Nat) (own : Int) (pre : List (Int × Int)) (W : World) : Prop where
  b : Blk W bB 2 #[.int .i64 (bestZ own pre).1]
  a : Blk W bA 3 #[.int .i64 (bestZ own pre).2]
theorem RegI.own (bB bA : Nat) (ow : Int) : Own (RegI bB bA ow) := fun _ _ _ _ h hg hr => ⟨h.b.cells hg hr, h.a.cells hg hr⟩

def regretV (n : Int) (bs : List (List Off)) (buyer r : Int) (tr : List Off) (ts : List (List Off)) : Value :=
  if askedE n bs buyer r (tr :: ts) = 0 then .tuple #[.int .i64 (wrap64 ((bestZ (byV n bs buyer.toNat r tr tr) (gainsZ n bs buyer.toNat r tr ts)).1 - byV n bs buyer.toNat r tr tr)), .int .i64 (bestZ (byV n bs buyer.toNat r tr tr) (gainsZ n bs buyer.toNat r tr ts)).2, .int .i64 0]
  else .tuple #[.int .i64 0, .int .i64 0, .int .i64 (askedE n bs buyer r (tr :: ts))]

set_option maxRecDepth 100000 in
set_option maxHeartbeats 4000000 in
theorem regret_err (n : Int) (bs : List (List Off)) (buyer r : Int) (tr : List Off) (ts : List (List Off)) (v vt vs : Value) (R Rt Rs : Nat → Prop) (w : World) (hl : Buys w R v bs) (ht : Offs w Rt vt tr) (hs : Buys w Rs vs ts)
    (hts : ts.length ≤ 1000000) (hz9 : askedE n bs buyer r (tr :: ts) ≠ 0) (hb : -9223372036854775808 ≤ buyer ∧ buyer ≤ 9223372036854775807) (hr : -9223372036854775808 ≤ r ∧ r ≤ 9223372036854775807) :
    Calls Tryz.prog 9 #[.agg #[.int .i64 n, v], .int .i64 buyer, .int .i64 r, vt, vs] w fun e w' => e = .returned (regretV n bs buyer r tr ts) ∧ Below w.heap.size w w' := by
  obtain ⟨_, ⟨_, A, cap, rfl, _⟩, _⟩ := id hl
  obtain ⟨⟨_, At, capt, rfl, _⟩, _⟩ := id ht
  obtain ⟨_, ⟨_, As, caps, rfl, _⟩, _⟩ := id hs
  have HB := Lib.hid hl
  have HT := Lib.hid ht
  have HS := Lib.hid hs
  have hbd := askedE_bd n bs buyer r (tr :: ts)
  obtain ⟨z, hz⟩ : ∃ z, z = askedE n bs buyer r (tr :: ts) := ⟨_, rfl⟩
  obtain ⟨ans, hans⟩ : ∃ a, a = regretV n bs buyer r tr ts := ⟨_, rfl⟩
  rw [← hans]
  have HANS := Lib.hid hans
  rw [← hz] at hbd
  have HZ := Lib.hid hz
  have HZ9 := Lib.hid hz9
  clear hl ht hs hz hans hz9
  go_enter Tryz.func9, Tryz.ntmps9
  go_wp2_with fail
  refine (asked29_any n bs buyer r tr ts _ _ _ R Rt Rs (w.alloc (.cells #[.int .i64 n, .slice A bs.length cap] 24)) (HB.out.alloc _) (HT.out.alloc _) (HS.out.alloc _) hts hb hr).mono ?_
  rintro e w1 ⟨hb1, hcase⟩
  have HX1 := Lib.hid ((Blk.new w 24 #[.int .i64 n, .slice A bs.length cap]).grow hb1)
  have HB1 := Lib.hid (((Below.refl w.heap.size w).alloc (Nat.le_refl _) (.cells #[.int .i64 n, .slice A bs.length cap] 24)).trans (hb1.mono (by simp)))
  clear hb1
  rw [← HZ.out] at hcase
  rcases hcase with ⟨hne, rfl⟩ | ⟨h0, k, b5, b6, b12, b8, vb, vt', hbk, hA, rfl⟩
  · have hcb : (z != 0) = true := by simpa using hne
    have HA := Lib.hid (show ans = .tuple #[.int .i64 0, .int .i64 0, .int .i64 z] from by rw [HANS.out]; unfold regretV; rw [← HZ.out, if_neg hne])
    clear hne
    go_wp2_with fail
    exact bodyPost_ret (v := .tuple #[.int .i64 0, .int .i64 0, .int .i64 z]) (by simp [results, Tryz.results9, go_sem]) rfl ⟨by rw [HA.out], HB1.out⟩
  · exact absurd (HZ.out.symm.trans h0) HZ9.out

set_option maxRecDepth 100000 in
set_option maxHeartbeats 4000000 in
theorem regret_any (n : Int) (bs : List (List Off)) (buyer r : Int) (tr : List Off) (ts : List (List Off)) (v vt vs : Value) (R Rt Rs : Nat → Prop) (w : World) (hl : Buys w R v bs) (ht : Offs w Rt vt tr) (hs : Buys w Rs vs ts)
    (hts : ts.length ≤ 1000000) (hb : -9223372036854775808 ≤ buyer ∧ buyer ≤ 9223372036854775807) (hr : -9223372036854775808 ≤ r ∧ r ≤ 9223372036854775807) :
    Calls Tryz.prog 9 #[.agg #[.int .i64 n, v], .int .i64 buyer, .int .i64 r, vt, vs] w fun e w' => e = .returned (regretV n bs buyer r tr ts) ∧ Below w.heap.size w w' := by
  obtain ⟨_, ⟨_, A, cap, rfl, _⟩, _⟩ := id hl
  obtain ⟨⟨_, At, capt, rfl, _⟩, _⟩ := id ht
  obtain ⟨_, ⟨_, As, caps, rfl, _⟩, _⟩ := id hs
  have HB := Lib.hid hl
  have HT := Lib.hid ht
  have HS := Lib.hid hs
  by_cases hz9 : askedE n bs buyer r (tr :: ts) ≠ 0
  · exact regret_err n bs buyer r tr ts _ _ _ R Rt Rs w HB.out HT.out HS.out hts hz9 hb hr
  have hbd := askedE_bd n bs buyer r (tr :: ts)
  obtain ⟨z, hz⟩ : ∃ z, z = askedE n bs buyer r (tr :: ts) := ⟨_, rfl⟩
  obtain ⟨ans, hans⟩ : ∃ a, a = regretV n bs buyer r tr ts := ⟨_, rfl⟩
  rw [← hans]
  have HANS := Lib.hid hans
  rw [← hz] at hbd
  have HZ := Lib.hid hz
  clear hl ht hs hz hans
  refine (callsIn_wide (n := 3)).1 (callsIn_of_wp_marks Tryz.func9 rfl trivial ((wpIn_wide (n := 3)).2 ?_))
  simp only [Tryz.ntmps9, List.size_toArray, List.length_cons, List.length_nil, Nat.reduceAdd, Nat.reduceSub, Array.replicate_succ, Array.replicate_zero, List.push_toArray, List.append_toArray, List.nil_append, List.cons_append]
  go_wp2_with fail
  refine (asked29_any n bs buyer r tr ts _ _ _ R Rt Rs (w.alloc (.cells #[.int .i64 n, .slice A bs.length cap] 24)) (HB.out.alloc _) (HT.out.alloc _) (HS.out.alloc _) hts hb hr).mono ?_
  rintro e w1 ⟨hb1, hcase⟩
  have HX1 := Lib.hid ((Blk.new w 24 #[.int .i64 n, .slice A bs.length cap]).grow hb1)
  have HB1 := Lib.hid (((Below.refl w.heap.size w).alloc (Nat.le_refl _) (.cells #[.int .i64 n, .slice A bs.length cap] 24)).trans (hb1.mono (by simp)))
  clear hb1
  rw [← HZ.out] at hcase
  rcases hcase with ⟨hne, rfl⟩ | ⟨h0, k, b5, b6, b12, b8, vb, vt', hbk, hA, rfl⟩
  · exact absurd (HZ.out.symm) (fun h => hz9 (fun h1 => hne (h.symm.trans h1)))
  · subst h0
    obtain ⟨h1, h2, h3, h4, h5⟩ := askedE_zero HZ.out.symm
    have hk : k < bs.length := by omega
    obtain ⟨ow, how⟩ : ∃ z, z = byV n bs k r tr tr := ⟨_, rfl⟩
    obtain ⟨gz, hgz⟩ : ∃ z, z = gainsZ n bs k r tr ts := ⟨_, rfl⟩
    have HAN := Lib.hid (show ans = .tuple #[.int .i64 (wrap64 ((bestZ ow gz).1 - ow)), .int .i64 (bestZ ow gz).2, .int .i64 0] from by rw [HANS.out]; unfold regretV; rw [← HZ.out, if_pos rfl, hbk, Int.toNat_natCast, how, hgz])
    have HA := Lib.hid hA
    have HI := Lib.hid h1
    have HR := Lib.hid h4
    have HOW := Lib.hid how
    have HGZ := Lib.hid hgz
    have HCT := Lib.hid (h5 tr (by simp))
    have HCK := Lib.hid (fun l hl => h5 l (List.mem_cons_of_mem _ hl) : ∀ l ∈ ts, checkE n l = 0)
    subst hbk
    clear h1 h2 h3 h4 h5 hA hbd how hgz
    have hx0 : w1.cell? ⟨w.heap.size, 0, none⟩ = some (.int .i64 n) := HX1.out.cell 0
    go_wp2_with fail
    refine (asked1_any _ b5 b6 b12 b8 n bs k r tr tr vb vt' _ Rt w1 HA.out HR.out HI.out hk (HT.out.grow HB1.out) HCT.out).mono ?_
    rintro e w2 ⟨rfl, hb2⟩
    rw [← HOW.out]
    have hal : Below w1.heap.size w1 ((w2.alloc (.cells #[.int .i64 ow] 2)).alloc (.cells #[.int .i64 (-1)] 3)) := (hb2.alloc hb2.size _).alloc (by have := hb2.size; simp; omega) _
    have hx0 : ((w2.alloc (.cells #[.int .i64 ow] 2)).alloc (.cells #[.int .i64 (-1)] 3)).cell? ⟨w.heap.size, 0, none⟩ = some (.int .i64 n) := (HX1.out.grow hal).cell 0
    have hx1 : ((w2.alloc (.cells #[.int .i64 ow] 2)).alloc (.cells #[.int .i64 (-1)] 3)).cell? ⟨w.heap.size, 1, none⟩ = some (.slice A bs.length cap) := (HX1.out.grow hal).cell 1
    have hq : Blk ((w2.alloc (.cells #[.int .i64 ow] 2)).alloc (.cells #[.int .i64 (-1)] 3)) w2.heap.size 2 #[.int .i64 ow] := (Blk.new' _ _ rfl).alloc _
    have hq2 : Blk ((w2.alloc (.cells #[.int .i64 ow] 2)).alloc (.cells #[.int .i64 (-1)] 3)) (w2.heap.size + 1) 3 #[.int .i64 (-1)] := Blk.new' _ _ (by simp)
    have hs3 : ((w2.alloc (.cells #[.int .i64 ow] 2)).alloc (.cells #[.int .i64 (-1)] 3)).heap.size = w2.heap.size + 2 := by simp
    have HAL := Lib.hid hal
    have HQ := Lib.hid hq
    have HQ2 := Lib.hid hq2
    have HS3 := Lib.hid hs3
    have hw2 := (HB1.out.trans (hb2.mono HB1.out.size)).size
    clear hb2 hal hq hq2 hs3
    go_wp2_with fail
    obtain ⟨W3, hW3⟩ : ∃ V, V = (w2.alloc (.cells #[.int .i64 ow] 2)).alloc (.cells #[.int .i64 (-1)] 3) := ⟨_, rfl⟩
    rw [← hW3] at hx0 hx1 ⊢
    have HQ := Lib.hid (show Blk W3 w2.heap.size 2 #[.int .i64 ow] from by rw [hW3]; exact HQ.out)
    have HQ2 := Lib.hid (show Blk W3 (w2.heap.size + 1) 3 #[.int .i64 (-1)] from by rw [hW3]; exact HQ2.out)
    have HB3 := Lib.hid (show Below w.heap.size w W3 from by rw [hW3]; exact HB1.out.trans (HAL.out.mono HB1.out.size))
    have hs3 : W3.heap.size = w2.heap.size + 2 := by rw [hW3]; exact HS3.out
    clear hW3 HAL HS3 hx0 hx1
    refine (tries_any n bs (k : Int) r tr ts _ _ _ R Rt Rs W3 (HB.out.grow HB3.out) (HT.out.grow HB3.out) (HS.out.grow HB3.out) hts hb hr).mono ?_
    rintro e w4 ⟨hb4, ⟨hne, rfl⟩ | ⟨_, k', g14, g12, hkk, hTr, rfl⟩⟩
    · exact absurd HZ.out.symm hne
    · obtain rfl : k = k' := by omega
      have HTr := Lib.hid (hTr.mono (R1 := fun b => W3.heap.size ≤ b ∧ b < w4.heap.size) (fun b hb h => ⟨h, hb⟩))
      have HQ4 := Lib.hid (HQ.out.grow hb4)
      have HQ5 := Lib.hid (HQ2.out.grow hb4)
      have HB4 := Lib.hid (HB3.out.trans (hb4.mono HB3.out.size))
      have hs4 := hb4.size
      unfold itV
      clear hkk hTr hb4
      go_wp2_with fail
      refine (wpIn_wide (n := 3)).1 ?_
      refine' wpIn_rangeFunc_V (F := Fence.wide) (n := 3) rfl (by omega) (gf := 21) (lb := #[.pointer (some ⟨g14, 0, none⟩), .pointer (some ⟨g12, 0, none⟩)]) rfl trivial (enters_of Tryz.func21 (by kernel_rfl) rfl)
        (tries1_stops 2 (by omega) W3.heap.size w4.heap.size g14 g12 n bs k r tr ts hts HR.out HI.out hk HCK.out w4 (Nat.le_refl _) HTr.out) keepR_t (keepR_b (Nat.le_refl _)) (Below.refl _ _) (fun _ => rfl) (fun _ _ _ _ _ _ _ => trivial)
        (fun pre W => RegI w2.heap.size (w2.heap.size + 1) ow pre W ∧ Below w.heap.size w W)
        (fun _ _ _ => False)
        (OwnFrom.and (Own.from (RegI.own _ _ _) _) (ownFrom_below (Nat.le_refl _) (by omega)))
        (fun c => fun _ _ _ _ h _ _ => h)
        ⟨⟨HQ4.out, HQ5.out⟩, HB4.out⟩ _ ?assign ?body ?done ?stop
      case assign =>
        intro l x W K hK
        gi_wp2
        exact hK
      case body =>
        rintro l pre x W ⟨hI, hB⟩ _ hsp hlt2
        obtain ⟨xa, xb⟩ := x
        obtain ⟨zb, hzb⟩ : ∃ z, z = bestZ ow pre := ⟨_, rfl⟩
        have hsn := bestZ_snoc ow pre (xa, xb)
        rw [← hzb] at hsn
        have hIb := hI.b
        have hIa := hI.a
        rw [← hzb] at hIb hIa
        obtain ⟨z1, z2⟩ := zb
        have p0 : W.cell? ⟨w2.heap.size, 0, none⟩ = some (.int .i64 z1) := hIb.cell 0
        have p1 : W.frozen? ⟨w2.heap.size, 0, none⟩ = false := hIb.frozen 0
        have p2 : W.cell? ⟨w2.heap.size + 1, 0, none⟩ = some (.int .i64 z2) := hIa.cell 0
        have p3 : W.frozen? ⟨w2.heap.size + 1, 0, none⟩ = false := hIa.frozen 0
        have HIB := Lib.hid hIb
        have HIA := Lib.hid hIa
        have HSN := Lib.hid hsn
        have HBB := Lib.hid hB
        clear hI hB hsp hlt2 hIb hIa hsn hzb
        dsimp only
        by_cases hgt : z1 < xb
        · gi_wp2
          have hnew : bestZ ow (pre ++ [(xa, xb)]) = (xb, xa) := by rw [HSN.out, if_pos hgt]
          refine ⟨(KeepsOthers.setCell _ _ _).trans (KeepsOthers.setCell _ _ _), (KeepR.set W (.inl (by simp <;> omega)) _).trans (KeepR.set _ (.inl (by simp <;> omega)) _), ⟨?_, ?_⟩, (HBB.out.setCell (p := ⟨w2.heap.size, 0, none⟩) (by simp; omega) _).setCell (p := ⟨w2.heap.size + 1, 0, none⟩) (by simp; omega) _⟩
          · rw [hnew]
            exact (HIB.out.set_ 0 (.int .i64 xb)).far (by simp) _
          · rw [hnew]
            exact (HIA.out.far (by simp) _).set_ 0 (.int .i64 xa)
        · have hnew : bestZ ow (pre ++ [(xa, xb)]) = (z1, z2) := by rw [HSN.out, if_neg hgt]
          have HNW := Lib.hid hnew
          clear hnew
          gi_wp2
          refine ⟨KeepsOthers.refl _, KeepR.refl _ _ _, ⟨?_, ?_⟩, HBB.out⟩
          · rw [HNW.out]; exact HIB.out
          · rw [HNW.out]; exact HIA.out
      case done =>
        rintro D ys W hD hys ⟨hI, hB⟩ hK
        rw [← HGZ.out] at hys
        subst hys
        have p0 : W.cell? ⟨w2.heap.size, 0, none⟩ = some (.int .i64 (bestZ ow ys).1) := hI.b.cell 0
        have p2 : W.cell? ⟨w2.heap.size + 1, 0, none⟩ = some (.int .i64 (bestZ ow ys).2) := hI.a.cell 0
        have HBB := Lib.hid hB
        have HK := Lib.hid hK
        clear hI hB hK
        go_wp2_with fail
        refine wp_quietP ?_
        go_quiet (fail)
        go_wp2_with fail
        refine ⟨by simp, .inl ⟨_, _, rfl, run_takeDeferred HK.out, ?_⟩⟩
        refine ⟨.tuple #[.int .i64 (wrap64 ((bestZ ow ys).1 - ow)), .int .i64 (bestZ ow ys).2, .int .i64 0], by simp [results, Tryz.results9, go_sem], by rw [HAN.out], (below_drewN HBB.out nq).trans (belowK_b (w := w) (Nat.le_refl _) (W.drewN nq) D _ _ (by omega) HK.out rfl rfl)⟩
      case stop =>
        rintro D c pre W hD hpre2 hf hK
        exact hf.elim
end Go.Proofs.YtcigobiolbojhaaGreat.Vb

/- Law 29's own: three, works: the numbers. -/
namespace Go.Proofs.YtcigobiolbojhaaGreat.Vb
open Go.RowKit

def bs29 : List (List Off) := [[⟨1, 10⟩], [⟨2, 10⟩], [⟨3, 10⟩]]

theorem three_buys29 {w : World} {g g1 g2 g3 : Nat} {t u : TypeId} (h1 : Blk w g1 t #[.int .u32 1, .int .i64 10]) (h2 : Blk w g2 t #[.int .u32 2, .int .i64 10]) (h3 : Blk w g3 t #[.int .u32 3, .int .i64 10])
    (h : Blk w g u #[.slice (some ⟨g1, 0, none⟩) 1 1, .slice (some ⟨g2, 0, none⟩) 1 1, .slice (some ⟨g3, 0, none⟩) 1 1]) : Buys w (fun _ => True) (.slice (some ⟨g, 0, none⟩) 3 3) bs29 := by
  refine ⟨_, Sl.blk (sz := 1) h (by omega) (by unfold maxLen; omega) rfl, fun k l hk => ?_⟩
  rcases k with _ | _ | _ | k
  · obtain rfl : [⟨1, 10⟩] = l := by simpa [bs29] using hk
    exact ⟨_, rfl, Sl.blk (sz := 2) h1 (by omega) (by unfold maxLen; omega) rfl, fun o ho => by simp at ho; subst ho; simp [Off.wf]⟩
  · obtain rfl : [⟨2, 10⟩] = l := by simpa [bs29] using hk
    exact ⟨_, rfl, Sl.blk (sz := 2) h2 (by omega) (by unfold maxLen; omega) rfl, fun o ho => by simp at ho; subst ho; simp [Off.wf]⟩
  · obtain rfl : [⟨3, 10⟩] = l := by simpa [bs29] using hk
    exact ⟨_, rfl, Sl.blk (sz := 2) h3 (by omega) (by unfold maxLen; omega) rfl, fun o ho => by simp at ho; subst ho; simp [Off.wf]⟩
  · simp [bs29] at hk

set_option maxHeartbeats 800000 in
theorem three29_any (w : World) :
    Calls Tryz.prog 17 #[] w fun e w' => ∃ A cap, e = .returned (.agg #[.int .i64 2, .slice A 3 cap]) ∧ Buys w' (fun _ => True) (.slice A 3 cap) bs29 ∧ Below w.heap.size w w' := by
  go_enter Tryz.func17, Tryz.ntmps17
  go_wp2
  refine bodyPost_ret (v := .agg #[.int .i64 2, .slice (some ⟨w.heap.size + 1 + 1 + 1 + 1, 0, none⟩) 3 3]) (by simp [results, Tryz.results17, go_sem]) rfl ⟨_, _, rfl, three_buys29 (((Blk.new' _ _ (by simp)).alloc _).alloc _ |>.alloc _) (((Blk.new' _ _ (by simp)).alloc _).alloc _) ((Blk.new' _ _ (by simp)).alloc _) (Blk.new' _ _ (by simp)), ?_⟩
  exact (((((Below.refl _ _).alloc (Nat.le_refl _) _).alloc (by simp) _).alloc (by simp; omega) _).alloc (by simp; omega) _).alloc (by simp; omega) _

theorem bs29_a1 : askedE 2 bs29 1 2 [[⟨2, 10⟩], [⟨2, 3⟩]] = 0 := by decide
theorem bs29_a2 : askedE 2 bs29 1 1 ([⟨2, 10⟩] :: [[⟨2, 3⟩]]) = 0 := by decide
theorem bs29_b1 : byV 2 bs29 1 2 [⟨2, 10⟩] [⟨2, 10⟩] = 0 := by decide +kernel
theorem bs29_b2 : byV 2 bs29 1 2 [⟨2, 10⟩] [⟨2, 3⟩] = 7 := by decide +kernel
theorem bs29_c1 : byV 2 bs29 1 1 [⟨2, 10⟩] [⟨2, 10⟩] = 10 := by decide +kernel
theorem bs29_c2 : byV 2 bs29 1 1 [⟨2, 10⟩] [⟨2, 3⟩] = 10 := by decide +kernel
theorem pack29 : packV 2 bs29 1 2 [⟨2, 10⟩] [⟨2, 3⟩] = .tuple #[.int .i64 0, .int .i64 7, .int .i64 0] := by
  unfold packV
  rw [if_pos bs29_a1, show (1 : Int).toNat = 1 from rfl, bs29_b1, bs29_b2]
theorem regret29 : regretV 2 bs29 1 1 [⟨2, 10⟩] [[⟨2, 3⟩]] = .tuple #[.int .i64 0, .int .i64 (-1), .int .i64 0] := by
  unfold regretV
  rw [if_pos bs29_a2, show (1 : Int).toNat = 1 from rfl]
  simp only [gainsZ, List.mapIdx_cons, List.mapIdx_nil, bs29_c1, bs29_c2]
  have hb : bestZ 10 [(((0 : Nat) : Int), 10)] = (10, -1) := by decide
  have hw : wrap64 (10 - 10) = 0 := (IntWalk.wrap64_in (10 - 10) (by omega)).trans (by decide)
  rw [hb, hw]

theorem num29_any (n : Int) (h0 : 0 ≤ n) (h1 : n ≤ 1000) (w : World) : Calls Tryz.prog 11 #[.int .i64 n] w fun e w' => e = .returned (.int .i64 n) ∧ w = w' := by
  have hc : IntKind.i64.wrap n = n := IntWalk.i64_in _ (by omega)
  go_enter Tryz.func11, Tryz.ntmps11
  go_wp2
  go_ret
  exact ⟨rfl, rfl⟩

set_option maxRecDepth 100000 in
set_option maxHeartbeats 1600000 in
theorem works29_any (w : World) : Calls Tryz.prog 5 #[] w fun e w' => e = .returned (.bool true) ∧ Below w.heap.size w w' := by
  go_enter Tryz.func5, Tryz.ntmps5
  go_wp2_with fail
  have hsec : Secs (w.alloc (.cells #[.int .i64 1, .int .i64 7] 58)) (fun _ => True) (.slice (some ⟨w.heap.size, 0, none⟩) 1 1) [⟨1, 7⟩] := ⟨Sl.blk (sz := 2) (Blk.new w _ _) (by omega) (by unfold maxLen; omega) rfl, fun o ho => by simp at ho; subst ho; simp [Sec.wf]⟩
  refine (sealed_any 0 [⟨1, 7⟩] 0 9 6 _ _ _ hsec (by simp) (by omega) (by omega) (by omega)).mono ?_
  rintro e w1 ⟨rfl, hb1⟩
  rw [sealed7]
  have HB1 := Lib.hid (((Below.refl w.heap.size w).alloc (Nat.le_refl _) (.cells #[.int .i64 1, .int .i64 7] 58)).trans (hb1.mono (by simp)))
  clear hb1 hsec
  go_wp2_with fail
  refine (three29_any w1).mono ?_
  rintro e w2 ⟨A2, c2, rfl, ht2, hb2⟩
  have HT2 := Lib.hid ht2
  have HB2 := Lib.hid (HB1.out.trans (hb2.mono HB1.out.size))
  clear ht2 hb2
  go_wp2_with fail
  have ho1 : Offs ((w2.alloc (.cells #[.int .u32 2, .int .i64 10] 53)).alloc (.cells #[.int .u32 2, .int .i64 3] 53)) (fun _ => True) (.slice (some ⟨w2.heap.size, 0, none⟩) 1 1) [⟨2, 10⟩] := ⟨Sl.blk (sz := 2) ((Blk.new' _ _ rfl).alloc _) (by omega) (by unfold maxLen; omega) rfl, fun o ho => by simp at ho; subst ho; simp [Off.wf]⟩
  have ho2 : Offs ((w2.alloc (.cells #[.int .u32 2, .int .i64 10] 53)).alloc (.cells #[.int .u32 2, .int .i64 3] 53)) (fun _ => True) (.slice (some ⟨w2.heap.size + 1, 0, none⟩) 1 1) [⟨2, 3⟩] := ⟨Sl.blk (sz := 2) (Blk.new' _ _ (by simp)) (by omega) (by unfold maxLen; omega) rfl, fun o ho => by simp at ho; subst ho; simp [Off.wf]⟩
  refine (package_any 2 bs29 1 2 [⟨2, 10⟩] [⟨2, 3⟩] _ _ _ (fun _ => True) (fun _ => True) (fun _ => True) ((w2.alloc (.cells #[.int .u32 2, .int .i64 10] 53)).alloc (.cells #[.int .u32 2, .int .i64 3] 53)) ((HT2.out.alloc _).alloc _) ho1 ho2 (by omega) (by omega)).mono ?_
  rintro e w3 ⟨rfl, hb3⟩
  rw [pack29]
  have HB3 := Lib.hid (((HB2.out.alloc HB2.out.size (.cells #[.int .u32 2, .int .i64 10] 53)).alloc (by have := HB2.out.size; simp; omega) (.cells #[.int .u32 2, .int .i64 3] 53)).trans (hb3.mono (by have := HB2.out.size; simp; omega)))
  clear hb3 ho1 ho2 HT2
  go_wp2_with fail
  refine (three29_any w3).mono ?_
  rintro e w4 ⟨A4, c4, rfl, ht4, hb4⟩
  have HT4 := Lib.hid ht4
  have HB4 := Lib.hid (HB3.out.trans (hb4.mono HB3.out.size))
  clear ht4 hb4
  go_wp2_with fail
  have ho1 : Offs (((w4.alloc (.cells #[.int .u32 2, .int .i64 10] 53)).alloc (.cells #[.int .u32 2, .int .i64 3] 53)).alloc (.cells #[.slice (some ⟨w4.heap.size + 1, 0, none⟩) 1 1] 26)) (fun _ => True) (.slice (some ⟨w4.heap.size, 0, none⟩) 1 1) [⟨2, 10⟩] := ⟨Sl.blk (sz := 2) (((Blk.new' _ _ rfl).alloc _).alloc _) (by omega) (by unfold maxLen; omega) rfl, fun o ho => by simp at ho; subst ho; simp [Off.wf]⟩
  have ho2 : Offs ((w4.alloc (.cells #[.int .u32 2, .int .i64 10] 53)).alloc (.cells #[.int .u32 2, .int .i64 3] 53)) (fun _ => True) (.slice (some ⟨w4.heap.size + 1, 0, none⟩) 1 1) [⟨2, 3⟩] := ⟨Sl.blk (sz := 2) (Blk.new' _ _ (by simp)) (by omega) (by unfold maxLen; omega) rfl, fun o ho => by simp at ho; subst ho; simp [Off.wf]⟩
  have ho3 := Buys.one ho2 26
  rw [World.size_alloc, World.size_alloc] at ho3
  refine (regret_any 2 bs29 1 1 [⟨2, 10⟩] [[⟨2, 3⟩]] _ _ _ (fun _ => True) (fun _ => True) (fun _ => True) (((w4.alloc (.cells #[.int .u32 2, .int .i64 10] 53)).alloc (.cells #[.int .u32 2, .int .i64 3] 53)).alloc (.cells #[.slice (some ⟨w4.heap.size + 1, 0, none⟩) 1 1] 26)) (((HT4.out.alloc _).alloc _).alloc _) ho1 ho3 (by simp) (by omega) (by omega)).mono ?_
  rintro e w5 ⟨rfl, hb5⟩
  rw [regret29]
  have HB5 := Lib.hid ((((HB4.out.alloc HB4.out.size (.cells #[.int .u32 2, .int .i64 10] 53)).alloc (by have := HB4.out.size; simp; omega) (.cells #[.int .u32 2, .int .i64 3] 53)).alloc (by have := HB4.out.size; simp; omega) (.cells #[.slice (some ⟨w4.heap.size + 1, 0, none⟩) 1 1] 26)).trans (hb5.mono (by have := HB4.out.size; simp; omega)))
  clear hb5 ho1 ho2 ho3 HT4
  go_wp2_with (go_at_call 11; refine (num29_any 0 (by decide) (by decide) _).mono ?_; rintro e w9 ⟨rfl, rfl⟩)
  go_ret
  exact ⟨rfl, HB5.out⟩
end Go.Proofs.YtcigobiolbojhaaGreat.Vb

/- Lowered lists, by any coins, of any offers. -/
namespace Go.Proofs.YtcigobiolbojhaaGreat.Vb
open Go.RowKit

set_option maxRecDepth 100000 in
set_option maxHeartbeats 1600000 in
theorem lower_neg (c : Int) (hc0 : c < 0) (hc : -9223372036854775808 ≤ c) (l : List Off) (v : Value) (R : Nat → Prop) (w : World) (hl : Offs w R v l) (hsm : l.length ≤ 64) :
    Calls Tryz.prog 104 #[.int .i64 c, v] w fun e w' => ∃ A' cap', e = .returned (.slice A' (lowL 0 l).length cap') ∧ w'.ownsRow w.heap.size 53 2 (.slice A' (lowL 0 l).length cap') (lowL 0 l).length (Off.all (lowL 0 l)) ∧ Below w.heap.size w w' := by
  have HL := Lib.hid hl
  obtain ⟨⟨_, A, cap, rfl, hncap, hcap, _⟩, hwf⟩ := hl
  unfold maxLen at hcap
  have HWF := Lib.hid hwf
  clear hwf
  have hc1 : max c 0 = 0 := by omega
  go_enter Tryz.func104, Tryz.ntmps104
  go_wp2
  go_loopw [5, 12] (fun s i wr => ∃ k : Nat, k ≤ l.length ∧ i = .int .i64 k ∧ (∃ A' cap', s = .slice A' (lowL 0 (l.take k)).length cap' ∧ wr.ownsRow w.heap.size 53 2 (.slice A' (lowL 0 (l.take k)).length cap') (lowL 0 (l.take k)).length (Off.all (lowL 0 (l.take k)))) ∧
      Below w.heap.size w wr) (fun _ i _ => l.length - (intOf i).toNat)
  case atStart => exact ⟨0, Nat.zero_le _, rfl, ⟨_, _, rfl, World.ownsRow_nil _ _ _ _⟩, Below.refl _ _⟩
  case round =>
    obtain ⟨k, hk, rfl, ⟨A', cap', rfl, hob⟩, hb⟩ := hrel
    by_cases hlt : k < l.length
    · obtain ⟨o, ho⟩ : ∃ o, l[k]? = some o := ⟨_, List.getElem?_eq_getElem hlt⟩
      obtain ⟨bq, off, rfl, hbq, q0, q1⟩ := (HL.out.grow hb).at_ ho
      have hwo := HWF.out o (List.mem_of_getElem? ho)
      unfold Off.wf at hwo
      have hlen := lowL_len 0 (l.take k)
      have hlen2 : (lowL 0 (l.take k)).length ≤ 64 := by simp at hlen; omega
      have HT := Lib.hid (lowL_take (c := 0) ho)
      have HO := Lib.hid hob
      have HB := Lib.hid hb
      have hsz := hb.size
      clear hob hb hlen ho
      by_cases hgt : 0 < o.c
      · have HT2 := Lib.hid (show lowL 0 (l.take (k + 1)) = lowL 0 (l.take k) ++ [⟨o.g, o.c⟩] by rw [HT.out, if_pos hgt, Int.sub_zero])
        obtain ⟨og, oc⟩ := o
        simp only at *
        go_wp2_with (first
          | (at_builtin; go_must (refine wpList_app _ rfl (.tmp 20) (.tmp 28) et_off rfl w.heap.size (.slice A' (lowL 0 (l.take k)).length cap') _ _ rfl ((own_alloc (own_alloc HO.out _) _)) (fun _ => True) (.slice (some ⟨wr.heap.size + 1, 0, none⟩) 1 1) 1 [.int .u32 og, .int .i64 (oc)] rfl (Sl.blk (sz := 2) (cs := #[.int .u32 og, .int .i64 (oc)]) (t := 53) (Blk.new' _ _ (by simp)) (Nat.le_refl 1) (by unfold maxLen; omega) rfl) (by simp [Value.oneCell']) (by omega) (by unfold maxLen; omega) (by simp; omega) ?_); intro A3 cap3 w3 hown3 hg3 hloc3; have HW3 := Lib.hid hown3; have HG3 := Lib.hid hg3; clear hown3 hg3 hloc3))
        go_roundw
        case rel =>
          have hlen3 : (lowL 0 (l.take (k + 1))).length = (lowL 0 (l.take k)).length + 1 := by rw [HT2.out]; simp
          refine ⟨k + 1, by omega, by go_num, ⟨A3, cap3, by rw [hlen3], ?_⟩, ?_⟩
          · rw [hlen3, HT2.out, ← Off.all_snoc]
            simpa using HW3.out
          · exact ((HB.out.alloc (by omega) _).alloc (by simp; omega) _).grown HG3.out (by simp; omega) (fun g e => (HO.out.lt g e).1)
        case measure => simp [intOf]; omega
      · have HT2 := Lib.hid (show lowL 0 (l.take (k + 1)) = lowL 0 (l.take k) by rw [HT.out, if_neg hgt, List.append_nil])
        go_wp2
        go_roundw
        case rel =>
          refine ⟨k + 1, by omega, by go_num, ⟨A', cap', by rw [HT2.out], ?_⟩, HB.out.alloc (by omega) _⟩
          rw [HT2.out]
          exact own_alloc HO.out _
        case measure => simp [intOf]; omega
    · obtain rfl : k = l.length := by omega
      rw [List.take_length] at *
      have HO := Lib.hid hob
      have HB := Lib.hid hb
      clear hob hb
      go_wp2
      go_ret
      exact ⟨_, _, rfl, HO.out, HB.out⟩

theorem lowerX_any (c : Int) (hc : -9223372036854775808 ≤ c ∧ c ≤ 9223372036854775807) (l : List Off) (v : Value) (R : Nat → Prop) (w : World) (hl : Offs w R v l) (hsm : l.length ≤ 64) :
    Calls Tryz.prog 104 #[.int .i64 c, v] w fun e w' => ∃ A' cap', e = .returned (.slice A' (lowL (max c 0) l).length cap') ∧ w'.ownsRow w.heap.size 53 2 (.slice A' (lowL (max c 0) l).length cap') (lowL (max c 0) l).length (Off.all (lowL (max c 0) l)) ∧ Below w.heap.size w w' := by
  by_cases h : c < 0
  · rw [show max c 0 = 0 by omega]
    exact lower_neg c h hc.1 l v R w hl hsm
  · rw [show max c 0 = c by omega]
    exact lower_any c (by omega) hc.2 l v R w hl hsm

set_option maxRecDepth 100000 in
set_option maxHeartbeats 1600000 in
theorem refLower_pos (c : Int) (hcp : 0 < c) (hc : c ≤ 9223372036854775807) (l : List Off) (v : Value) (R : Nat → Prop) (w : World) (hl : Offs w R v l) (hsm : l.length ≤ 64) :
    Calls Tryz.prog 103 #[.int .i64 c, v] w fun e w' => ∃ A' cap', e = .returned (.slice A' (lowL c l).length cap') ∧ w'.ownsRow w.heap.size 53 2 (.slice A' (lowL c l).length cap') (lowL c l).length (Off.all (lowL c l)) ∧ Below w.heap.size w w' := by
  have HL := Lib.hid hl
  obtain ⟨⟨_, A, cap, rfl, hncap, hcap, _⟩, hwf⟩ := hl
  unfold maxLen at hcap
  have HWF := Lib.hid hwf
  clear hwf
  go_enter Tryz.func103, Tryz.ntmps103
  go_wp2
  go_loopw [5, 6] (fun s i wr => ∃ k : Nat, k ≤ l.length ∧ i = .int .i64 k ∧ (∃ A' cap', s = .slice A' (lowL c (l.take k)).length cap' ∧ wr.ownsRow w.heap.size 53 2 (.slice A' (lowL c (l.take k)).length cap') (lowL c (l.take k)).length (Off.all (lowL c (l.take k)))) ∧
      Below w.heap.size w wr) (fun _ i _ => l.length - (intOf i).toNat)
  case atStart => exact ⟨0, Nat.zero_le _, rfl, ⟨_, _, rfl, World.ownsRow_nil _ _ _ _⟩, Below.refl _ _⟩
  case round =>
    obtain ⟨k, hk, rfl, ⟨A', cap', rfl, hob⟩, hb⟩ := hrel
    by_cases hlt : k < l.length
    · obtain ⟨o, ho⟩ : ∃ o, l[k]? = some o := ⟨_, List.getElem?_eq_getElem hlt⟩
      obtain ⟨bq, off, rfl, hbq, q0, q1⟩ := (HL.out.grow hb).at_ ho
      have hwo := HWF.out o (List.mem_of_getElem? ho)
      unfold Off.wf at hwo
      have hlen := lowL_len c (l.take k)
      have hlen2 : (lowL c (l.take k)).length ≤ 64 := by simp at hlen; omega
      have HT := Lib.hid (lowL_take (c := c) ho)
      have HO := Lib.hid hob
      have HB := Lib.hid hb
      have hsz := hb.size
      clear hob hb hlen ho
      obtain ⟨og, oc⟩ := o
      simp only at *
      by_cases hgt : c < oc
      · have hnl : ¬ oc < 1 := by omega
        have HT2 := Lib.hid (show lowL c (l.take (k + 1)) = lowL c (l.take k) ++ [⟨og, oc - c⟩] by rw [HT.out, if_pos hgt])
        have hnle : ¬ oc ≤ c := by omega
        go_wp2_with (at_builtin; go_must (refine wpList_app _ rfl (.tmp 38) (.tmp 40) et_off rfl w.heap.size (.slice A' (lowL c (l.take k)).length cap') _ _ rfl ((own_alloc (own_alloc HO.out _) _)) (fun _ => True) (.slice (some ⟨wr.heap.size + 1, 0, none⟩) 1 1) 1 [.int .u32 og, .int .i64 (oc - c)] rfl (Sl.blk (sz := 2) (cs := #[.int .u32 og, .int .i64 (oc - c)]) (t := 53) (Blk.new' _ _ (by simp)) (Nat.le_refl 1) (by unfold maxLen; omega) rfl) (by simp [Value.oneCell']) (by omega) (by unfold maxLen; omega) (by simp; omega) ?_); intro A3 cap3 w3 hown3 hg3 hloc3; have HW3 := Lib.hid hown3; have HG3 := Lib.hid hg3; clear hown3 hg3 hloc3)
        go_roundw
        case rel =>
          have hlen3 : (lowL c (l.take (k + 1))).length = (lowL c (l.take k)).length + 1 := by rw [HT2.out]; simp
          refine ⟨k + 1, by omega, by go_num, ⟨A3, cap3, by rw [hlen3], ?_⟩, ?_⟩
          · rw [hlen3, HT2.out, ← Off.all_snoc]
            exact HW3.out
          · exact ((HB.out.alloc (by omega) _).alloc (by simp; omega) _).grown HG3.out (by simp; omega) (fun g e => (HO.out.lt g e).1)
        case measure => simp [intOf]; omega
      · have HT2 := Lib.hid (show lowL c (l.take (k + 1)) = lowL c (l.take k) by rw [HT.out, if_neg hgt, List.append_nil])
        have hle : oc ≤ c := by omega
        by_cases hone : oc < 1
        · have hone2 := hone
          go_wp2
          go_roundw
          case rel =>
            refine ⟨k + 1, by omega, by go_num, ⟨A', cap', by rw [HT2.out], ?_⟩, HB.out.alloc (by omega) _⟩
            rw [HT2.out]
            exact own_alloc HO.out _
          case measure => simp [intOf]; omega
        · have hone2 := hone
          go_wp2
          go_roundw
          case rel =>
            refine ⟨k + 1, by omega, by go_num, ⟨A', cap', by rw [HT2.out], ?_⟩, HB.out.alloc (by omega) _⟩
            rw [HT2.out]
            exact own_alloc HO.out _
          case measure => simp [intOf]; omega
    · obtain rfl : k = l.length := by omega
      rw [List.take_length] at *
      have HO := Lib.hid hob
      have HB := Lib.hid hb
      clear hob hb
      go_wp2
      go_ret
      exact ⟨_, _, rfl, HO.out, HB.out⟩

set_option maxRecDepth 100000 in
set_option maxHeartbeats 1600000 in
theorem refLower_neg (c : Int) (hcn : ¬ 0 < c) (hc : -9223372036854775808 ≤ c) (l : List Off) (v : Value) (R : Nat → Prop) (w : World) (hl : Offs w R v l) (hsm : l.length ≤ 64) :
    Calls Tryz.prog 103 #[.int .i64 c, v] w fun e w' => ∃ A' cap', e = .returned (.slice A' (lowL 0 l).length cap') ∧ w'.ownsRow w.heap.size 53 2 (.slice A' (lowL 0 l).length cap') (lowL 0 l).length (Off.all (lowL 0 l)) ∧ Below w.heap.size w w' := by
  have HL := Lib.hid hl
  obtain ⟨⟨_, A, cap, rfl, hncap, hcap, _⟩, hwf⟩ := hl
  unfold maxLen at hcap
  have HWF := Lib.hid hwf
  clear hwf
  go_enter Tryz.func103, Tryz.ntmps103
  go_wp2
  go_loopw [5, 6] (fun s i wr => ∃ k : Nat, k ≤ l.length ∧ i = .int .i64 k ∧ (∃ A' cap', s = .slice A' (lowL 0 (l.take k)).length cap' ∧ wr.ownsRow w.heap.size 53 2 (.slice A' (lowL 0 (l.take k)).length cap') (lowL 0 (l.take k)).length (Off.all (lowL 0 (l.take k)))) ∧
      Below w.heap.size w wr) (fun _ i _ => l.length - (intOf i).toNat)
  case atStart => exact ⟨0, Nat.zero_le _, rfl, ⟨_, _, rfl, World.ownsRow_nil _ _ _ _⟩, Below.refl _ _⟩
  case round =>
    obtain ⟨k, hk, rfl, ⟨A', cap', rfl, hob⟩, hb⟩ := hrel
    by_cases hlt : k < l.length
    · obtain ⟨o, ho⟩ : ∃ o, l[k]? = some o := ⟨_, List.getElem?_eq_getElem hlt⟩
      obtain ⟨bq, off, rfl, hbq, q0, q1⟩ := (HL.out.grow hb).at_ ho
      have hwo := HWF.out o (List.mem_of_getElem? ho)
      unfold Off.wf at hwo
      have hlen := lowL_len 0 (l.take k)
      have hlen2 : (lowL 0 (l.take k)).length ≤ 64 := by simp at hlen; omega
      have HT := Lib.hid (lowL_take (c := 0) ho)
      have HO := Lib.hid hob
      have HB := Lib.hid hb
      have hsz := hb.size
      clear hob hb hlen ho
      obtain ⟨og, oc⟩ := o
      simp only at *
      by_cases hone : oc < 1
      · have hgt : ¬ (0 : Int) < oc := by omega
        have HT2 := Lib.hid (show lowL 0 (l.take (k + 1)) = lowL 0 (l.take k) by rw [HT.out, if_neg hgt, List.append_nil])
        go_wp2
        go_roundw
        case rel =>
          refine ⟨k + 1, by omega, by go_num, ⟨A', cap', by rw [HT2.out], ?_⟩, HB.out.alloc (by omega) _⟩
          rw [HT2.out]
          exact own_alloc HO.out _
        case measure => simp [intOf]; omega
      · have hgt : (0 : Int) < oc := by omega
        have HT2 := Lib.hid (show lowL 0 (l.take (k + 1)) = lowL 0 (l.take k) ++ [⟨og, oc - 0⟩] by rw [HT.out, if_pos hgt])
        go_wp2_with (at_builtin; go_must (refine wpList_app _ rfl (.tmp 38) (.tmp 40) et_off rfl w.heap.size (.slice A' (lowL 0 (l.take k)).length cap') _ _ rfl ((own_alloc (own_alloc HO.out _) _)) (fun _ => True) (.slice (some ⟨wr.heap.size + 1, 0, none⟩) 1 1) 1 [.int .u32 og, .int .i64 (oc)] rfl (Sl.blk (sz := 2) (cs := #[.int .u32 og, .int .i64 (oc)]) (t := 53) (Blk.new' _ _ (by simp)) (Nat.le_refl 1) (by unfold maxLen; omega) rfl) (by simp [Value.oneCell']) (by omega) (by unfold maxLen; omega) (by simp; omega) ?_); intro A3 cap3 w3 hown3 hg3 hloc3; have HW3 := Lib.hid hown3; have HG3 := Lib.hid hg3; clear hown3 hg3 hloc3)
        go_roundw
        case rel =>
          have hlen3 : (lowL 0 (l.take (k + 1))).length = (lowL 0 (l.take k)).length + 1 := by rw [HT2.out]; simp
          refine ⟨k + 1, by omega, by go_num, ⟨A3, cap3, by rw [hlen3], ?_⟩, ?_⟩
          · rw [hlen3, HT2.out, ← Off.all_snoc]
            simpa using HW3.out
          · exact ((HB.out.alloc (by omega) _).alloc (by simp; omega) _).grown HG3.out (by simp; omega) (fun g e => (HO.out.lt g e).1)
        case measure => simp [intOf]; omega
    · obtain rfl : k = l.length := by omega
      rw [List.take_length] at *
      have HO := Lib.hid hob
      have HB := Lib.hid hb
      clear hob hb
      go_wp2
      go_ret
      exact ⟨_, _, rfl, HO.out, HB.out⟩


theorem refLowerX_any (c : Int) (hc : -9223372036854775808 ≤ c ∧ c ≤ 9223372036854775807) (l : List Off) (v : Value) (R : Nat → Prop) (w : World) (hl : Offs w R v l) (hsm : l.length ≤ 64) :
    Calls Tryz.prog 103 #[.int .i64 c, v] w fun e w' => ∃ A' cap', e = .returned (.slice A' (lowL (max c 0) l).length cap') ∧ w'.ownsRow w.heap.size 53 2 (.slice A' (lowL (max c 0) l).length cap') (lowL (max c 0) l).length (Off.all (lowL (max c 0) l)) ∧ Below w.heap.size w w' := by
  by_cases h : 0 < c
  · rw [show max c 0 = c by omega]
    exact refLower_pos c h hc.2 l v R w hl hsm
  · rw [show max c 0 = 0 by omega]
    exact refLower_neg c h hc.1 l v R w hl hsm
end Go.Proofs.YtcigobiolbojhaaGreat.Vb

/- truth.Shades, the reference's; law 29's own: offers, stays. -/
namespace Go.Proofs.YtcigobiolbojhaaGreat.Vb
open Go.RowKit

def shL (tr : List Off) (by_ : List Int) : List (List Off) := by_.map fun c => lowL (max c 0) tr
theorem shL_take {tr : List Off} {l : List Int} {k : Nat} {c : Int} (h : l[k]? = some c) : shL tr (l.take (k + 1)) = shL tr (l.take k) ++ [lowL (max c 0) tr] := by
  unfold shL
  rw [List.take_add_one, h]
  simp
theorem lowX_wf (c : Int) (l : List Off) (h : ∀ o ∈ l, o.wf) : ∀ o ∈ lowL (max c 0) l, o.wf := lowL_wf (max c 0) (by omega) l h

theorem OffOwn.offs {w : World} {lo n cap : Nat} {A : Option Addr} {l : List Off} (h : w.ownsRow lo 53 2 (.slice A n cap) n (Off.all l)) (hn : l.length = n) (hwf : ∀ o ∈ l, o.wf) : Offs w (lo ≤ ·) (.slice A n cap) l := by
  subst hn
  exact ⟨Sl.own_from h, hwf⟩

/-- offers in memory of their own, with a mark behind -/
def LentO (w : World) (lo g c : Nat) (l : List Off) : Prop := w.ownsRow lo 53 2 (.slice (some ⟨g, 0, none⟩) (l.length + 1) c) (l.length + 1) (Off.all (l ++ [⟨77, -77⟩])) ∧ ∀ o ∈ l, o.wf
theorem LentO.grow {w w' : World} {lo g c : Nat} {l : List Off} (h : LentO w lo g c l) (hb : Below w.heap.size w w') : LentO w' lo g c l := ⟨own_grow h.1 hb, h.2⟩
theorem LentO.offs {w : World} {lo g c : Nat} {l : List Off} (h : LentO w lo g c l) : Offs w (lo ≤ ·) (.slice (some ⟨g, 0, none⟩) l.length c) l := by
  obtain ⟨h, hwf⟩ := h
  obtain ⟨hlen, A', c', hv, hnc, hcm, hcs⟩ := Sl.own_from h
  injection hv with hA _ hc
  subst hA hc
  obtain ⟨b, off, hA, hR, hlt, hc⟩ := hcs (by omega)
  injection hA with hA
  injection hA with hb ho
  subst hb ho
  exact ⟨⟨by rw [Off.all_length], _, _, rfl, by omega, hcm, fun _ => ⟨g, 0, rfl, hR, hlt, fun j u hu => hc j u (by
    rw [show Off.all (l ++ [⟨77, -77⟩]) = Off.all l ++ [.int .u32 77, .int .i64 (-77)] by simp [Off.all, Off.cells]]
    rw [List.getElem?_append_left (List.getElem?_eq_some_iff.1 hu).1]
    exact hu)⟩⟩, hwf⟩
theorem LentO.mark {w : World} {lo g c : Nat} {l : List Off} (h : LentO w lo g c l) : l.length + 1 ≤ c ∧ c ≤ maxLen ∧ w.cell? ⟨g, l.length * 2 + 1, none⟩ = some (.int .i64 (-77)) ∧ w.cell? ⟨g, l.length * 2, none⟩ = some (.int .u32 77) ∧ lo ≤ g ∧ g < w.heap.size := by
  obtain ⟨h, hwf⟩ := h
  have h1 := h.cellAt (l.length * 2 + 1) (by omega)
  have h2 := h.cellAt (l.length * 2) (by omega)
  have hl := h.lt g rfl
  obtain ⟨_, A', c', hv, hnc, hcm, _⟩ := Sl.of_own h
  injection hv with _ _ hc
  subst hc
  rw [show Off.all (l ++ [⟨77, -77⟩]) = Off.all l ++ [.int .u32 77, .int .i64 (-77)] by simp [Off.all, Off.cells], List.getElem?_append_right (by rw [Off.all_length]; omega), Off.all_length] at h1 h2
  refine ⟨hnc, hcm, ?_, ?_, hl.1, hl.2⟩
  · rw [h1]; simp
  · rw [h2]; simp

set_option maxRecDepth 100000 in
set_option maxHeartbeats 1600000 in
theorem offers29_any (l : List Off) (v : Value) (R : Nat → Prop) (w : World) (hl : Offs w R v l) (hsm : l.length ≤ 1000000) :
    Calls Tryz.prog 18 #[v] w fun e w' => ∃ g c, e = .returned (.slice (some ⟨g, 0, none⟩) l.length c) ∧ LentO w' w.heap.size g c l ∧ Below w.heap.size w w' := by
  have HL := Lib.hid hl
  obtain ⟨⟨_, A, cap, rfl, _⟩, _⟩ := id hl
  clear hl
  go_enter Tryz.func18, Tryz.ntmps18
  go_wp2_with (at_builtin; first
    | (refine wpList_app _ rfl (.tmp 3) (.tmp 4) et_off rfl w.heap.size (.slice (some ⟨w.heap.size, 0, none⟩) 0 0) 0 [] rfl (World.ownsRow_lit w #[] 0 (Nat.le_refl _) (Nat.zero_le _) rfl) R _ l.length (Off.all l) rfl (HL.out.1.alloc _) (Off.all_one l) (by omega) (by unfold maxLen; omega) (by simp) ?_; intro A1 c1 w1 hown1 hg1 _; rw [Nat.zero_add] at hown1 ⊢; rw [List.nil_append] at hown1; have HO1 := Lib.hid hown1; have HG1 := Lib.hid (((Below.refl w.heap.size w).alloc (Nat.le_refl _) (.cells #[] 53)).grown hg1 (by simp) (fun r e => by simp [Value.ownBlock] at e; omega)); clear hown1 hg1)
    | (have := HO1; go_must (refine wpList_app _ rfl (.tmp 5) (.tmp 7) et_off rfl w.heap.size (.slice A1 l.length c1) l.length (Off.all l) rfl (own_alloc HO1.out _) _ _ 1 _ rfl (Sl.new w1 #[.int .u32 77, .int .i64 (-77)] _ 1 2 (by unfold maxLen; omega) rfl) (by simp [Value.oneCell']) (by omega) (by unfold maxLen; omega) (by have := HG1.out.size; simp <;> omega) ?_); go_must (intro A2 c2 w2 hown2 hg2 _; obtain ⟨g, cm, hform, hgm1, hgm2⟩ := World.ownsRow.form hown2 (by omega); injection hform with hA2 _ hc2; subst hA2 hc2; have hnc : l.length + 1 ≤ c2 := (by obtain ⟨_, _, _, hv9, hnc9, _, _⟩ := Sl.of_own hown2; injection hv9 with _ _ hc9; all_goals omega); have hc41 : ((l.length : Nat) : Int) ≤ (c2 : Int) := (by omega); have hc40 : (0 : Int) ≤ ((l.length : Nat) : Int) := (by omega); have HO2 := Lib.hid hown2; have HG2 := Lib.hid ((HG1.out.alloc HG1.out.size (.cells #[.int .u32 77, .int .i64 (-77)] 53)).grown hg2 (by have := HG1.out.size; simp <;> omega) (fun r e => (HO1.out.lt r e).1)); clear hown2 hg2 hnc)))
  refine bodyPost_ret (v := .slice (some ⟨g, 0, none⟩) l.length c2) (by simp [results, Tryz.results18, go_sem]) rfl ⟨g, c2, rfl, ⟨?_, HL.out.2⟩, HG2.out⟩
  have := HO2.out
  rw [show Off.all (l ++ [⟨77, -77⟩]) = Off.all l ++ [.int .u32 77, .int .i64 (-77)] by simp [Off.all, Off.cells]]
  simpa using this

set_option maxHeartbeats 800000 in
theorem stays29_any (l : List Off) (g c lo : Nat) (v : Value) (R : Nat → Prop) (w : World) (hm : LentO w lo g c l) (hl : Offs w R v l) (hsm : l.length ≤ 1000000) :
    Calls Tryz.prog 24 #[.slice (some ⟨g, 0, none⟩) l.length c, v] w fun e w' => e = .returned (.bool true) ∧ Below w.heap.size w w' := by
  have HM := Lib.hid hm
  have HL := Lib.hid hl
  obtain ⟨⟨_, A, cap, rfl, _⟩, _⟩ := id hl
  obtain ⟨h1, h2, _⟩ := hm.mark
  clear hm hl
  have hwr : IntKind.i64.wrap ((l.length : Int) + 1) = l.length + 1 := IntWalk.i64_in _ (by omega)
  have hn0 : (0 : Int) ≤ (l.length : Int) := by omega
  have hn1 : (l.length : Int) + 1 ≤ (c : Int) := by omega
  have hn2 : (0 : Int) ≤ (l.length : Int) + 1 := by omega
  have hn3 : ((l.length : Int) + 1).toNat = l.length + 1 := by omega
  have hn4 : (l.length : Int) < ((l.length + 1 : Nat) : Int) := by omega
  go_enter Tryz.func24, Tryz.ntmps24
  go_wp2_with fail
  refine (refSameOff_true l _ _ _ R w HM.out.offs HL.out).mono ?_
  rintro e w1 ⟨rfl, hb1⟩
  have hc := (HM.out.grow hb1).mark.2.2.1
  have HB1 := Lib.hid hb1
  clear hb1
  go_wp2_with fail
  go_ret
  exact ⟨rfl, HB1.out⟩
end Go.Proofs.YtcigobiolbojhaaGreat.Vb

/- truth.Shades: each list in memory of its own. -/
namespace Go.Proofs.YtcigobiolbojhaaGreat.Vb
open Go.RowKit

def SepRows (w : World) (lo : Nat) (vs : List Value) (bs : List (List Off)) : Prop :=
  (∀ (k : Nat) (l : List Off), bs[k]? = some l → ∃ A c, vs[k]? = some (.slice A l.length c) ∧ w.ownsRow lo 53 2 (.slice A l.length c) l.length (Off.all l) ∧ ∀ o ∈ l, o.wf) ∧
  ∀ (i j : Nat) (u u' : Value) (g : Nat), i ≠ j → vs[i]? = some u → vs[j]? = some u' → u.ownBlock = some g → u'.ownBlock ≠ some g
/-- lists in memory of their own, each apart -/
def SepBuys (w : World) (lo : Nat) (v : Value) (bs : List (List Off)) : Prop := ∃ vs, w.ownsRow lo 26 1 v bs.length vs ∧ SepRows w lo vs bs
theorem SepBuys.nil (w : World) (lo : Nat) : SepBuys w lo (.slice none 0 0) [] := ⟨[], World.ownsRow_nil _ _ _ _, fun k l hk => by simp at hk, fun i j u u' g _ h => by simp at h⟩
theorem SepRows.grow {w w' : World} {lo : Nat} {vs : List Value} {bs : List (List Off)} (h : SepRows w lo vs bs) (hb : Below w.heap.size w w') : SepRows w' lo vs bs :=
  ⟨fun k l hk => let ⟨A, c, h1, h2, h3⟩ := h.1 k l hk; ⟨A, c, h1, own_grow h2 hb, h3⟩, h.2⟩
theorem SepBuys.grow {w w' : World} {lo : Nat} {v : Value} {bs : List (List Off)} (h : SepBuys w lo v bs) (hb : Below w.heap.size w w') : SepBuys w' lo v bs := by
  obtain ⟨vs, h1, h2⟩ := h
  exact ⟨vs, own_grow h1 hb, h2.grow hb⟩
theorem SepBuys.buys {w : World} {lo : Nat} {v : Value} {bs : List (List Off)} (h : SepBuys w lo v bs) : Buys w (lo ≤ ·) v bs := by
  obtain ⟨vs, hs, ho, _⟩ := h
  exact ⟨vs, Sl.own_from hs, fun k l hk => let ⟨A, c, h1, h2, h3⟩ := ho k l hk; ⟨_, h1, Sl.own_from h2, h3⟩⟩
/-- One list more. -/
theorem SepBuys.snoc {w w' : World} {lo B : Nat} {v : Value} {bs : List (List Off)} {vs : List Value} {l : List Off} {A A' : Option Addr} {c cap' n : Nat} (hn : bs.length = n)
    (hs : w.ownsRow lo 26 1 v n vs) (hr : SepRows w lo vs bs) (hB : ∀ (k : Nat) (u : Value) (g : Nat), vs[k]? = some u → u.ownBlock = some g → g < B) (hlo : lo ≤ B)
    (hl : w.ownsRow B 53 2 (.slice A l.length c) l.length (Off.all l)) (hw : ∀ o ∈ l, o.wf)
    (hown : w'.ownsRow lo 26 1 (.slice A' (n + 1) cap') (n + 1) (vs ++ [.slice A l.length c])) (hg : w.grownBy w' v.ownBlock) : SepBuys w' lo (.slice A' (n + 1) cap') (bs ++ [l]) := by
  subst hn
  have hlen : vs.length = bs.length := by simpa using hs.1
  have step : ∀ {lo2 : Nat} {u : Value} {m : Nat} {xs : List Value}, w.ownsRow lo2 53 2 u m xs → w'.ownsRow lo2 53 2 u m xs := fun h => own_far h hg fun g e => own_ne hs h (by decide) e
  refine ⟨vs ++ [.slice A l.length c], by simpa using hown, fun k l' hk => ?_, fun i j u u' g hij hi hj hu => ?_⟩
  · by_cases hkl : k < bs.length
    · rw [List.getElem?_append_left hkl] at hk
      obtain ⟨b', c', h1, h2, h3⟩ := hr.1 k l' hk
      exact ⟨b', c', by rw [List.getElem?_append_left (by omega)]; exact h1, step h2, h3⟩
    · have : k = bs.length := by
        rcases Nat.lt_or_ge k (bs ++ [l]).length with h | h
        · simp at h; omega
        · rw [List.getElem?_eq_none h] at hk; cases hk
      subst this
      simp at hk
      subst hk
      exact ⟨A, c, by rw [← hlen]; simp, own_mono (step hl) hlo, hw⟩
  · have key : ∀ (k : Nat) (x : Value), (vs ++ [Value.slice A l.length c])[k]? = some x → (k < vs.length ∧ vs[k]? = some x) ∨ (k = vs.length ∧ x = .slice A l.length c) := by
      intro k x hx
      rcases Nat.lt_or_ge k vs.length with h | h
      · rw [List.getElem?_append_left h] at hx
        exact .inl ⟨h, hx⟩
      · rw [List.getElem?_append_right h] at hx
        have hk : k - vs.length = 0 := by
          rcases Nat.eq_zero_or_pos (k - vs.length) with h0 | h0
          · exact h0
          · rw [List.getElem?_eq_none (by simp; omega)] at hx; cases hx
        rw [hk] at hx
        simp at hx
        exact .inr ⟨by omega, hx.symm⟩
    intro hu'
    rcases key i u hi with ⟨h1, h2⟩ | ⟨h1, rfl⟩
    · rcases key j u' hj with ⟨h3, h4⟩ | ⟨h3, rfl⟩
      · exact hr.2 i j u u' g hij h2 h4 hu hu'
      · have a := hB i u g h2 hu
        have b := (hl.lt g hu').1
        omega
    · rcases key j u' hj with ⟨h3, h4⟩ | ⟨h3, rfl⟩
      · have a := hB j u' g h4 hu'
        have b := (hl.lt g hu).1
        omega
      · omega
theorem SepRows.lt {w : World} {lo : Nat} {vs : List Value} {bs : List (List Off)} (h : SepRows w lo vs bs) (hl : vs.length = bs.length) : ∀ (k : Nat) (u : Value) (g : Nat), vs[k]? = some u → u.ownBlock = some g → lo ≤ g ∧ g < w.heap.size := by
  intro k u g hu hg
  have hk : k < bs.length := by rw [← hl]; exact (List.getElem?_eq_some_iff.1 hu).1
  obtain ⟨A, c, h1, h2, _⟩ := h.1 k _ (List.getElem?_eq_getElem hk)
  rw [hu] at h1
  injection h1 with h1
  subst h1
  exact h2.lt g hg

end Go.Proofs.YtcigobiolbojhaaGreat.Vb

/- Law 29: TruthShades, walked. -/
namespace Go.Proofs.YtcigobiolbojhaaGreat.Vb
open Go.RowKit

theorem own_keep {W W' : World} {base : Nat} {e : TypeId} {sz n : Nat} {v : Value} {xs : List Value} (h : W.ownsRow base e sz v n xs) (hk : ∀ g, v.ownBlock = some g → W'.heap[g]? = W.heap[g]?) : W'.ownsRow base e sz v n xs := by
  rcases h.2 with ⟨h1, h2⟩ | ⟨g, cap, cur, rfl, hb, hg, hr⟩
  · exact ⟨h.1, .inl ⟨h1, h2⟩⟩
  · exact ⟨h.1, .inr ⟨g, cap, cur, rfl, hb, (hk g rfl).trans hg, hr⟩⟩
theorem own_at {W : World} {lo n c : Nat} {e : TypeId} {A : Option Addr} {vs : List Value} (h : W.ownsRow lo e 1 (.slice A n c) n vs) (h0 : 0 < n) : ∃ g o, A = some ⟨g, o, none⟩ ∧ g < W.heap.size ∧ ∀ j u, vs[j]? = some u → W.cell? ⟨g, o + j, none⟩ = some u := by
  obtain ⟨_, A7, c7, hv7, _, _, hcs7⟩ := Sl.own_from h
  injection hv7 with hA7 _ _
  subst hA7
  obtain ⟨g, o, h1, _, h2, h3⟩ := hcs7 h0
  exact ⟨g, o, h1, h2, h3⟩
/-- what lies outside of the blocks la .. ha is as it was -/
structure KOut (la ha : Nat) (W W' : World) : Prop where
  size : W.heap.size ≤ W'.heap.size
  same : ∀ b, b < W.heap.size → (b < la ∨ ha ≤ b) → W'.heap[b]? = W.heap[b]?
theorem KOut.refl (la ha : Nat) (W : World) : KOut la ha W W := ⟨Nat.le_refl _, fun _ _ _ => rfl⟩
theorem KOut.below {la ha : Nat} {W W' W2 : World} (h : KOut la ha W W') (hb : Below W'.heap.size W' W2) : KOut la ha W W2 := ⟨Nat.le_trans h.size hb.size, fun b hlt ho => (hb.block b (Nat.lt_of_lt_of_le hlt h.size)).trans (h.same b hlt ho)⟩
theorem KOut.set {la ha : Nat} {W W' : World} (h : KOut la ha W W') {p : Addr} (h1 : la ≤ p.block) (h2 : p.block < ha) (u : Value) : KOut la ha W (W'.setCell p u) :=
  ⟨by simpa [World.setCell] using h.size, fun b hlt ho => (Below.heap_setCell W' p u b (by omega)).trans (h.same b hlt ho)⟩
theorem KOut.buys {la ha lo : Nat} {W W' : World} {v : Value} {bs : List (List Off)} (h : KOut la ha W W') (hb : Buys W (lo ≤ ·) v bs) (hl : ha ≤ lo) : Buys W' (lo ≤ ·) v bs :=
  hb.keep h.size fun b hlt hr => h.same b hlt (.inr (Nat.le_trans hl hr))
theorem KOut.lent {la ha lo g c : Nat} {W W' : World} {l : List Off} (h : KOut la ha W W') (hm : LentO W lo g c l) (hg : g < la) : LentO W' lo g c l :=
  ⟨own_keep hm.1 fun g' e => by cases e; exact h.same g hm.mark.2.2.2.2.2 (.inl hg), hm.2⟩

/-- in between: the lists from i on are as they were -/
structure ZK (la ha n : Nat) (Aa : Option Addr) (ca : Nat) (vs : List Value) (bs : List (List Off)) (w W0 : World) (i : Nat) (W : World) : Prop where
  out : W.ownsRow la 26 1 (.slice Aa n ca) n vs
  rows : ∀ (j : Nat) (l : List Off), i ≤ j → bs[j]? = some l → ∃ A c, vs[j]? = some (.slice A l.length c) ∧ W.ownsRow la 53 2 (.slice A l.length c) l.length (Off.all l) ∧ ∀ o ∈ l, o.wf
  old : KOut la ha W0 W
  bel : Below w.heap.size w W
theorem ZK.grow {la ha n ca i : Nat} {Aa : Option Addr} {vs : List Value} {bs : List (List Off)} {w W0 W W' : World} (h : ZK la ha n Aa ca vs bs w W0 i W) (hb : Below W.heap.size W W') : ZK la ha n Aa ca vs bs w W0 i W' :=
  ⟨own_grow h.out hb, fun j l hj hl => let ⟨A, c, h1, h2, h3⟩ := h.rows j l hj hl; ⟨A, c, h1, own_grow h2 hb, h3⟩, h.old.below hb, h.bel.trans (hb.mono h.bel.size)⟩
theorem ZK.set {la ha n ca i i0 g m : Nat} {Aa : Option Addr} {vs : List Value} {bs : List (List Off)} {w W0 W : World} {u : Value} {ys : List Value} (h : ZK la ha n Aa ca vs bs w W0 i W)
    (hsep : ∀ (i j : Nat) (u u' : Value) (g : Nat), i ≠ j → vs[i]? = some u → vs[j]? = some u' → u.ownBlock = some g → u'.ownBlock ≠ some g) (hu : vs[i0]? = some u) (hg : u.ownBlock = some g) (hi : i0 < i) (h1 : la ≤ g) (h2 : g < ha) (hw : w.heap.size ≤ la)
    (hrow : W.ownsRow la 53 2 u m ys) (j : Nat) (x : Value) : ZK la ha n Aa ca vs bs w W0 i (W.setCell ⟨g, j, none⟩ x) := by
  have hgb := grownBy_setCell W ⟨g, j, none⟩ x
  refine ⟨own_far h.out hgb fun k e he => ?_, fun q l hq hl => ?_, h.old.set h1 h2 _, h.bel.setCell (p := ⟨g, j, none⟩) (by simp; omega) _⟩
  · simp at e
    subst e
    exact own_ne h.out hrow (by decide) he hg
  · obtain ⟨A, c, a1, a2, a3⟩ := h.rows q l hq hl
    exact ⟨A, c, a1, own_far a2 hgb fun k e he => by simp at e; subst e; exact hsep i0 q u _ _ (by omega) hu a1 hg he, a3⟩


end Go.Proofs.YtcigobiolbojhaaGreat.Vb

/- Law 29: lists lent, as they lie; whatever they hold behind the storing over. -/
namespace Go.Proofs.YtcigobiolbojhaaGreat.Vb
open Go.RowKit

/-- lists in memory of their own, whatever they hold -/
def GivX (w : World) (lo N : Nat) (v : Value) (bs : List (List Off)) : Prop :=
  ∃ vs, w.ownsRow lo 26 1 v bs.length vs ∧ ∀ (k : Nat) (l : List Off), bs[k]? = some l → ∃ b cap xs, vs[k]? = some (.slice (some ⟨b, 0, none⟩) l.length cap) ∧ lo ≤ b ∧ b < N ∧
    w.ownsRow lo 53 2 (.slice (some ⟨b, 0, none⟩) (l.length + 1) cap) (l.length + 1) xs
theorem own_setX {w : World} {base : Nat} {e : TypeId} {sz n cap g : Nat} {xs : List Value} (h : w.ownsRow base e sz (.slice (some ⟨g, 0, none⟩) n cap) n xs) (b j : Nat) (u : Value) : ∃ xs', (w.setCell ⟨b, j, none⟩ u).ownsRow base e sz (.slice (some ⟨g, 0, none⟩) n cap) n xs' := by
  by_cases hb : b = g
  · subst hb; exact ⟨_, (h.stored j u).1⟩
  · exact ⟨xs, own_far h (grownBy_setCell w ⟨b, j, none⟩ u) (fun x e => by simp at e; simp [Value.ownBlock]; omega)⟩
theorem GivX.set {w : World} {lo N : Nat} {v : Value} {bs : List (List Off)} (h : GivX w lo N v bs) {b j n cap : Nat} {xs : List Value} (hb : w.ownsRow lo 53 2 (.slice (some ⟨b, 0, none⟩) n cap) n xs) (u : Value) : GivX (w.setCell ⟨b, j, none⟩ u) lo N v bs := by
  obtain ⟨vs, hs, ho⟩ := h
  refine ⟨vs, own_far hs (grownBy_setCell w ⟨b, j, none⟩ u) (fun g e => ?_), fun k l hk => ?_⟩
  · simp at e
    subst e
    exact own_ne hb hs (by decide) rfl
  · obtain ⟨b', c, ys, h1, h2, h3, h4⟩ := ho k l hk
    obtain ⟨ys', h5⟩ := own_setX h4 b j u
    exact ⟨b', c, ys', h1, h2, h3, h5⟩

/-- lists in memory of their own, each with a mark behind -/
def LentB (w : World) (lo : Nat) (v : Value) (bs : List (List Off)) : Prop :=
  ∃ vs, w.ownsRow lo 26 1 v bs.length vs ∧ ∀ (k : Nat) (l : List Off), bs[k]? = some l → ∃ g c, vs[k]? = some (.slice (some ⟨g, 0, none⟩) l.length c) ∧ LentO w lo g c l
theorem LentB.nil (w : World) (lo : Nat) : LentB w lo (.slice none 0 0) [] := ⟨[], World.ownsRow_nil _ _ _ _, fun k l hk => by simp at hk⟩
theorem LentO.mono {w : World} {lo lo' g c : Nat} {l : List Off} (h : LentO w lo g c l) (hl : lo' ≤ lo) : LentO w lo' g c l := ⟨own_mono h.1 hl, h.2⟩
theorem LentO.far {w w' : World} {lo g c : Nat} {l : List Off} {row : Option Nat} (h : LentO w lo g c l) (hg : w.grownBy w' row) (hr : ∀ k, row = some k → k < lo) : LentO w' lo g c l := ⟨own_lo h.1 hg hr, h.2⟩
theorem LentB.grow {w w' : World} {lo : Nat} {v : Value} {bs : List (List Off)} (h : LentB w lo v bs) (hb : Below w.heap.size w w') : LentB w' lo v bs := by
  obtain ⟨vs, hs, ho⟩ := h
  exact ⟨vs, own_grow hs hb, fun k l hk => let ⟨b, c, h1, h2⟩ := ho k l hk; ⟨b, c, h1, h2.grow hb⟩⟩
theorem LentB.mono {w : World} {lo lo' : Nat} {v : Value} {bs : List (List Off)} (h : LentB w lo v bs) (hl : lo' ≤ lo) : LentB w lo' v bs := by
  obtain ⟨vs, hs, ho⟩ := h
  exact ⟨vs, own_mono hs hl, fun k l hk => let ⟨b, c, h1, h2⟩ := ho k l hk; ⟨b, c, h1, h2.mono hl⟩⟩
theorem LentB.far {w w' : World} {lo : Nat} {v : Value} {bs : List (List Off)} {row : Option Nat} (h : LentB w lo v bs) (hg : w.grownBy w' row) (hr : ∀ k, row = some k → k < lo) : LentB w' lo v bs := by
  obtain ⟨vs, hs, ho⟩ := h
  exact ⟨vs, own_lo hs hg hr, fun k l hk => let ⟨b, c, h1, h2⟩ := ho k l hk; ⟨b, c, h1, h2.far hg hr⟩⟩
/-- a store into one of the outer rows of another list keeps these -/
theorem LentB.row {w w' : World} {lo : Nat} {v : Value} {bs : List (List Off)} {row : Option Nat} (h : LentB w lo v bs) (hg : w.grownBy w' row) (h1 : ∀ g, row = some g → v.ownBlock ≠ some g) (h2 : ∀ g c l, LentO w lo g c l → row ≠ some g) : LentB w' lo v bs := by
  obtain ⟨vs, hs, ho⟩ := h
  exact ⟨vs, own_far hs hg h1, fun k l hk => let ⟨b, c, h3, h4⟩ := ho k l hk; ⟨b, c, h3, own_far h4.1 hg (fun g e e2 => by simp [Value.ownBlock] at e2; subst e2; exact h2 _ _ _ h4 e), h4.2⟩⟩
theorem LentB.buys {w : World} {lo : Nat} {v : Value} {bs : List (List Off)} (h : LentB w lo v bs) : Buys w (lo ≤ ·) v bs := by
  obtain ⟨vs, hs, ho⟩ := h
  exact ⟨vs, Sl.own_from hs, fun k l hk => let ⟨b, c, h1, h2⟩ := ho k l hk; ⟨_, h1, h2.offs⟩⟩
/-- One list more. -/
theorem LentB.snoc {w w' : World} {lo : Nat} {v : Value} {bs : List (List Off)} {vs : List Value} {l : List Off} {b cap : Nat} {A' : Option Addr} {cap' n : Nat} (hn : bs.length = n)
    (hs : w.ownsRow lo 26 1 v n vs)
    (ho : ∀ (k : Nat) (l : List Off), bs[k]? = some l → ∃ g c, vs[k]? = some (.slice (some ⟨g, 0, none⟩) l.length c) ∧ LentO w lo g c l)
    (hl : LentO w lo b cap l)
    (hown : w'.ownsRow lo 26 1 (.slice A' (n + 1) cap') (n + 1) (vs ++ [.slice (some ⟨b, 0, none⟩) l.length cap])) (hg : w.grownBy w' v.ownBlock) : LentB w' lo (.slice A' (n + 1) cap') (bs ++ [l]) := by
  subst hn
  have hlen : vs.length = bs.length := by simpa using hs.1
  have step : ∀ {g c : Nat} {l : List Off}, LentO w lo g c l → LentO w' lo g c l := fun h => ⟨own_far h.1 hg fun g e => own_ne hs h.1 (by decide) e, h.2⟩
  refine ⟨vs ++ [.slice (some ⟨b, 0, none⟩) l.length cap], by simpa using hown, fun k l' hk => ?_⟩
  by_cases hkl : k < bs.length
  · rw [List.getElem?_append_left hkl] at hk
    obtain ⟨b', c', h1, h2⟩ := ho k l' hk
    exact ⟨b', c', by rw [List.getElem?_append_left (by omega)]; exact h1, step h2⟩
  · have : k = bs.length := by
      rcases Nat.lt_or_ge k (bs ++ [l]).length with h | h
      · simp at h; omega
      · rw [List.getElem?_eq_none h] at hk; cases hk
    subst this
    simp at hk
    subst hk
    exact ⟨b, cap, by rw [← hlen]; simp, step hl⟩
theorem LentB.at_ {w : World} {lo n c : Nat} {A : Option Addr} {bs : List (List Off)} (h : LentB w lo (.slice A n c) bs) {k : Nat} {l : List Off} (hk : bs[k]? = some l) (hn : bs.length = n) :
    ∃ b o g cl, A = some ⟨b, o, none⟩ ∧ b < w.heap.size ∧ w.cell? ⟨b, o + k, none⟩ = some (.slice (some ⟨g, 0, none⟩) l.length cl) ∧ LentO w lo g cl l := by
  subst hn
  obtain ⟨vs, hs, ho⟩ := h
  have hkl : k < bs.length := (List.getElem?_eq_some_iff.1 hk).1
  obtain ⟨b, o, h1, h2, h3⟩ := own_at hs (by omega)
  obtain ⟨g, cl, h4, h5⟩ := ho k l hk
  exact ⟨b, o, g, cl, h1, h2, h3 k _ h4, h5⟩
theorem LentB.givX {w w' : World} {lo N : Nat} {v : Value} {bs : List (List Off)} (h : LentB w lo v bs) (hN : w.heap.size ≤ N) (hb : Below w.heap.size w w') : GivX w' lo N v bs := by
  obtain ⟨vs, hs, ho⟩ := h
  refine ⟨vs, own_grow hs hb, fun k l hk => ?_⟩
  obtain ⟨b, c, h1, h2⟩ := ho k l hk
  have := h2.1.lt b rfl
  exact ⟨b, c, _, h1, this.1, by omega, own_grow h2.1 hb⟩
theorem GivX.grow {w w' : World} {lo N : Nat} {v : Value} {bs : List (List Off)} (h : GivX w lo N v bs) (hb : Below w.heap.size w w') : GivX w' lo N v bs := by
  obtain ⟨vs, hs, ho⟩ := h
  exact ⟨vs, own_grow hs hb, fun k l hk => let ⟨b, c, ys, h1, h2, h3, h4⟩ := ho k l hk; ⟨b, c, ys, h1, h2, h3, own_grow h4 hb⟩⟩
theorem GivX.at_ {w : World} {lo N n c : Nat} {A : Option Addr} {bs : List (List Off)} (h : GivX w lo N (.slice A n c) bs) {k : Nat} {l : List Off} (hk : bs[k]? = some l) (hn : bs.length = n) :
    ∃ b o g cl ys, A = some ⟨b, o, none⟩ ∧ b < w.heap.size ∧ w.cell? ⟨b, o + k, none⟩ = some (.slice (some ⟨g, 0, none⟩) l.length cl) ∧ lo ≤ g ∧ g < N ∧ w.ownsRow lo 53 2 (.slice (some ⟨g, 0, none⟩) (l.length + 1) cl) (l.length + 1) ys := by
  subst hn
  obtain ⟨vs, hs, ho⟩ := h
  have hkl : k < bs.length := (List.getElem?_eq_some_iff.1 hk).1
  obtain ⟨b, o, h1, h2, h3⟩ := own_at hs (by omega)
  obtain ⟨g, cl, ys, h4, h5, h6, h7⟩ := ho k l hk
  exact ⟨b, o, g, cl, ys, h1, h2, h3 k _ h4, h5, h6, h7⟩

/-- behind the storing over: where all lies, what else is as it was -/
structure GvZ (la ha g c : Nat) (vb vs : Value) (tr : List Off) (bs ts : List (List Off)) (w W0 W : World) : Prop where
  ob : GivX W la ha vb bs
  ot : GivX W la ha vs ts
  tt : ∃ ys, W.ownsRow la 53 2 (.slice (some ⟨g, 0, none⟩) (tr.length + 1) c) (tr.length + 1) ys
  gh : g < ha
  old : KOut la ha W0 W
  bel : Below w.heap.size w W
theorem GvZ.set {la ha g c : Nat} {vb vs : Value} {tr : List Off} {bs ts : List (List Off)} {w W0 W : World} (h : GvZ la ha g c vb vs tr bs ts w W0 W) (hw : w.heap.size ≤ la) {b n cap : Nat} {xs : List Value} (hb : W.ownsRow la 53 2 (.slice (some ⟨b, 0, none⟩) n cap) n xs) (hlt : b < ha) (j : Nat) (u : Value) :
    GvZ la ha g c vb vs tr bs ts w W0 (W.setCell ⟨b, j, none⟩ u) := by
  obtain ⟨ys, hy⟩ := h.tt
  have hlb := (hb.lt b rfl).1
  exact ⟨h.ob.set hb u, h.ot.set hb u, own_setX hy b j u, h.gh, h.old.set (p := ⟨b, j, none⟩) hlb hlt u, h.bel.setCell (p := ⟨b, j, none⟩) (by simp; omega) u⟩
theorem GvZ.grow {la ha g c : Nat} {vb vs : Value} {tr : List Off} {bs ts : List (List Off)} {w W0 W W' : World} (h : GvZ la ha g c vb vs tr bs ts w W0 W) (hb : Below W.heap.size W W') : GvZ la ha g c vb vs tr bs ts w W0 W' := by
  obtain ⟨ys, hy⟩ := h.tt
  exact ⟨h.ob.grow hb, h.ot.grow hb, ⟨ys, own_grow hy hb⟩, h.gh, h.old.below hb, h.bel.trans (hb.mono h.bel.size)⟩

/-- more than 40 of anything -/
def big40 (l : List Off) : Bool := decide (40 < l.length)
def great29 (tr : List Off) (bs ts : List (List Off)) : Bool := (tr :: (bs ++ ts)).any big40 || decide (40 < bs.length) || decide (40 < ts.length)
theorem great29_no {tr : List Off} {bs ts : List (List Off)} (h : great29 tr bs ts = false) : tr.length ≤ 40 ∧ (∀ l ∈ bs, l.length ≤ 40) ∧ (∀ l ∈ ts, l.length ≤ 40) ∧ bs.length ≤ 40 ∧ ts.length ≤ 40 := by
  unfold great29 at h
  simp only [Bool.or_eq_false_iff, decide_eq_false_iff_not, List.any_eq_false] at h
  obtain ⟨⟨h1, h2⟩, h3⟩ := h
  have hb : ∀ l ∈ tr :: (bs ++ ts), l.length ≤ 40 := fun l hl => by have := h1 l hl; simp [big40] at this; omega
  exact ⟨hb tr (by simp), fun l hl => hb l (by simp [hl]), fun l hl => hb l (by simp [hl]), by omega, by omega⟩
end Go.Proofs.YtcigobiolbojhaaGreat.Vb

/- The reference of layer 8: Lower. -/
namespace Go.Proofs.YtcigobiolbojhaaGreat.Vb
open Go.RowKit

set_option maxRecDepth 100000 in
set_option maxHeartbeats 1600000 in
theorem refLower08_any (c : Int) (hc0 : 0 ≤ c) (hc : c ≤ 9223372036854775807) (l : List Off) (v : Value) (R : Nat → Prop) (w : World) (hl : Offs w R v l) (hsm : l.length ≤ 64) (hpos : ∀ o ∈ l, 1 ≤ o.c) :
    Calls Tryz.prog 103 #[.int .i64 c, v] w fun e w' => ∃ A' cap', e = .returned (.slice A' (lowL c l).length cap') ∧ w'.ownsRow w.heap.size 53 2 (.slice A' (lowL c l).length cap') (lowL c l).length (Off.all (lowL c l)) ∧ Below w.heap.size w w' := by
  have HL := Lib.hid hl
  obtain ⟨⟨_, A, cap, rfl, hncap, hcap, _⟩, hwf⟩ := hl
  unfold maxLen at hcap
  have HWF := Lib.hid hwf
  have HPOS := Lib.hid hpos
  clear hwf hpos
  go_enter Tryz.func103, Tryz.ntmps103
  go_wp2
  go_loopw [5, 6] (fun s i wr => ∃ k : Nat, k ≤ l.length ∧ i = .int .i64 k ∧ (∃ A' cap', s = .slice A' (lowL c (l.take k)).length cap' ∧ wr.ownsRow w.heap.size 53 2 (.slice A' (lowL c (l.take k)).length cap') (lowL c (l.take k)).length (Off.all (lowL c (l.take k)))) ∧
      Below w.heap.size w wr) (fun _ i _ => l.length - (intOf i).toNat)
  case atStart => exact ⟨0, Nat.zero_le _, rfl, ⟨_, _, rfl, World.ownsRow_nil _ _ _ _⟩, Below.refl _ _⟩
  case round =>
    obtain ⟨k, hk, rfl, ⟨A', cap', rfl, hob⟩, hb⟩ := hrel
    by_cases hlt : k < l.length
    · obtain ⟨o, ho⟩ : ∃ o, l[k]? = some o := ⟨_, List.getElem?_eq_getElem hlt⟩
      obtain ⟨bq, off, rfl, hbq, q0, q1⟩ := (HL.out.grow hb).at_ ho
      have hwo := HWF.out o (List.mem_of_getElem? ho)
      have hpo := HPOS.out o (List.mem_of_getElem? ho)
      unfold Off.wf at hwo
      have hlen := lowL_len c (l.take k)
      have hlen2 : (lowL c (l.take k)).length ≤ 64 := by simp at hlen; omega
      have HT := Lib.hid (lowL_take (c := c) ho)
      have HO := Lib.hid hob
      have HB := Lib.hid hb
      have hsz := hb.size
      have hnl : ¬ o.c < 1 := by omega
      clear hob hb hlen ho
      obtain ⟨og, oc⟩ := o
      simp only at *
      by_cases hgt : c < oc
      · have HT2 := Lib.hid (show lowL c (l.take (k + 1)) = lowL c (l.take k) ++ [⟨og, oc - c⟩] by rw [HT.out, if_pos hgt])
        have hnle : ¬ oc ≤ c := by omega
        by_cases hcp : 0 < c
        · go_wp2_with (at_builtin; go_must (refine wpList_app _ rfl (.tmp 38) (.tmp 40) et_off rfl w.heap.size (.slice A' (lowL c (l.take k)).length cap') _ _ rfl ((own_alloc (own_alloc HO.out _) _)) (fun _ => True) (.slice (some ⟨wr.heap.size + 1, 0, none⟩) 1 1) 1 [.int .u32 og, .int .i64 (oc - c)] rfl (Sl.blk (sz := 2) (cs := #[.int .u32 og, .int .i64 (oc - c)]) (t := 53) (Blk.new' _ _ (by simp)) (Nat.le_refl 1) (by unfold maxLen; omega) rfl) (by simp [Value.oneCell']) (by omega) (by unfold maxLen; omega) (by simp; omega) ?_); intro A3 cap3 w3 hown3 hg3 hloc3; have HW3 := Lib.hid hown3; have HG3 := Lib.hid hg3; clear hown3 hg3 hloc3)
          go_roundw
          case rel =>
            have hlen3 : (lowL c (l.take (k + 1))).length = (lowL c (l.take k)).length + 1 := by rw [HT2.out]; simp
            refine ⟨k + 1, by omega, by go_num, ⟨A3, cap3, by rw [hlen3], ?_⟩, ?_⟩
            · rw [hlen3, HT2.out, ← Off.all_snoc]
              exact HW3.out
            · exact ((HB.out.alloc (by omega) _).alloc (by simp; omega) _).grown HG3.out (by simp; omega) (fun g e => (HO.out.lt g e).1)
          case measure => simp [intOf]; omega
        · obtain rfl : c = 0 := by omega
          go_wp2_with (at_builtin; go_must (refine wpList_app _ rfl (.tmp 38) (.tmp 40) et_off rfl w.heap.size (.slice A' (lowL 0 (l.take k)).length cap') _ _ rfl ((own_alloc (own_alloc HO.out _) _)) (fun _ => True) (.slice (some ⟨wr.heap.size + 1, 0, none⟩) 1 1) 1 [.int .u32 og, .int .i64 oc] rfl (Sl.blk (sz := 2) (cs := #[.int .u32 og, .int .i64 oc]) (t := 53) (Blk.new' _ _ (by simp)) (Nat.le_refl 1) (by unfold maxLen; omega) rfl) (by simp [Value.oneCell']) (by omega) (by unfold maxLen; omega) (by simp; omega) ?_); intro A3 cap3 w3 hown3 hg3 hloc3; have HW3 := Lib.hid hown3; have HG3 := Lib.hid hg3; clear hown3 hg3 hloc3)
          go_roundw
          case rel =>
            have hlen3 : (lowL 0 (l.take (k + 1))).length = (lowL 0 (l.take k)).length + 1 := by rw [HT2.out]; simp
            refine ⟨k + 1, by omega, by go_num, ⟨A3, cap3, by rw [hlen3], ?_⟩, ?_⟩
            · rw [hlen3, HT2.out, ← Off.all_snoc]
              simpa using HW3.out
            · exact ((HB.out.alloc (by omega) _).alloc (by simp; omega) _).grown HG3.out (by simp; omega) (fun g e => (HO.out.lt g e).1)
          case measure => simp [intOf]; omega
      · have HT2 := Lib.hid (show lowL c (l.take (k + 1)) = lowL c (l.take k) by rw [HT.out, if_neg hgt, List.append_nil])
        have hle : oc ≤ c := by omega
        have hcp : 0 < c := by omega
        go_wp2
        go_roundw
        case rel =>
          refine ⟨k + 1, by omega, by go_num, ⟨A', cap', by rw [HT2.out], ?_⟩, HB.out.alloc (by omega) _⟩
          rw [HT2.out]
          exact own_alloc HO.out _
        case measure => simp [intOf]; omega
    · obtain rfl : k = l.length := by omega
      rw [List.take_length] at *
      have HO := Lib.hid hob
      have HB := Lib.hid hb
      clear hob hb
      go_wp2
      go_ret
      exact ⟨_, _, rfl, HO.out, HB.out⟩
end Go.Proofs.YtcigobiolbojhaaGreat.Vb

/- Sets of goods as ints. -/
namespace Go.Proofs.YtcigobiolbojhaaGreat.Vb
open Go.RowKit

theorem ofInt_i64 (a : Nat) (ha : a < 9223372036854775808) : (BitVec.ofInt 64 (a : Int)).toNat = a := by
  simp [BitVec.toNat_ofInt]; omega
theorem i64_and_nat (a b : Nat) (ha : a < 9223372036854775808) (hb : b < 9223372036854775808) : bits .and .i64 (a : Int) (b : Int) = ((a &&& b : Nat) : Int) := by
  have hx : a &&& b ≤ a := Nat.and_le_left
  show IntKind.i64.wrap ((BitVec.ofInt 64 (a : Int) &&& BitVec.ofInt 64 (b : Int)).toNat : Int) = _
  rw [BitVec.toNat_and, ofInt_i64 a ha, ofInt_i64 b hb]
  exact IntWalk.i64_in _ (by omega)
theorem add_or (x : Nat) : ∀ y : Nat, x &&& y = 0 → x + y = x ||| y := by
  induction x using Nat.strongRecOn with
  | _ x ih =>
    intro y h
    rcases Nat.eq_zero_or_pos x with h0 | h0
    · subst h0; simp
    · have h1 := ih (x / 2) (by omega) (y / 2) (by rw [← Nat.and_div_two, h])
      rw [← Nat.or_div_two] at h1
      have h3 : (x ||| y) % 2 = 1 ↔ x % 2 = 1 ∨ y % 2 = 1 := Nat.or_mod_two_eq_one
      have h4 : (x &&& y) % 2 = 1 ↔ x % 2 = 1 ∧ y % 2 = 1 := Nat.and_mod_two_eq_one
      rw [h] at h4
      omega
theorem and_split (a f : Nat) (ha : a < 4294967296) (hf : f < 4294967296) : (a &&& f) + andNot a f = a := by
  unfold andNot
  have hb : ∀ i, 32 ≤ i → a.testBit i = false := fun i hi => Nat.testBit_lt_two_pow (Nat.lt_of_lt_of_le (show a < 2 ^ 32 from ha) (Nat.pow_le_pow_right (by decide) hi))
  have hn : ∀ i, i < 32 → (4294967295 - f).testBit i = !f.testBit i := fun i hi => by
    rw [show 4294967295 - f = 2 ^ 32 - (f + 1) from by omega, Nat.testBit_two_pow_sub_succ (by omega), decide_eq_true hi]; rfl
  rw [add_or]
  · apply Nat.eq_of_testBit_eq
    intro i
    simp only [Nat.testBit_or, Nat.testBit_and]
    rcases Nat.lt_or_ge i 32 with hi | hi
    · rw [hn i hi]; cases a.testBit i <;> cases f.testBit i <;> rfl
    · rw [hb i hi]; rfl
  · apply Nat.eq_of_testBit_eq
    intro i
    simp only [Nat.testBit_and, Nat.zero_testBit]
    rcases Nat.lt_or_ge i 32 with hi | hi
    · rw [hn i hi]; cases a.testBit i <;> cases f.testBit i <;> rfl
    · rw [hb i hi]; rfl
theorem sub_iff {a f : Nat} (ha : a < 4294967296) (hf : f < 4294967296) : a &&& f = a ↔ andNot a f = 0 := by
  have := and_split a f ha hf
  omega
theorem sub_andNot {a f : Nat} (ha : a < 4294967296) (hf : f < 4294967296) (h : a &&& f = a) : (f : Int) - (a : Int) = ((andNot f a : Nat) : Int) := by
  have h1 := and_split f a hf ha
  rw [Nat.and_comm, h] at h1
  omega
end Go.Proofs.YtcigobiolbojhaaGreat.Vb

/- The reference of layer 15: the table. -/
namespace Go.Proofs.YtcigobiolbojhaaGreat.Vb
open Go.RowKit

set_option maxHeartbeats 1600000 in
set_option maxRecDepth 100000 in
theorem table15_any (m S : Nat) (h0 : 1 ≤ m) (h1 : m ≤ 10) (hS : S = 2 ^ m) (bs : List (List Off)) (v : Value) (R : Nat → Prop) (w : World) (hl : Buys w R v bs) (hok : Okb bs) :
    Calls Tryz.prog 102 #[.agg #[.int .i64 m, v]] w fun e w' => ∃ gT hi F, e = .returned (.slice (some ⟨gT, 0, none⟩) (bs.length + 1) (bs.length + 1)) ∧
      TabAt w' gT hi S bs.length 0 F bs ∧ w.heap.size ≤ gT ∧ Below w.heap.size w w' := by
  obtain ⟨vs, ⟨hlen, A, cap, rfl, hncap, hcap, hcells⟩, hvs⟩ := id hl
  have hS1 : S ≤ 1024 := by rw [hS]; exact Nat.le_trans (Nat.pow_le_pow_right (by omega) h1) (by decide)
  have hS0 : 0 < S := by rw [hS]; exact Nat.two_pow_pos m
  have hN := hok.1
  have hmk1 : ∀ W : World, (Instr.makeSlice 151 (.int .i64 ((bs.length : Int) + 1)) (.int .i64 ((bs.length : Int) + 1))).run Tryz.prog W = .ok (.slice (some ⟨W.heap.size, 0, none⟩) (bs.length + 1) (bs.length + 1)) (W.alloc (.cells (madeCells #[.slice none 0 0] (bs.length + 1)) 37)) := fun W => by
    rw [show ((bs.length : Int) + 1) = ((bs.length + 1 : Nat) : Int) from by omega]
    exact run_make_row' (P := Tryz.prog) 151 37 (.slice none 0 0) 24 Tryz.underlying151 (by kernel_rfl) rfl .i64 .i64 (bs.length + 1) (by omega) (by omega) W
  have hmk2 : ∀ W : World, (Instr.makeSlice 37 (.int .i64 (S : Int)) (.int .i64 (S : Int))).run Tryz.prog W = .ok (.slice (some ⟨W.heap.size, 0, none⟩) S S) (W.alloc (.cells (madeCells #[.int .i64 0] S) 2)) := fun W =>
    run_make_row' (P := Tryz.prog) 37 2 (.int .i64 0) 8 Tryz.underlying37 (by kernel_rfl) rfl .i64 .i64 S (by omega) (by omega) W
  have HC := Lib.hid hcells
  have HV := Lib.hid hvs
  have HOK := Lib.hid hok
  have HS := Lib.hid hS
  clear hcells hvs hok hlen hcap hl
  go_enter Tryz.func102, Tryz.ntmps102
  go_wp2_with fail
  go_loop [3, 4] (fun s i => ∃ j : Nat, j ≤ m ∧ i = .int .i64 j ∧ s = .int .i64 ((2 ^ j : Nat) : Int)) (fun _ i => m - (intOf i).toNat)
  case atStart => exact ⟨0, Nat.zero_le _, rfl, rfl⟩
  case round =>
  obtain ⟨j, hj, rfl, rfl⟩ := hrel
  by_cases hlt : j < m
  · have hp2 : 2 ^ j ≤ 1024 := Nat.le_trans (Nat.pow_le_pow_right (by omega) (show j ≤ 10 by omega)) (by decide)
    have hp3 : 2 ^ (j + 1) = 2 * 2 ^ j := by rw [Nat.pow_succ, Nat.mul_comm]
    obtain ⟨q, hq⟩ : ∃ q, q = 2 ^ j := ⟨_, rfl⟩
    rw [← hq] at hp2 hp3
    have hmul : IntKind.i64.wrap (2 * (q : Int)) = ((2 * q : Nat) : Int) := IntWalk.i64_in _ (by omega)
    rw [← hq]
    clear hS hq
    go_wp2
    go_round
    case rel => exact ⟨j + 1, by omega, by go_num, by rw [hp3]; exact congrArg _ (by omega)⟩
    case measure => simp [intOf]; omega
  obtain rfl : m = j := by omega
  rw [← hS]
  clear hS
  go_wp2_with fail
  have hw0 : ∃ W0, W0 = (w.alloc (.cells #[.int .i64 m, .slice A bs.length cap] 24)).alloc (.cells (madeCells #[.slice none 0 0] (bs.length + 1)) 37) := ⟨_, rfl⟩
  obtain ⟨W0, hW0⟩ := hw0
  have hX : Blk W0 w.heap.size 24 #[.int .i64 m, .slice A bs.length cap] := by rw [hW0]; exact (Blk.new w _ _).alloc _
  have hT : W0.rowIs (w.heap.size + 1) 37 (bs.length + 1) (fun _ => .slice none 0 0) := by rw [hW0]; simpa using World.rowIs_made (w.alloc (.cells #[.int .i64 m, .slice A bs.length cap] 24)) (.slice none 0 0) (bs.length + 1) 37
  have hbw : Below w.heap.size w W0 := by rw [hW0]; exact ((Below.refl _ _).alloc (Nat.le_refl _) _).alloc (by simp) _
  have hsz : W0.heap.size = w.heap.size + 2 := by rw [hW0]; simp
  rw [← hW0]
  have x1 : W0.cell? ⟨w.heap.size, 1, none⟩ = some (.slice A bs.length cap) := hX.cell 1
  have x1' := cellAlloc x1
  have t1 := fun o : Obj => (hT.alloc o).cell (i := bs.length) (by omega)
  have t2 := fun o : Obj => (hT.alloc o).frozen bs.length
  have HX := Lib.hid hX
  have HT := Lib.hid hT
  have HBW := Lib.hid hbw
  clear hX hT hbw hW0
  go_region
  go_wp2_with fail
  go_loopw [6] (fun i wr => ∃ (k : Nat) (F : Nat → Value), k ≤ bs.length ∧ i = .int .i64 ((k : Int) - 1) ∧ TabAt wr (w.heap.size + 1) wr.heap.size S bs.length k F bs ∧ Blk wr w.heap.size 24 #[.int .i64 m, .slice A bs.length cap] ∧ Below w.heap.size w wr) (fun i _ => (intOf i + 1).toNat)
  case atStart =>
    refine ⟨bs.length, _, Nat.le_refl _, by go_num, ⟨(((HT.out.set bs.length _).alloc _)), fun k h1 h2 => ?_⟩, ?_, ?_⟩
    · obtain rfl : k = bs.length := by omega
      refine ⟨w.heap.size + 2, by omega, by simp; omega, by simp, ?_⟩
      have hr := World.rowIs_made (W0.setCell ⟨w.heap.size + 1, bs.length, none⟩ (.slice (some ⟨w.heap.size + 2, 0, none⟩) S S)) (.int .i64 0) S 2
      have hz : (W0.setCell ⟨w.heap.size + 1, bs.length, none⟩ (.slice (some ⟨w.heap.size + 2, 0, none⟩) S S)).heap.size = w.heap.size + 2 := by simpa using hsz
      rw [hz] at hr
      exact World.rowIs.congr (g := fun f => .int .i64 (W (bs.drop bs.length) f)) hr (fun i _ => by simp only [W_end])
    · exact ((HX.out.far (by simp) _).alloc _)
    · exact ((HBW.out.setCell (by simp) _).alloc (by simp; omega) _).drew
  case round =>
    obtain ⟨k1, F, hk1, rfl, hT, hX, hb⟩ := hrel
    obtain ⟨wo, rfl⟩ : ∃ wo : World, wo = wr := ⟨_, rfl⟩
    cases k1 with
    | zero =>
      go_wp2_with fail
      go_ret
      exact ⟨_, _, F, rfl, hT, by omega, hb⟩
    | succ k =>
      have hki : (((k + 1 : Nat) : Int) - 1) = (k : Int) := by omega
      rw [hki]
      obtain ⟨s, hs⟩ : ∃ s, s = wo.heap.size := ⟨_, rfl⟩
      have hsg : w.heap.size + 2 ≤ s := by have := hT.1.lt; omega
      have t1 := fun o : Obj => (hT.1.alloc o).cell (i := k) (by omega)
      have t2 := fun o : Obj => (hT.1.alloc o).frozen k
      obtain ⟨bq, off, rfl, _, hbb, hcs⟩ := HC.out (by omega)
      obtain ⟨l, ho⟩ : ∃ l, bs[k]? = some l := ⟨_, List.getElem?_eq_getElem (by omega)⟩
      obtain ⟨u, hu, hol⟩ := HV.out k l ho
      obtain ⟨⟨_, A1, cap1, rfl, hnc1, hcap1, hcs1⟩, hwf1⟩ := hol
      have cq := hcs _ _ hu
      have hll := HOK.out.len ho
      have hT2 : TabAt ((wo.alloc (.cells (madeCells #[.int .i64 0] S) 2)).setCell ⟨w.heap.size + 1, k, none⟩ (.slice (some ⟨wo.heap.size, 0, none⟩) S S)) (w.heap.size + 1) wo.heap.size S bs.length (k + 1) (fun j => if j = k then .slice (some ⟨wo.heap.size, 0, none⟩) S S else F j) bs := by
        refine ⟨(hT.1.alloc _).set k _, fun k' h1 h2 => ?_⟩
        obtain ⟨g, a, b, c, d⟩ := hT.2 k' h1 h2
        exact ⟨g, a, b, by simp only [if_neg (show k' ≠ k by omega)]; exact c, (d.alloc _).setOther (by simp; omega) _⟩
      have hR2 : ((wo.alloc (.cells (madeCells #[.int .i64 0] S) 2)).setCell ⟨w.heap.size + 1, k, none⟩ (.slice (some ⟨wo.heap.size, 0, none⟩) S S)).rowIs wo.heap.size 2 S (rowP bs k 0) := by
        have hr := World.rowIs_made wo (.int .i64 0) S 2
        exact World.rowIs.congr (g := rowP bs k 0) (hr.setOther (a := ⟨w.heap.size + 1, k, none⟩) (by simp; omega) _) (fun i _ => by simp [rowP])
      have hX2 : Blk ((wo.alloc (.cells (madeCells #[.int .i64 0] S) 2)).setCell ⟨w.heap.size + 1, k, none⟩ (.slice (some ⟨wo.heap.size, 0, none⟩) S S)) w.heap.size 24 #[.int .i64 m, .slice (some ⟨bq, off, none⟩) bs.length cap] := (hX.alloc _).far (by simp) _
      have hb2 : Below w.heap.size w ((wo.alloc (.cells (madeCells #[.int .i64 0] S) 2)).setCell ⟨w.heap.size + 1, k, none⟩ (.slice (some ⟨wo.heap.size, 0, none⟩) S S)) := (hb.alloc (by omega) _).setCell (by simp) _
      have hz2 : ((wo.alloc (.cells (madeCells #[.int .i64 0] S) 2)).setCell ⟨w.heap.size + 1, k, none⟩ (.slice (some ⟨wo.heap.size, 0, none⟩) S S)).heap.size = s + 1 := by simp [hs]
      obtain ⟨wA, hwA⟩ : ∃ wA, wA = ((wo.alloc (.cells (madeCells #[.int .i64 0] S) 2)).setCell ⟨w.heap.size + 1, k, none⟩ (.slice (some ⟨wo.heap.size, 0, none⟩) S S)) := ⟨_, rfl⟩
      have HT2 := Lib.hid hT2
      have HR2 := Lib.hid hR2
      have HX2 := Lib.hid hX2
      have HB2 := Lib.hid hb2
      have HZ2 := Lib.hid hz2
      have HO := Lib.hid ho
      have HC1 := Lib.hid hcs1
      have HWA := Lib.hid hwA
      have HHS := Lib.hid hs
      clear hT2 hR2 hX2 hb2 hz2 hT hX hb hcs hcs1 hwf1 ho hu hwA hs
      go_wp2_with fail
      rw [← HWA.out] at HT2 HR2 HX2 HB2 HZ2
      rw [← HWA.out, ← HHS.out]
      rw [← HHS.out] at HT2 HR2
      clear t1 t2
      go_loopw [7] (fun i wr => ∃ f : Nat, f ≤ S ∧ i = .int .i64 f ∧ Below s wA wr ∧ wr.rowIs s 2 S (rowP bs k f)) (fun i _ => S - (intOf i).toNat)
      case atStart => exact ⟨0, Nat.zero_le _, rfl, Below.refl _ _, HR2.out⟩
      case round =>
        obtain ⟨f, hf, rfl, hb2, hr2⟩ := hrel
        obtain ⟨wp, rfl⟩ : ∃ wp : World, wp = wr := ⟨_, rfl⟩
        have HBP := Lib.hid hb2
        have HRP := Lib.hid hr2
        by_cases hlf : f < S
        · have hTp := HT2.out.below hb2 (by omega)
          obtain ⟨g', hg', c0, cs⟩ := hTp.at (k := k + 1) (Nat.le_refl _) (by omega)
          have c1 := cs f hlf
          have hk1i : IntKind.i64.wrap ((k : Int) + 1) = (k : Int) + 1 := IntWalk.i64_in _ (by omega)
          have HTP := Lib.hid hTp
          clear hTp cs hb2 hr2
          go_wp2_with fail
          go_loopw [8, 9] (fun b i wr => ∃ j : Nat, j ≤ l.length ∧ i = .int .i64 j ∧ b = .int .i64 ((l.take j).foldl (stepO (W (bs.drop (k + 1))) f) (W (bs.drop (k + 1)) f)) ∧ Below (s + 1) wp wr) (fun _ i _ => l.length - (intOf i).toNat)
          case atStart => exact ⟨0, Nat.zero_le _, rfl, rfl, Below.refl _ _⟩
          case round =>
            obtain ⟨j, hj, rfl, rfl, hb3⟩ := hrel
            have hbA : Below w.heap.size w wp := HB2.out.trans (HBP.out.mono (by omega))
            have hbw3 : Below w.heap.size w wr := hbA.trans (hb3.mono (by omega))
            have hX3 : Blk wr w.heap.size 24 #[.int .i64 m, .slice (some ⟨bq, off, none⟩) bs.length cap] := (HX2.out.below HBP.out (by omega)).below hb3 (by omega)
            have x1 : wr.cell? ⟨w.heap.size, 1, none⟩ = some (.slice (some ⟨bq, off, none⟩) bs.length cap) := hX3.cell 1
            have q1 := (hbw3.cell hbb).trans cq
            have hTr := HTP.out.below (hb3.mono (by omega)) (by omega)
            have hrr := HRP.out.of_block (hb3.block s (by omega))
            have hsz3 : s + 1 ≤ wr.heap.size := by have := hrr.lt; omega
            have HB3 := Lib.hid hb3
            have HBW3 := Lib.hid hbw3
            by_cases hlj : j < l.length
            · obtain ⟨b1, off1, rfl, _, hb1, hcs1⟩ := HC1.out (by omega)
              obtain ⟨o, ho⟩ : ∃ o, l[j]? = some o := ⟨_, List.getElem?_eq_getElem hlj⟩
              have e0 := (hbw3.cell hb1).trans (hcs1 _ _ (Off.all_fst l j o ho))
              have e1 : wr.cell? ⟨b1, off1 + j * 2 + 1, none⟩ = some (.int .i64 o.c) := (hbw3.cell hb1).trans (hcs1 _ _ (Off.all_snd l j o ho))
              obtain ⟨ho1, ho2, ho3, ho4⟩ := HOK.out.offer HO.out ho
              have hB0 := W_nonneg (bs.drop (k + 1)) (andNot f o.g)
              have hB1 := HOK.out.W_le (k + 1) (andNot f o.g)
              have hsucc : (l.take (j + 1)).foldl (stepO (W (bs.drop (k + 1))) f) (W (bs.drop (k + 1)) f) = stepO (W (bs.drop (k + 1))) f ((l.take j).foldl (stepO (W (bs.drop (k + 1))) f) (W (bs.drop (k + 1)) f)) o := by
                rw [List.take_add_one, ho, List.foldl_append]
                rfl
              have hbits : bits .and .i64 (o.g : Int) (f : Int) = ((o.g &&& f : Nat) : Int) := i64_and_nat o.g f (by omega) (by omega)
              have hfo : andNot f o.g < S := Nat.lt_of_le_of_lt (andNot_le _ _) hlf
              obtain ⟨g2, hg2, p0, ps⟩ := hTr.at (k := k + 1) (Nat.le_refl _) (by omega)
              have p1 := ps _ hfo
              have p0' := cellAlloc p0
              have p1' := cellAlloc p1
              have hwrap : IntKind.i64.wrap (o.g : Int) = o.g := IntWalk.i64_in _ (by omega)
              have HSU := Lib.hid hsucc
              clear hcs1 hsucc hb3 hbw3 hX3 hTr hrr ho ps hbA c0 c1
              generalize hbest : (l.take j).foldl (stepO (W (bs.drop (k + 1))) f) (W (bs.drop (k + 1)) f) = best at *
              have HBE := Lib.hid hbest
              clear hbest
              by_cases hfit : andNot o.g f = 0
              · have hsf := (sub_iff (a := o.g) (f := f) (by omega) (by omega)).2 hfit
                have hfb : (((o.g &&& f : Nat) : Int) == (o.g : Int)) = true := by simp [hsf]
                have hsub : IntKind.i64.wrap ((f : Int) - (o.g : Int)) = ((andNot f o.g : Nat) : Int) := by rw [sub_andNot (by omega) (by omega) hsf]; exact IntWalk.i64_in _ (by omega)
                have HFI := Lib.hid hfit
                have hsum : IntKind.i64.wrap (o.c + W (bs.drop (k + 1)) (andNot f o.g)) = o.c + W (bs.drop (k + 1)) (andNot f o.g) := IntWalk.i64_in _ (by omega)
                clear hfit hsf
                go_wp2_with fail
                go_region
                go_wp2_with fail
                go_roundw
                case rel =>
                  refine ⟨j + 1, by omega, by go_num, ?_, (HB3.out.alloc (by omega) _).drew⟩
                  rw [HSU.out]
                  unfold stepO
                  rw [if_pos HFI.out]
                  congr 1
                  split <;> omega
                case measure => simp [intOf]; omega
              · have hfb : (((o.g &&& f : Nat) : Int) == (o.g : Int)) = false := by have := mt (sub_iff (a := o.g) (f := f) (by omega) (by omega)).1 hfit; simpa using (by omega : ¬ ((o.g &&& f : Nat) : Int) = (o.g : Int))
                have HFI := Lib.hid hfit
                clear hfit
                go_wp2_with fail
                go_roundw
                case rel =>
                  refine ⟨j + 1, by omega, by go_num, ?_, HB3.out.alloc (by omega) _⟩
                  rw [HSU.out]
                  unfold stepO
                  rw [if_neg HFI.out]
                case measure => simp [intOf]; omega
            · obtain rfl : j = l.length := by omega
              rw [List.take_length, ← W_drop HO.out f]
              have p0 := hTr.1.cell (i := k) (by omega)
              simp only [if_true] at p0
              have r0 := hrr.cell hlf
              have rf := hrr.frozen f
              have hw0 := W_nonneg (bs.drop k) f
              have hw1 := HOK.out.W_le k f
              have HRR := Lib.hid hrr
              clear hb3 hbw3 hX3 hTr hrr hbA c0 c1
              go_wp2_with fail
              go_roundw
              case rel =>
                refine ⟨f + 1, by omega, by go_num, (HBP.out.trans (HB3.out.mono (by omega))).setCell (by simp) _, (HRR.out.set f _).congr fun i hi => ?_⟩
                unfold rowP
                by_cases hif : i = f
                · subst hif
                  simp
                · simp only [if_neg hif]
                  by_cases hlt : i < f
                  · rw [if_pos hlt, if_pos (by omega)]
                  · rw [if_neg hlt, if_neg (by omega)]
              case measure => simp [intOf]; omega
        · obtain rfl : f = S := by omega
          go_wp2_with fail
          go_roundw
          case rel =>
            have hT3 := HT2.out.below hb2 (by omega)
            refine ⟨k, _, by omega, by go_num, ⟨hT3.1, fun k' h1 h2 => ?_⟩, HX2.out.below hb2 (by omega), HB2.out.trans (hb2.mono (by omega))⟩
            by_cases hkk : k' = k
            · subst hkk
              exact ⟨s, by omega, hr2.lt, by simp, hr2.congr fun i hi => by simp [rowP, hi]⟩
            · obtain ⟨g, a, b, c, d⟩ := hT3.2 k' (by omega) h2
              exact ⟨g, a, by have := d.lt; omega, c, d⟩
          case measure => simp [intOf]
end Go.Proofs.YtcigobiolbojhaaGreat.Vb

/- The reference of layer 15: what may be asked; a part. -/
namespace Go.Proofs.YtcigobiolbojhaaGreat.Vb
open Go.RowKit

theorem pow_u64 (m : Nat) (h : m ≤ 10) : IntKind.u64.wrap (2 ^ m) = ((2 ^ m : Nat) : Int) := by
  have hp2 : 2 ^ m ≤ 1024 := Nat.le_trans (Nat.pow_le_pow_right (by omega) h) (by decide)
  have h3 : ((2 : Int) ^ m) = ((2 ^ m : Nat) : Int) := by simp
  rw [h3]
  generalize 2 ^ m = s at *
  exact IntWalk.u64_in _ (by omega)

set_option maxHeartbeats 800000 in
theorem wrong15_any (m S : Nat) (h1 : m ≤ 10) (hS : S = 2 ^ m) (bs : List (List Off)) (v : Value) (R : Nat → Prop) (w : World) (hl : Buys w R v bs) (hi : instE (m : Int) bs = 0) :
    Calls Tryz.prog 101 #[.agg #[.int .i64 (m : Int), v], .int .i64 0, .int .u32 ((S - 1 : Nat) : Int)] w fun e w' => e = .returned (.int .i64 0) ∧ Below w.heap.size w w' := by
  obtain ⟨vs, ⟨_, A, cap, rfl, hnc, hcm, hcs⟩, hvs⟩ := id hl
  have hS1 : S ≤ 1024 := by rw [hS]; exact Nat.le_trans (Nat.pow_le_pow_right (by omega) h1) (by decide)
  have hS0 : 0 < S := by rw [hS]; exact Nat.two_pow_pos m
  have hsh : IntKind.u64.wrap (2 ^ m) = (S : Int) := by rw [hS]; exact pow_u64 m h1
  have hcv : IntKind.u64.wrap ((S - 1 : Nat) : Int) = ((S - 1 : Nat) : Int) := IntWalk.u64_in _ (by omega)
  have HB := Lib.hid hl
  have HI := Lib.hid hi
  clear hl hi hcs hvs hS
  go_enter Tryz.func101, Tryz.ntmps101
  go_wp2_with (go_at_call 35; refine (refInstance_any (m : Int) bs _ R _ (HB.out.alloc _)).mono ?_; rintro e w1 ⟨rfl, hb1⟩; rw [HI.out]; obtain ⟨hX, hs1, hbw⟩ := one_blk' hb1; have x0 : w1.cell? ⟨w.heap.size, 0, none⟩ = some (.int .i64 m) := hX.cell 0; have x1 : w1.cell? ⟨w.heap.size, 1, none⟩ = some (.slice A bs.length cap) := hX.cell 1; have HBW := Lib.hid hbw; clear hX hb1 hbw)
  go_ret
  exact ⟨rfl, HBW.out⟩

set_option maxHeartbeats 400000 in
theorem whole15_any (m S : Nat) (h0 : 1 ≤ m) (h1 : m ≤ 10) (hS : S = 2 ^ m) (v : Value) (w : World) (hv : ∃ A n c, v = .slice A n c) :
    Calls Tryz.prog 90 #[.agg #[.int .i64 (m : Int), v]] w fun e w' => e = .returned (.int .u32 ((S - 1 : Nat) : Int)) ∧ Below w.heap.size w w' := by
  obtain ⟨A, n, c, rfl⟩ := hv
  have hS1 : S ≤ 1024 := by rw [hS]; exact Nat.le_trans (Nat.pow_le_pow_right (by omega) h1) (by decide)
  have hS0 : 0 < S := by rw [hS]; exact Nat.two_pow_pos m
  have hsh : IntKind.u32.wrap (2 ^ m) = (S : Int) := by
    rw [show ((2 : Int) ^ m) = ((2 ^ m : Nat) : Int) from by simp, ← hS]
    exact IntWalk.u32_in _ (by omega)
  have hsub : IntKind.u32.wrap ((S : Int) - 1) = ((S - 1 : Nat) : Int) := by
    rw [show (S : Int) - 1 = ((S - 1 : Nat) : Int) from by omega]
    exact IntWalk.u32_in _ (by omega)
  clear hS
  go_enter Tryz.func90, Tryz.ntmps90
  go_wp2
  go_ret
  exact ⟨rfl, (Below.refl _ _).alloc (Nat.le_refl _) _⟩
end Go.Proofs.YtcigobiolbojhaaGreat.Vb

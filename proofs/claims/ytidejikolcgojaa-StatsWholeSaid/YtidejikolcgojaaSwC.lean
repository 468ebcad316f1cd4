/- Stats: the walk of StatsWhole. (Printed by tools/gen_swc.py.) -/
import Derived.Test.YtidejikolcgojaaSwB
import Derived.Test.YtidejikolcgojaaSbB
import Derived.Test.YtidejikolcgojaaSbC
namespace Go.Proofs.Ytidejikolcgojaa.St
open Go.RowKit Go.Shelf
open Go.Proofs.Ytidejikolcgojaa.Vb Go.Proofs.Ytidejikolcgojaa.Ac
theorem run_negF {P : Program} (b : Nat) (w : World) : (Op.unary .neg (.float .f64 b)).run P w = .ok (.float .f64 (Op.negFloat .f64 b)) w := rfl
attribute [local go_sem] run_fadd run_fsub run_fmul run_fdiv run_store_float run_negF

/-- append at a step of a region that draws its order -/
theorem step_appS {P : Program} (w : World) {ops : Array Oper} {o : Oper} {a : Act} {K : Act → World → Prop} {Q : Exit → Act → World → Prop} {E0 : Prop} (hgd : o.guard = none) (s x : Operand) {t e : TypeId} {sz bytes : Nat} (E : ElemT P t e sz bytes)
    (ho : o.op = .call { callee := .builtin .append, args := #[s, x], argTypes := #[t, t] })
    (base : Nat) (v : Value) (n : Nat) (xs : List Value) (hs : a.eval s = v) (hown : w.ownsRow base e sz v n xs)
    (R : Nat → Prop) (v2 : Value) (m : Nat) (news : List Value) (hx : a.eval x = v2) (hr : Sl w R v2 m sz news) (h1 : ∀ u ∈ news, u.oneCell' = true)
    (hbytes : (n + m) * bytes ≤ 140737488355328) (h63 : n + m ≤ maxLen) (hbase : base ≤ w.heap.size)
    (h : ∀ A' cap' w', w'.ownsRow base e sz (.slice A' (n + m) cap') (n + m) (xs ++ news) → w.grownBy w' v.ownBlock → ((Value.slice A' (n + m) cap').ownBlock = v.ownBlock ∨ (Value.slice A' (n + m) cap').ownBlock = some w.heap.size) → K (a.put o.dst (.slice A' (n + m) cap')) w') :
    if Region.wanted o (yielded ops a.tmps) = true then Oper.wp P o a w K Q else E0 := by
  have hw : Region.wanted o (yielded ops a.tmps) = true := by simp [Region.wanted, hgd]
  rw [if_pos hw]
  exact wp_app w s x E ho base v n xs hs hown R v2 m news hx hr h1 hbytes h63 hbase h
theorem ownL_lt {w : World} {base g n c : Nat} {l : List Nat} (h : OwnL w base (.slice (some ⟨g, 0, none⟩) n c) l) : g < w.heap.size := by
  rcases h.1.2 with ⟨h0, _⟩ | ⟨g', cp, cur, hv, _, hg, _⟩
  · cases h0
  · injection hv with hA _ _
    injection hA with hA
    injection hA with hA _
    subst hA
    exact (Array.getElem?_eq_some_iff.1 hg).1
theorem ownL_cap {w : World} {base n c : Nat} {A : Option Addr} {l : List Nat} (h : OwnL w base (.slice A n c) l) (hn : 0 < n) : ∃ g, A = some ⟨g, 0, none⟩ ∧ n ≤ c ∧ c ≤ maxLen ∧ l.length = n ∧ base ≤ g := by
  have hl := h.1.1
  rcases h.1.2 with ⟨hv, _⟩ | ⟨g', cp, cur, hv, hb, hg, h1, h2, h3, h4⟩
  · injection hv with _ hn0 _
    omega
  · injection hv with hA hn hc
    subst hA hn hc
    exact ⟨g', rfl, h1, h2, rfl, hb⟩
theorem own_dropF {w : World} {base g c k : Nat} {l : List Nat} (h : OwnL w base (.slice (some ⟨g, 0, none⟩) l.length c) l) (hk : k < l.length) (h1 : l.length ≤ c) (h2 : c ≤ maxLen) :
    Sl w (· = g) (.slice (some ⟨g, k, none⟩) (l.length - k) (c - k)) (l.length - k) 1 (flts (l.drop k)) := by
  refine ⟨by simp [flts], _, _, rfl, by omega, by omega, fun _ => ⟨g, k, rfl, rfl, ownL_lt h, fun j u hu => ?_⟩⟩
  have hj := (List.getElem?_eq_some_iff.1 hu).1
  simp [flts] at hj
  rw [h.1.cellAt (k + j) (by omega)]
  unfold flts at hu ⊢
  rw [List.getElem?_map, List.getElem?_drop] at hu
  rw [List.getElem?_map]
  exact hu
theorem own_takeF {w : World} {base g c k : Nat} {l : List Nat} (h : OwnL w base (.slice (some ⟨g, 0, none⟩) l.length c) l) (hk : k ≤ l.length) (h1 : l.length ≤ c) (h2 : c ≤ maxLen) :
    Sl w (· = g) (.slice (some ⟨g, 0, none⟩) k c) k 1 (flts (l.take k)) := by
  refine ⟨by simp [flts]; omega, _, _, rfl, by omega, by omega, fun _ => ⟨g, 0, rfl, rfl, ownL_lt h, fun j u hu => ?_⟩⟩
  have hj := (List.getElem?_eq_some_iff.1 hu).1
  simp [flts] at hj
  rw [Nat.zero_add, h.1.cellAt j (by omega)]
  unfold flts at hu ⊢
  rw [List.getElem?_map, List.getElem?_take, if_pos (by omega)] at hu
  rw [List.getElem?_map]
  exact hu
theorem fi_isF {z : Nat} {n : Int} (h : FI (cn z) n) : IsF z (cn z) := by
  obtain ⟨x, h1, h2, _⟩ := h
  obtain ⟨rfl, _⟩ := cn_some h1
  exact isF_self h2
theorem flts_at' {S : List Nat} {j x : Nat} (h : S[j]? = some x) : (flts S)[j]? = some (.float .f64 x) := by
  unfold flts
  rw [List.getElem?_map, h]
  rfl
theorem flts_oneC (l : List Nat) : ∀ u ∈ flts l, u.oneCell' = true := flts_one l
/-- numbers cut to below 2 to the power 40 -/
def rowN (l : List Int) : List Int := l.map fun n => n.tmod 1099511627776
theorem rowN_bd (l : List Int) : Bd (rowN l) := fun n hn => by
  unfold rowN at hn
  obtain ⟨m, _, rfl⟩ := List.mem_map.1 hn
  have h1 := Int.natAbs_tmod m 1099511627776
  rw [h1]
  have := Nat.mod_lt m.natAbs (show 0 < (1099511627776 : Int).natAbs by decide)
  unfold big40
  have e : (1099511627776 : Int).natAbs = 1099511627776 := by decide
  omega
theorem rowN_length (l : List Int) : (rowN l).length = l.length := List.length_map ..
theorem rowN_snoc {l : List Int} {k : Nat} {x : Int} (h : l[k]? = some x) : (rowN l).take (k + 1) = (rowN l).take k ++ [x.tmod 1099511627776] := by
  unfold rowN
  rw [List.take_add_one, List.getElem?_map, h]
  rfl
theorem take_bd {ns : List Int} (h : Bd ns) (k : Nat) : Bd (ns.take k) := fun n hn => h n (List.mem_of_mem_take hn)
theorem ownW_app {W' : World} {base : Nat} {v' : Value} {ns : List Int} {n : Int} {m : Nat} (hm : m = ns.length) (h : W'.ownsRow base 25 1 v' (m + 1) (flts (ns.map wB) ++ [.float .f64 (floatOfInt .f64 n)])) : OwnL W' base v' ((ns ++ [n]).map wB) := by
  subst hm
  rw [List.map_append]
  refine ownL_app row_lt (wB_lt n) ?_
  rw [List.length_map]
  exact h

set_option maxRecDepth 100000 in
set_option maxHeartbeats 16000000 in
theorem statsWhole_walk {l : List Int} {by' : Int} {v : Value} {R : Nat → Prop} {w : World} (h : Sl w R v l.length 1 (ints l)) (hby : int64b by') :
    Calls Try.prog 3 #[v, .int .i64 by'] w fun e w' => e = .returned (.bool true) ∧ Below w.heap.size w w' := by
  obtain ⟨A, cap, rfl, hnc, hcap⟩ : ∃ A c, v = .slice A l.length c ∧ l.length ≤ c ∧ c ≤ maxLen := by
    obtain ⟨_, A, c, hv, h1, h2, _⟩ := h
    exact ⟨A, c, hv, h1, h2⟩
  have HL := Lib.hid h
  have HBY := Lib.hid hby
  clear h hby
  by_cases hg : 500 < l.length
  · have d1 : decide ((500 : Int) < (l.length : Int)) = true := by simp; omega
    clear hg
    go_enter Try.func3, Try.ntmps3
    go_wp2_with fail
    refine (known_any _).mono ?_
    rintro e w1 ⟨rfl, hb⟩
    have HB1 := Lib.hid hb
    clear hb
    go_wp2_with fail
    go_ret
    exact ⟨rfl, HB1.out⟩
  · have d1 : decide ((500 : Int) < (l.length : Int)) = false := by simp; omega
    by_cases he : l = []
    · have d2 : ((l.length : Int) == 0) = true := by rw [he]; rfl
      clear hg he
      go_enter Try.func3, Try.ntmps3
      go_wp2_with fail
      refine (known_any _).mono ?_
      rintro e w1 ⟨rfl, hb⟩
      have HB1 := Lib.hid hb
      clear hb
      go_wp2_with fail
      go_ret
      exact ⟨rfl, HB1.out⟩
    · have d2 : ((l.length : Int) == 0) = false := by
        cases l with
        | nil => exact absurd rfl he
        | cons x r => simp; omega
      have hpos : 0 < l.length := List.length_pos_iff.2 he
      have hle : l.length ≤ 500 := by omega
      have HNE := Lib.hid he
      clear hg he
      go_enter Try.func3, Try.ntmps3
      go_wp2_with fail
      refine (known_any _).mono ?_
      rintro e w1 ⟨rfl, hb⟩
      have HB1 := Lib.hid hb
      have HL1 := Lib.hid (HL.out.grow hb)
      clear hb
      go_wp2_with fail
      go_loopw [5, 6, 7] (fun o s i wr => ∃ k : Nat, k ≤ l.length ∧ i = .int .i64 k ∧ s = .int .i64 ((rowN l).take k).sum ∧ OwnL wr w1.heap.size o (((rowN l).take k).map wB) ∧ Below w1.heap.size w1 wr) (fun _ _ i _ => l.length - (intOf i).toNat)
      case atStart => exact ⟨0, Nat.zero_le _, rfl, rfl, ownL_nil _ _, Below.refl _ _⟩
      case round =>
        obtain ⟨k, hk, rfl, rfl, ho, hb⟩ := hrel
        have HO := Lib.hid ho
        have HB := Lib.hid hb
        obtain ⟨B1, c1, rfl⟩ := ownL_form ho
        have htl : (((rowN l).take k).map wB).length = k := by rw [List.length_map, List.length_take, rowN_length]; omega
        rw [htl] at HO ⊢
        have HTL := Lib.hid htl
        have HSB := Lib.hid (sum_bd (take_bd (rowN_bd l) k))
        clear ho htl
        by_cases hlt : k < l.length
        · obtain ⟨bq, off, x, rfl, hbq, hx, q0⟩ := sl_int_at (HL1.out.grow hb) hlt
          have HSN := Lib.hid (rowN_snoc hx)
          have HXB := Lib.hid (rowN_bd l (x.tmod 1099511627776) (by unfold rowN; exact List.mem_map.2 ⟨x, List.mem_of_getElem? hx, rfl⟩))
          obtain ⟨nk, hnk⟩ : ∃ z, z = x.tmod 1099511627776 := ⟨_, rfl⟩
          obtain ⟨ss, hss⟩ : ∃ z, z = ((rowN l).take k).sum := ⟨_, rfl⟩
          rw [← hnk] at HSN HXB
          rw [← hss] at HSB ⊢
          have hsb := HSB.out
          have hxb := HXB.out
          have hrem : x.tmod 1099511627776 = nk := hnk.symm
          have hadd : IntKind.i64.wrap (ss + nk) = ss + nk := IntWalk.i64_in _ (by unfold big40 at hxb hsb; rw [List.length_take, rowN_length] at hsb; omega)
          have HSS := Lib.hid (show ((rowN l).take (k + 1)).sum = ss + nk by rw [HSN.out, List.sum_append, ← hss]; simp)
          have e1 : (0 : Int) ≤ (k : Int) := by omega
          have e2 : (k : Int) < (l.length : Int) := by omega
          have hsz := hb.size
          obtain ⟨ps, hps⟩ : ∃ z, z = (rowN l).take k := ⟨_, rfl⟩
          rw [← hps] at HO HSN HTL
          clear hx hb hss hsb hxb hps hnk
          go_wp2_with (at_builtin; go_must (have HSL := Lib.hid (show Sl (wr.alloc (.cells #[.float .f64 (floatOfInt .f64 nk)] 25)) (fun _ => True) (.slice (some ⟨wr.heap.size, 0, none⟩) 1 1) 1 1 [.float .f64 (floatOfInt .f64 nk)] from (Sl.new wr #[.float .f64 (floatOfInt .f64 nk)] 25 1 1 (by unfold maxLen; omega) rfl).mono fun _ _ _ => trivial); refine wpList_app _ rfl (.tmp 45) (.tmp 48) et_f64 rfl w1.heap.size (.slice B1 k c1) k (flts (ps.map wB)) rfl (own_grow (by have h := HO.out.1; rw [HTL.out] at h; exact h) ((Below.refl wr.heap.size wr).alloc (Nat.le_refl _) (.cells #[.float .f64 (floatOfInt .f64 nk)] 25))) _ _ 1 _ rfl HSL.out (by simp [Value.oneCell']) (by omega) (by unfold maxLen; omega) (by simp; omega) ?_; intro A5 c5 w5 hown5 hg5 _; have HB5 := Lib.hid ((HB.out.alloc (by omega) (.cells #[.float .f64 (floatOfInt .f64 nk)] 25)).grown hg5 (by simp; omega) (fun r e => (HO.out.1.lt r e).1)); have HO5 := Lib.hid hown5; clear hown5 hg5))
          go_wp2_with fail
          go_roundw
          case rel => exact ⟨k + 1, by omega, by go_num, by rw [HSS.out], by rw [HSN.out]; exact ownW_app (by rw [← HTL.out, List.length_map]) HO5.out, HB5.out⟩
          case measure => simp [intOf]; omega
        · obtain rfl : k = l.length := by omega
          have htake : (rowN l).take l.length = rowN l := by rw [← rowN_length l, List.take_length]
          rw [htake] at HO HTL HSB ⊢
          have HBD := Lib.hid (rowN_bd l)
          have hnl := rowN_length l
          obtain ⟨ns, hns⟩ : ∃ z, z = rowN l := ⟨_, rfl⟩
          rw [← hns] at HO HTL HSB HBD hnl ⊢
          have HNN := Lib.hid (show ns ≠ [] by intro h; rw [h] at hnl; simp at hnl; omega)
          obtain ⟨g, rfl, hc1, hc2, _, hgb⟩ := ownL_cap HO.out hpos
          have HX := Lib.hid (show OwnL wr w1.heap.size (.slice (some ⟨g, 0, none⟩) (ns.map wB).length c1) (ns.map wB) by rw [HTL.out]; exact HO.out)
          have HXL := Lib.hid (show (ns.map wB).length = l.length from HTL.out)
          have HSF := Lib.hid (fi_sum HBD.out (by omega))
          obtain ⟨ss, hss⟩ : ∃ z, z = ns.sum := ⟨_, rfl⟩
          have HSS := Lib.hid hss
          rw [← hss] at HSF ⊢
          obtain ⟨bm, hbm⟩ : ∃ z, by'.tmod (l.length : Int) = z := ⟨_, rfl⟩
          have hb1 : -(l.length : Int) < bm ∧ bm < l.length := by
            have h1 := Int.natAbs_tmod by' (l.length : Int)
            rw [hbm] at h1
            have h2 := Nat.mod_lt by'.natAbs (show 0 < ((l.length : Int)).natAbs by omega)
            omega
          have hb2 : IntKind.i64.wrap (bm + (l.length : Int)) = bm + (l.length : Int) := IntWalk.i64_in _ (by omega)
          obtain ⟨kk, hkk⟩ : ∃ kk : Nat, (bm + (l.length : Int)).tmod (l.length : Int) = (kk : Int) := ⟨((bm + (l.length : Int)).tmod (l.length : Int)).toNat, by
            have := Int.tmod_nonneg (l.length : Int) (show 0 ≤ bm + (l.length : Int) by omega)
            omega⟩
          have hkl : kk < l.length := by
            have := Int.tmod_lt_of_pos (bm + (l.length : Int)) (show (0 : Int) < (l.length : Int) by omega)
            omega
          have hk1 : (0 : Int) ≤ (kk : Int) := by omega
          have hk2 : (kk : Int) ≤ (l.length : Int) := by omega
          have hk3 : (kk : Int) ≤ (c1 : Int) := by omega
          have hk4 : (l.length : Int) ≤ (c1 : Int) := by omega
          have hk5 : (kk : Int).toNat = kk := by omega
          have hk6 : ¬ c1 = kk := by omega
          have hk7 : ¬ c1 = 0 := by omega
          have HDR := Lib.hid (own_dropF HX.out (k := kk) (by rw [HXL.out]; exact hkl) (by rw [HXL.out]; exact hc1) hc2)
          have HTK := Lib.hid (own_takeF HX.out (k := kk) (by rw [HXL.out]; omega) (by rw [HXL.out]; exact hc1) hc2)
          rw [HXL.out] at HDR
          have hi0 : IntKind.i64.wrap ((l.length : Int) - 1) = (l.length : Int) - 1 := IntWalk.i64_in _ (by omega)
          clear hb hss hns hb1 htake
          go_wp2_with fail
          refine wp_region_F (Below wr.heap.size wr) [] (by kernel_rfl) ((Below.refl _ _).drew) (fun hS => ?_)
          refine wpAnyF_take (i := 0) (oi := { dst := some 62, op := Go.Op.move (Go.Operand.tmp 5), type := 24, pos := "law.go:180", after := #[], guard := none }) (v := ?_) rfl (by kernel_rfl) (by kernel_rfl) (by kernel_rfl) (by kernel_rfl) (fun _ _ _ h => h) (Or.inl ⟨by rfl, ?_⟩) hS ?_
          rotate_left
          · intro w' hSw; go_simp; try with_reducible rfl
          try simp only [Act.put, List.setIfInBounds_toArray, List.set_cons_zero, List.set_cons_succ]
          refine wpAnyF_take (i := 1) (oi := { dst := some 63, op := Go.Op.move (Go.Operand.tmp 10), type := 3, pos := "law.go:180", after := #[], guard := none }) (v := ?_) rfl (by kernel_rfl) (by kernel_rfl) (by kernel_rfl) (by kernel_rfl) (fun _ _ _ h => h) (Or.inl ⟨by rfl, ?_⟩) hS ?_
          rotate_left
          · intro w' hSw; go_simp; try with_reducible rfl
          try simp only [Act.put, List.setIfInBounds_toArray, List.set_cons_zero, List.set_cons_succ]
          refine wpAnyF_take (i := 2) (oi := { dst := some 64, op := Go.Op.slice 24 (Go.Operand.tmp 62) (some (Go.Operand.tmp 63)) none none, type := 24, pos := "law.go:180", after := #[{ on := 0, ground := Go.Ground.data }, { on := 1, ground := Go.Ground.data }], guard := none }) (v := ?_) rfl (by kernel_rfl) (by kernel_rfl) (by kernel_rfl) (by kernel_rfl) (fun _ _ _ h => h) (Or.inl ⟨by rfl, ?_⟩) hS ?_
          rotate_left
          · intro w' hSw; go_simp; try with_reducible rfl
          try simp only [Act.put, List.setIfInBounds_toArray, List.set_cons_zero, List.set_cons_succ]
          refine wpAnyF_take (i := 4) (oi := { dst := some 66, op := Go.Op.move (Go.Operand.tmp 5), type := 24, pos := "law.go:180", after := #[], guard := none }) (v := ?_) rfl (by kernel_rfl) (by kernel_rfl) (by kernel_rfl) (by kernel_rfl) (fun _ _ _ h => h) (Or.inl ⟨by rfl, ?_⟩) hS ?_
          rotate_left
          · intro w' hSw; go_simp; try with_reducible rfl
          try simp only [Act.put, List.setIfInBounds_toArray, List.set_cons_zero, List.set_cons_succ]
          refine wpAnyF_take (i := 5) (oi := { dst := some 67, op := Go.Op.move (Go.Operand.tmp 10), type := 3, pos := "law.go:180", after := #[], guard := none }) (v := ?_) rfl (by kernel_rfl) (by kernel_rfl) (by kernel_rfl) (by kernel_rfl) (fun _ _ _ h => h) (Or.inl ⟨by rfl, ?_⟩) hS ?_
          rotate_left
          · intro w' hSw; go_simp; try with_reducible rfl
          try simp only [Act.put, List.setIfInBounds_toArray, List.set_cons_zero, List.set_cons_succ]
          refine wpAnyF_take (i := 6) (oi := { dst := some 68, op := Go.Op.slice 24 (Go.Operand.tmp 66) none (some (Go.Operand.tmp 67)) none, type := 24, pos := "law.go:180", after := #[{ on := 4, ground := Go.Ground.data }, { on := 5, ground := Go.Ground.data }], guard := none }) (v := ?_) rfl (by kernel_rfl) (by kernel_rfl) (by kernel_rfl) (by kernel_rfl) (fun _ _ _ h => h) (Or.inl ⟨by rfl, ?_⟩) hS ?_
          rotate_left
          · intro w' hSw; go_simp; try with_reducible rfl
          try simp only [Act.put, List.setIfInBounds_toArray, List.set_cons_zero, List.set_cons_succ]
          refine wpAnyF_ready (rs := [3]) (by kernel_rfl) (by simp) ?_
          refine AllReadyF.cons (o := { dst := some 65, op := Go.Op.call { callee := Go.Callee.builtin Go.Builtin.append, args := #[Go.Operand.const (Go.Value.slice none 0 0), Go.Operand.tmp 64], argTypes := #[24, 24] }, type := 24, pos := "law.go:180", after := #[{ on := 2, ground := Go.Ground.data }], guard := none }) rfl (by rfl) (fun K hK => ?_) ?_
          · refine step_appS _ rfl (.const (.slice none 0 0)) (.tmp 64) et_f64 rfl wr.heap.size (.slice none 0 0) 0 [] rfl (World.ownsRow_nil _ _ _ _) (· = g) _ (l.length - kk) (flts ((ns.map wB).drop kk)) rfl HDR.out (flts_oneC _) (by omega) (by unfold maxLen; omega) (Nat.le_refl _) ?_
            intro A2 c2 w2 hown2 hg2 _
            rw [Nat.zero_add] at hown2 ⊢
            rw [List.nil_append] at hown2
            have HB2 := Lib.hid (hS.grown hg2 (Nat.le_refl _) (fun r e => by cases e))
            have HO2 := Lib.hid hown2
            clear hown2 hg2
            refine hK.out _ _ ?_ (fun hS => ?_)
            · exact HB2.out
            clear hK K
            try simp only [Act.put, List.setIfInBounds_toArray, List.set_cons_zero, List.set_cons_succ]
            refine wpAnyF_ready (rs := [7]) (by kernel_rfl) (by simp) ?_
            refine AllReadyF.cons (o := { dst := some 69, op := Go.Op.call { callee := Go.Callee.builtin Go.Builtin.append, args := #[Go.Operand.tmp 65, Go.Operand.tmp 68], argTypes := #[24, 24] }, type := 24, pos := "law.go:180", after := #[{ on := 3, ground := Go.Ground.data }, { on := 6, ground := Go.Ground.data }, { on := 3, ground := Go.Ground.chain }], guard := none }) rfl (by rfl) (fun K hK => ?_) ?_
            · refine step_appS _ rfl (.tmp 65) (.tmp 68) et_f64 rfl wr.heap.size (.slice A2 (l.length - kk) c2) (l.length - kk) (flts ((ns.map wB).drop kk)) rfl HO2.out (· = g) _ kk (flts ((ns.map wB).take kk)) rfl (HTK.out.grow hS) (flts_oneC _) (by omega) (by unfold maxLen; omega) hS.size ?_
              intro A3 c3 w3 hown3 hg3 _
              rw [show l.length - kk + kk = l.length by omega] at hown3 ⊢
              have HB3 := Lib.hid (hS.grown hg3 hS.size (fun r e => (HO2.out.lt r e).1))
              have HO3 := Lib.hid hown3
              clear hown3 hg3
              refine hK.out _ _ ?_ (fun hS => ?_)
              · exact HB3.out
              clear hK K
              try simp only [Act.put, List.setIfInBounds_toArray, List.set_cons_zero, List.set_cons_succ]
              refine wpAnyF_take (i := 8) (oi := { dst := some 11, op := Go.Op.assign (Go.Operand.tmp 69), type := 24, pos := "law.go:180", after := #[{ on := 7, ground := Go.Ground.data }, { on := 7, ground := Go.Ground.chain }, { on := 0, ground := Go.Ground.phase }, { on := 1, ground := Go.Ground.phase }, { on := 2, ground := Go.Ground.phase }, { on := 3, ground := Go.Ground.phase }, { on := 4, ground := Go.Ground.phase }, { on := 5, ground := Go.Ground.phase }, { on := 6, ground := Go.Ground.phase }, { on := 7, ground := Go.Ground.phase }], guard := none }) (v := ?_) rfl (by kernel_rfl) (by kernel_rfl) (by kernel_rfl) (by kernel_rfl) (fun _ _ _ h => h) (Or.inl ⟨by rfl, ?_⟩) hS ?_
              rotate_left
              · intro w' hSw; go_simp; try with_reducible rfl
              try simp only [Act.put, List.setIfInBounds_toArray, List.set_cons_zero, List.set_cons_succ]
              refine wpAnyF_done (by kernel_rfl) ?_ _
              clear hS
              have HYP := Lib.hid (rot_perm (ns.map wB) kk)
              have HYS := Lib.hid (rot_sum ns kk)
              obtain ⟨ys, hys⟩ : ∃ z, z = ns.drop kk ++ ns.take kk := ⟨_, rfl⟩
              have HYB := Lib.hid (show Bd ys by rw [hys]; intro n hn; rcases List.mem_append.1 hn with hn | hn; exact HBD.out n (List.mem_of_mem_drop hn); exact HBD.out n (List.mem_of_mem_take hn))
              have hym : ys.map wB = (ns.map wB).drop kk ++ (ns.map wB).take kk := by rw [hys, List.map_append, List.map_drop, List.map_take]
              rw [← hym] at HYP
              rw [← hys] at HYS
              have hyl : (ys.map wB).length = l.length := by rw [HYP.out.length_eq]; exact HXL.out
              have HY := Lib.hid (show OwnL w3 wr.heap.size (.slice A3 l.length c3) (ys.map wB) by
                refine ⟨?_, row_lt⟩
                rw [hyl, hym, flts_append]
                exact HO3.out)
              replace HX := Lib.hid (HX.out.grow HB3.out)
              have HBW := Lib.hid (HB.out.trans (HB3.out.mono HB.out.size))
              have HYL := Lib.hid hyl
              have HNL := Lib.hid hnl
              clear hys hym hyl hnl hbm hb2 hkk
              go_wp2_with fail
              go_loopw [12, 13] (fun o i wq => ∃ m : Nat, m ≤ l.length ∧ i = .int .i64 ((m : Int) - 1) ∧ OwnL wq w3.heap.size o (((ns.drop m).reverse).map wB) ∧ Below w3.heap.size w3 wq) (fun _ i _ => (intOf i + 1).toNat)
              case atStart => exact ⟨l.length, Nat.le_refl _, rfl, by rw [← HNL.out, List.drop_length]; exact ownL_nil _ _, Below.refl _ _⟩
              case round =>
                obtain ⟨m, hm, hi, ho, hb⟩ := hrel
                have HZ := Lib.hid ho
                have HB4 := Lib.hid hb
                obtain ⟨B4, c4, hB4⟩ := ownL_form ho
                have hzl : (((ns.drop m).reverse).map wB).length = l.length - m := by rw [List.length_map, List.length_reverse, List.length_drop, HNL.out]
                rw [hzl] at hB4
                subst hB4
                have HZL := Lib.hid hzl
                clear ho hzl
                by_cases hm0 : 0 < m
                · obtain ⟨r, rfl⟩ : ∃ r, m = r + 1 := ⟨m - 1, by omega⟩
                  obtain rfl : _ = Value.int .i64 (r : Int) := hi.trans (by congr 1; omega)
                  obtain ⟨n0, hn0⟩ : ∃ n0, ns[r]? = some n0 := ⟨_, List.getElem?_eq_getElem (by rw [HNL.out]; omega)⟩
                  have hx0 : (ns.map wB)[r]? = some (wB n0) := by rw [List.getElem?_map, hn0]; rfl
                  have p0 := (hb.cell (p := ⟨g, r, none⟩) (ownL_lt HX.out)).trans ((HX.out.1.cellAt r (by rw [HXL.out]; omega)).trans (flts_at' hx0))
                  have HSN := Lib.hid (show (ns.drop r).reverse = (ns.drop (r + 1)).reverse ++ [n0] by
                    obtain ⟨hlt, rfl⟩ := List.getElem?_eq_some_iff.1 hn0
                    rw [List.drop_eq_getElem_cons hlt, List.reverse_cons])
                  have hsz := hb.size
                  have e1 : (0 : Int) ≤ (r : Int) := by omega
                  have e2 : (r : Int) < (l.length : Int) := by omega
                  have e3 : IntKind.i64.wrap ((r : Int) - 1) = (r : Int) - 1 := IntWalk.i64_in _ (by omega)
                  have e4 : decide ((r : Int) ≥ 0) = true := by simp
                  obtain ⟨x0, hx00⟩ : ∃ z, z = wB n0 := ⟨_, rfl⟩
                  rw [← hx00] at p0
                  have HX0 := Lib.hid hx00
                  clear hi hb hn0 hx0 hx00
                  go_wp2_with (at_builtin; go_must (have HSL := Lib.hid (show Sl (wr.alloc (.cells #[.float .f64 x0] 25)) (fun _ => True) (.slice (some ⟨wr.heap.size, 0, none⟩) 1 1) 1 1 [.float .f64 x0] from (Sl.new wr #[.float .f64 x0] 25 1 1 (by unfold maxLen; omega) rfl).mono fun _ _ _ => trivial); refine wpList_app _ rfl (.tmp 76) (.tmp 81) et_f64 rfl w3.heap.size (.slice B4 (l.length - (r + 1)) c4) (l.length - (r + 1)) (flts (((ns.drop (r + 1)).reverse).map wB)) rfl (own_grow (by have h := HZ.out.1; rw [HZL.out] at h; exact h) ((Below.refl wr.heap.size wr).alloc (Nat.le_refl _) (.cells #[.float .f64 x0] 25))) _ _ 1 _ rfl HSL.out (by simp [Value.oneCell']) (by omega) (by unfold maxLen; omega) (by simp; omega) ?_; intro A5 c5 w5 hown5 hg5 _; have HB5 := Lib.hid ((HB4.out.alloc (by omega) (.cells #[.float .f64 x0] 25)).grown hg5 (by simp; omega) (fun r e => (HZ.out.1.lt r e).1)); have HO5 := Lib.hid hown5; clear hown5 hg5))
                  go_wp2_with fail
                  go_roundw
                  case rel => exact ⟨r, by omega, by go_num, by rw [HSN.out]; exact ownW_app (by rw [List.length_reverse, List.length_drop, HNL.out]) (by rw [HX0.out] at HO5; exact HO5.out), HB5.out⟩
                  case measure => first | (simp [intOf]; done) | (simp [intOf]; omega)
                · obtain rfl : m = 0 := by omega
                  obtain rfl : _ = Value.int .i64 (-1) := hi
                  rw [Nat.sub_zero] at HZ ⊢
                  rw [List.drop_zero] at HZ
                  rw [List.drop_zero, Nat.sub_zero] at HZL
                  have HX5 := Lib.hid (show OwnL wr w1.heap.size (.slice (some ⟨g, 0, none⟩) l.length c1) (ns.map wB) by rw [← HXL.out]; exact HX.out.grow hb)
                  have HY5 := Lib.hid (HY.out.grow hb)
                  have HBV := Lib.hid (HBW.out.trans (hb.mono HBW.out.size))
                  have HLE := Lib.hid (show (ns.map wB).length ≤ 1000 by rw [HXL.out]; omega)
                  have HLY := Lib.hid (show (ys.map wB).length ≤ 1000 by rw [HYL.out]; omega)
                  have HLZ := Lib.hid (show (ns.reverse.map wB).length ≤ 1000 by rw [HZL.out]; omega)
                  have HN6 := Lib.hid (show ns.length ≤ 600 by rw [HNL.out]; omega)
                  have HN5 := Lib.hid (show ns.length ≤ 500 by rw [HNL.out]; omega)
                  have hyn : ys.length = l.length := by have h := HYL.out; rwa [List.length_map] at h
                  have HRB := Lib.hid (show Bd ns.reverse from fun n hn => HBD.out n (List.mem_reverse.1 hn))
                  have HS0 := Lib.hid (show FI (fzero (sumL (nums (ns.map wB)))) ss by rw [HSS.out]; exact row_sum HBD.out HN6.out)
                  have HS1 := Lib.hid (show FI (fzero (sumL (nums (ys.map wB)))) ss by rw [HSS.out, ← HYS.out]; exact row_sum HYB.out (by omega))
                  have HS2 := Lib.hid (show FI (fzero (sumL (nums (ns.reverse.map wB)))) ss by rw [HSS.out, ← rev_sum]; exact row_sum HRB.out (by rw [List.length_reverse]; exact HN6.out))
                  have HW1 := Lib.hid (show FI (fzero (worthF (some one64) (nums (ns.map wB)))) ss by rw [HSS.out]; exact row_worth1 HBD.out HN6.out)
                  have HFL := Lib.hid (show IsF (floatOfInt .f64 ss) (some (wB ss)) from isF_int ss)
                  obtain ⟨n0, nr, hn0⟩ : ∃ n r, ns = n :: r := by
                    have h := HNN.out
                    cases ns with
                    | nil => exact absurd rfl h
                    | cons n r => exact ⟨n, r, rfl⟩
                  have HW0 := Lib.hid (show FI (fzero (worthF (some 0) (nums (ns.map wB)))) n0 by have h := row_worth0 HBD.out; rw [hn0] at h ⊢; exact h)
                  have HF0 := Lib.hid (show IsF (wB n0) (some (wB n0)) from isF_int n0)
                  have HI0 := Lib.hid (show FI (some (wB n0)) n0 from fi_int (by have := HBD.out n0 (by rw [hn0]; simp); unfold big40 at this; unfold big53; omega))
                  have hx0 : (ns.map wB)[0]? = some (wB n0) := by rw [hn0]; rfl
                  have p0 := ((HX.out.grow hb).1.cellAt 0 (by rw [HXL.out]; omega)).trans (flts_at' hx0)
                  have hgl := ownL_lt HX5.out
                  obtain ⟨x0, hx00⟩ : ∃ z, z = wB n0 := ⟨_, rfl⟩
                  rw [← hx00] at p0 HF0 HI0
                  have i1 : (0 : Int) < (l.length : Int) := by omega
                  have i2 : 0 < l.length := hpos
                  clear hx0 hx00 hn0 hb hyn
                  go_wp2_with fail
                  refine wp_region_F (Below wr.heap.size wr) [] (by kernel_rfl) ((Below.refl _ _).drew) (fun hS => ?_)
                  refine wpAnyF_take (i := 0) (oi := { dst := some 83, op := Go.Op.move (Go.Operand.tmp 5), type := 24, pos := "law.go:185", after := #[], guard := none }) (v := ?_) rfl (by kernel_rfl) (by kernel_rfl) (by kernel_rfl) (by kernel_rfl) (fun _ _ _ h => h) (Or.inl ⟨by rfl, ?_⟩) hS ?_
                  rotate_left
                  · intro w' hSw; have q0 := (hSw.cell (p := ⟨g, 0, none⟩) hgl).trans p0; go_simp; try with_reducible rfl
                  try simp only [Act.put, List.setIfInBounds_toArray, List.set_cons_zero, List.set_cons_succ]
                  refine wpAnyF_take (i := 2) (oi := { dst := some 85, op := Go.Op.move (Go.Operand.tmp 6), type := 2, pos := "law.go:185", after := #[], guard := none }) (v := ?_) rfl (by kernel_rfl) (by kernel_rfl) (by kernel_rfl) (by kernel_rfl) (fun _ _ _ h => h) (Or.inl ⟨by rfl, ?_⟩) hS ?_
                  rotate_left
                  · intro w' hSw; have q0 := (hSw.cell (p := ⟨g, 0, none⟩) hgl).trans p0; go_simp; try with_reducible rfl
                  try simp only [Act.put, List.setIfInBounds_toArray, List.set_cons_zero, List.set_cons_succ]
                  refine wpAnyF_take (i := 3) (oi := { dst := some 86, op := Go.Op.convert 2 25 (Go.Operand.tmp 85), type := 25, pos := "law.go:185", after := #[{ on := 2, ground := Go.Ground.data }], guard := none }) (v := ?_) rfl (by kernel_rfl) (by kernel_rfl) (by kernel_rfl) (by kernel_rfl) (fun _ _ _ h => h) (Or.inl ⟨by rfl, ?_⟩) hS ?_
                  rotate_left
                  · intro w' hSw; have q0 := (hSw.cell (p := ⟨g, 0, none⟩) hgl).trans p0; go_simp; try with_reducible rfl
                  try simp only [Act.put, List.setIfInBounds_toArray, List.set_cons_zero, List.set_cons_succ]
                  refine wpAnyF_ready (rs := [1]) (by kernel_rfl) (by simp) ?_
                  refine AllReadyF.cons (o := { dst := some 84, op := Go.Op.call { callee := Go.Callee.value (Go.Operand.func 6), args := #[Go.Operand.tmp 83], argTypes := #[24] }, type := 25, pos := "law.go:185", after := #[{ on := 0, ground := Go.Ground.data }], guard := none }) rfl (by rfl) (fun K hK => ?_) ?_
                  · go_simp
                    refine (Sum_any (HX5.out.fls.grow hS)).mono ?_
                    rintro e V1 ⟨r1, rfl, hr, hbk⟩
                    have n1 := neq_fi hr HFL.out HS0.out HSF.out
                    clear hr
                    refine hK.out _ _ ?_ (fun hS => ?_)
                    · exact hS.trans (hbk.mono hS.size)
                    clear hK K
                    try simp only [Act.put, List.setIfInBounds_toArray, List.set_cons_zero, List.set_cons_succ]
                    refine wpAnyF_take (i := 4) (oi := { dst := some 87, op := Go.Op.binOp Go.BinOp.neq 25 (Go.Operand.tmp 84) (Go.Operand.tmp 86) 25, type := 4, pos := "law.go:185", after := #[{ on := 1, ground := Go.Ground.data }, { on := 3, ground := Go.Ground.data }], guard := none }) (v := ?_) rfl (by kernel_rfl) (by kernel_rfl) (by kernel_rfl) (by kernel_rfl) (fun _ _ _ h => h) (Or.inl ⟨by rfl, ?_⟩) hS ?_
                    rotate_left
                    · intro w' hSw; have q0 := (hSw.cell (p := ⟨g, 0, none⟩) hgl).trans p0; go_simp; try with_reducible rfl
                    try simp only [Act.put, List.setIfInBounds_toArray, List.set_cons_zero, List.set_cons_succ]
                    refine wpAnyF_take (i := 5) (oi := { dst := some 88, op := Go.Op.move (Go.Operand.tmp 87), type := 4, pos := "law.go:185", after := #[{ on := 4, ground := Go.Ground.data }, { on := 1, ground := Go.Ground.chain }], guard := none }) (v := ?_) rfl (by kernel_rfl) (by kernel_rfl) (by kernel_rfl) (by kernel_rfl) (fun _ _ _ h => h) (Or.inl ⟨by rfl, ?_⟩) hS ?_
                    rotate_left
                    · intro w' hSw; have q0 := (hSw.cell (p := ⟨g, 0, none⟩) hgl).trans p0; go_simp; try with_reducible rfl
                    try simp only [Act.put, List.setIfInBounds_toArray, List.set_cons_zero, List.set_cons_succ]
                    refine wpAnyF_take (i := 6) (oi := { dst := some 89, op := Go.Op.move (Go.Operand.tmp 11), type := 24, pos := "law.go:185", after := #[{ on := 5, ground := Go.Ground.guard }], guard := some (5, false) }) (v := ?_) rfl (by kernel_rfl) (by kernel_rfl) (by kernel_rfl) (by kernel_rfl) (fun _ _ _ h => h) (Or.inl ⟨by rfl, ?_⟩) hS ?_
                    rotate_left
                    · intro w' hSw; have q0 := (hSw.cell (p := ⟨g, 0, none⟩) hgl).trans p0; go_simp; try with_reducible rfl
                    try simp only [Act.put, List.setIfInBounds_toArray, List.set_cons_zero, List.set_cons_succ]
                    refine wpAnyF_take (i := 8) (oi := { dst := some 91, op := Go.Op.move (Go.Operand.tmp 6), type := 2, pos := "law.go:185", after := #[{ on := 5, ground := Go.Ground.guard }], guard := some (5, false) }) (v := ?_) rfl (by kernel_rfl) (by kernel_rfl) (by kernel_rfl) (by kernel_rfl) (fun _ _ _ h => h) (Or.inl ⟨by rfl, ?_⟩) hS ?_
                    rotate_left
                    · intro w' hSw; have q0 := (hSw.cell (p := ⟨g, 0, none⟩) hgl).trans p0; go_simp; try with_reducible rfl
                    try simp only [Act.put, List.setIfInBounds_toArray, List.set_cons_zero, List.set_cons_succ]
                    refine wpAnyF_take (i := 9) (oi := { dst := some 92, op := Go.Op.convert 2 25 (Go.Operand.tmp 91), type := 25, pos := "law.go:185", after := #[{ on := 8, ground := Go.Ground.data }, { on := 5, ground := Go.Ground.guard }], guard := some (5, false) }) (v := ?_) rfl (by kernel_rfl) (by kernel_rfl) (by kernel_rfl) (by kernel_rfl) (fun _ _ _ h => h) (Or.inl ⟨by rfl, ?_⟩) hS ?_
                    rotate_left
                    · intro w' hSw; have q0 := (hSw.cell (p := ⟨g, 0, none⟩) hgl).trans p0; go_simp; try with_reducible rfl
                    try simp only [Act.put, List.setIfInBounds_toArray, List.set_cons_zero, List.set_cons_succ]
                    refine wpAnyF_ready (rs := [7]) (by kernel_rfl) (by simp) ?_
                    refine AllReadyF.cons (o := { dst := some 90, op := Go.Op.call { callee := Go.Callee.value (Go.Operand.func 6), args := #[Go.Operand.tmp 89], argTypes := #[24] }, type := 25, pos := "law.go:185", after := #[{ on := 6, ground := Go.Ground.data }, { on := 5, ground := Go.Ground.chain }, { on := 5, ground := Go.Ground.guard }], guard := some (5, false) }) rfl (by rfl) (fun K hK => ?_) ?_
                    · go_simp
                      refine (Sum_any (HY5.out.fls.grow hS)).mono ?_
                      rintro e V2 ⟨r2, rfl, hr, hbk⟩
                      have n2 := neq_fi hr HFL.out HS1.out HSF.out
                      clear hr
                      refine hK.out _ _ ?_ (fun hS => ?_)
                      · exact hS.trans (hbk.mono hS.size)
                      clear hK K
                      try simp only [Act.put, List.setIfInBounds_toArray, List.set_cons_zero, List.set_cons_succ]
                      refine wpAnyF_take (i := 10) (oi := { dst := some 93, op := Go.Op.binOp Go.BinOp.neq 25 (Go.Operand.tmp 90) (Go.Operand.tmp 92) 25, type := 4, pos := "law.go:185", after := #[{ on := 7, ground := Go.Ground.data }, { on := 9, ground := Go.Ground.data }, { on := 5, ground := Go.Ground.guard }], guard := some (5, false) }) (v := ?_) rfl (by kernel_rfl) (by kernel_rfl) (by kernel_rfl) (by kernel_rfl) (fun _ _ _ h => h) (Or.inl ⟨by rfl, ?_⟩) hS ?_
                      rotate_left
                      · intro w' hSw; have q0 := (hSw.cell (p := ⟨g, 0, none⟩) hgl).trans p0; go_simp; try with_reducible rfl
                      try simp only [Act.put, List.setIfInBounds_toArray, List.set_cons_zero, List.set_cons_succ]
                      refine wpAnyF_take (i := 11) (oi := { dst := some 94, op := Go.Op.pick (Go.Operand.tmp 88) (Go.Operand.const (Go.Value.bool true)) (Go.Operand.tmp 93), type := 4, pos := "law.go:185", after := #[{ on := 5, ground := Go.Ground.data }, { on := 10, ground := Go.Ground.data }], guard := none }) (v := ?_) rfl (by kernel_rfl) (by kernel_rfl) (by kernel_rfl) (by kernel_rfl) (fun _ _ _ h => h) (Or.inl ⟨by rfl, ?_⟩) hS ?_
                      rotate_left
                      · intro w' hSw; have q0 := (hSw.cell (p := ⟨g, 0, none⟩) hgl).trans p0; go_simp; try with_reducible rfl
                      try simp only [Act.put, List.setIfInBounds_toArray, List.set_cons_zero, List.set_cons_succ]
                      refine wpAnyF_take (i := 12) (oi := { dst := some 95, op := Go.Op.move (Go.Operand.tmp 94), type := 4, pos := "law.go:185", after := #[{ on := 11, ground := Go.Ground.data }, { on := 7, ground := Go.Ground.chain }], guard := none }) (v := ?_) rfl (by kernel_rfl) (by kernel_rfl) (by kernel_rfl) (by kernel_rfl) (fun _ _ _ h => h) (Or.inl ⟨by rfl, ?_⟩) hS ?_
                      rotate_left
                      · intro w' hSw; have q0 := (hSw.cell (p := ⟨g, 0, none⟩) hgl).trans p0; go_simp; try with_reducible rfl
                      try simp only [Act.put, List.setIfInBounds_toArray, List.set_cons_zero, List.set_cons_succ]
                      refine wpAnyF_take (i := 13) (oi := { dst := some 96, op := Go.Op.move (Go.Operand.tmp 12), type := 24, pos := "law.go:185", after := #[{ on := 12, ground := Go.Ground.guard }], guard := some (12, false) }) (v := ?_) rfl (by kernel_rfl) (by kernel_rfl) (by kernel_rfl) (by kernel_rfl) (fun _ _ _ h => h) (Or.inl ⟨by rfl, ?_⟩) hS ?_
                      rotate_left
                      · intro w' hSw; have q0 := (hSw.cell (p := ⟨g, 0, none⟩) hgl).trans p0; go_simp; try with_reducible rfl
                      try simp only [Act.put, List.setIfInBounds_toArray, List.set_cons_zero, List.set_cons_succ]
                      refine wpAnyF_take (i := 15) (oi := { dst := some 98, op := Go.Op.move (Go.Operand.tmp 6), type := 2, pos := "law.go:185", after := #[{ on := 12, ground := Go.Ground.guard }], guard := some (12, false) }) (v := ?_) rfl (by kernel_rfl) (by kernel_rfl) (by kernel_rfl) (by kernel_rfl) (fun _ _ _ h => h) (Or.inl ⟨by rfl, ?_⟩) hS ?_
                      rotate_left
                      · intro w' hSw; have q0 := (hSw.cell (p := ⟨g, 0, none⟩) hgl).trans p0; go_simp; try with_reducible rfl
                      try simp only [Act.put, List.setIfInBounds_toArray, List.set_cons_zero, List.set_cons_succ]
                      refine wpAnyF_take (i := 16) (oi := { dst := some 99, op := Go.Op.convert 2 25 (Go.Operand.tmp 98), type := 25, pos := "law.go:185", after := #[{ on := 15, ground := Go.Ground.data }, { on := 12, ground := Go.Ground.guard }], guard := some (12, false) }) (v := ?_) rfl (by kernel_rfl) (by kernel_rfl) (by kernel_rfl) (by kernel_rfl) (fun _ _ _ h => h) (Or.inl ⟨by rfl, ?_⟩) hS ?_
                      rotate_left
                      · intro w' hSw; have q0 := (hSw.cell (p := ⟨g, 0, none⟩) hgl).trans p0; go_simp; try with_reducible rfl
                      try simp only [Act.put, List.setIfInBounds_toArray, List.set_cons_zero, List.set_cons_succ]
                      refine wpAnyF_ready (rs := [14]) (by kernel_rfl) (by simp) ?_
                      refine AllReadyF.cons (o := { dst := some 97, op := Go.Op.call { callee := Go.Callee.value (Go.Operand.func 6), args := #[Go.Operand.tmp 96], argTypes := #[24] }, type := 25, pos := "law.go:185", after := #[{ on := 13, ground := Go.Ground.data }, { on := 12, ground := Go.Ground.chain }, { on := 12, ground := Go.Ground.guard }], guard := some (12, false) }) rfl (by rfl) (fun K hK => ?_) ?_
                      · go_simp
                        refine (Sum_any (HZ.out.fls.grow hS)).mono ?_
                        rintro e V3 ⟨r3, rfl, hr, hbk⟩
                        have n3 := neq_fi hr HFL.out HS2.out HSF.out
                        clear hr
                        refine hK.out _ _ ?_ (fun hS => ?_)
                        · exact hS.trans (hbk.mono hS.size)
                        clear hK K
                        try simp only [Act.put, List.setIfInBounds_toArray, List.set_cons_zero, List.set_cons_succ]
                        refine wpAnyF_take (i := 17) (oi := { dst := some 100, op := Go.Op.binOp Go.BinOp.neq 25 (Go.Operand.tmp 97) (Go.Operand.tmp 99) 25, type := 4, pos := "law.go:185", after := #[{ on := 14, ground := Go.Ground.data }, { on := 16, ground := Go.Ground.data }, { on := 12, ground := Go.Ground.guard }], guard := some (12, false) }) (v := ?_) rfl (by kernel_rfl) (by kernel_rfl) (by kernel_rfl) (by kernel_rfl) (fun _ _ _ h => h) (Or.inl ⟨by rfl, ?_⟩) hS ?_
                        rotate_left
                        · intro w' hSw; have q0 := (hSw.cell (p := ⟨g, 0, none⟩) hgl).trans p0; go_simp; try with_reducible rfl
                        try simp only [Act.put, List.setIfInBounds_toArray, List.set_cons_zero, List.set_cons_succ]
                        refine wpAnyF_take (i := 18) (oi := { dst := some 101, op := Go.Op.pick (Go.Operand.tmp 95) (Go.Operand.const (Go.Value.bool true)) (Go.Operand.tmp 100), type := 4, pos := "law.go:185", after := #[{ on := 12, ground := Go.Ground.data }, { on := 17, ground := Go.Ground.data }], guard := none }) (v := ?_) rfl (by kernel_rfl) (by kernel_rfl) (by kernel_rfl) (by kernel_rfl) (fun _ _ _ h => h) (Or.inl ⟨by rfl, ?_⟩) hS ?_
                        rotate_left
                        · intro w' hSw; have q0 := (hSw.cell (p := ⟨g, 0, none⟩) hgl).trans p0; go_simp; try with_reducible rfl
                        try simp only [Act.put, List.setIfInBounds_toArray, List.set_cons_zero, List.set_cons_succ]
                        refine wpAnyF_take (i := 19) (oi := { dst := some 102, op := Go.Op.move (Go.Operand.tmp 101), type := 4, pos := "law.go:185", after := #[{ on := 18, ground := Go.Ground.data }, { on := 14, ground := Go.Ground.chain }], guard := none }) (v := ?_) rfl (by kernel_rfl) (by kernel_rfl) (by kernel_rfl) (by kernel_rfl) (fun _ _ _ h => h) (Or.inl ⟨by rfl, ?_⟩) hS ?_
                        rotate_left
                        · intro w' hSw; have q0 := (hSw.cell (p := ⟨g, 0, none⟩) hgl).trans p0; go_simp; try with_reducible rfl
                        try simp only [Act.put, List.setIfInBounds_toArray, List.set_cons_zero, List.set_cons_succ]
                        refine wpAnyF_take (i := 20) (oi := { dst := some 103, op := Go.Op.move (Go.Operand.tmp 5), type := 24, pos := "law.go:185", after := #[{ on := 19, ground := Go.Ground.guard }], guard := some (19, false) }) (v := ?_) rfl (by kernel_rfl) (by kernel_rfl) (by kernel_rfl) (by kernel_rfl) (fun _ _ _ h => h) (Or.inl ⟨by rfl, ?_⟩) hS ?_
                        rotate_left
                        · intro w' hSw; have q0 := (hSw.cell (p := ⟨g, 0, none⟩) hgl).trans p0; go_simp; try with_reducible rfl
                        try simp only [Act.put, List.setIfInBounds_toArray, List.set_cons_zero, List.set_cons_succ]
                        refine wpAnyF_take (i := 22) (oi := { dst := some 105, op := Go.Op.move (Go.Operand.tmp 6), type := 2, pos := "law.go:185", after := #[{ on := 19, ground := Go.Ground.guard }], guard := some (19, false) }) (v := ?_) rfl (by kernel_rfl) (by kernel_rfl) (by kernel_rfl) (by kernel_rfl) (fun _ _ _ h => h) (Or.inl ⟨by rfl, ?_⟩) hS ?_
                        rotate_left
                        · intro w' hSw; have q0 := (hSw.cell (p := ⟨g, 0, none⟩) hgl).trans p0; go_simp; try with_reducible rfl
                        try simp only [Act.put, List.setIfInBounds_toArray, List.set_cons_zero, List.set_cons_succ]
                        refine wpAnyF_take (i := 23) (oi := { dst := some 106, op := Go.Op.convert 2 25 (Go.Operand.tmp 105), type := 25, pos := "law.go:185", after := #[{ on := 22, ground := Go.Ground.data }, { on := 19, ground := Go.Ground.guard }], guard := some (19, false) }) (v := ?_) rfl (by kernel_rfl) (by kernel_rfl) (by kernel_rfl) (by kernel_rfl) (fun _ _ _ h => h) (Or.inl ⟨by rfl, ?_⟩) hS ?_
                        rotate_left
                        · intro w' hSw; have q0 := (hSw.cell (p := ⟨g, 0, none⟩) hgl).trans p0; go_simp; try with_reducible rfl
                        try simp only [Act.put, List.setIfInBounds_toArray, List.set_cons_zero, List.set_cons_succ]
                        refine wpAnyF_ready (rs := [21]) (by kernel_rfl) (by simp) ?_
                        refine AllReadyF.cons (o := { dst := some 104, op := Go.Op.call { callee := Go.Callee.value (Go.Operand.func 7), args := #[Go.Operand.const (Go.Value.float Go.FloatKind.f64 4607182418800017408), Go.Operand.tmp 103], argTypes := #[25, 24] }, type := 25, pos := "law.go:185", after := #[{ on := 20, ground := Go.Ground.data }, { on := 19, ground := Go.Ground.chain }, { on := 19, ground := Go.Ground.guard }], guard := some (19, false) }) rfl (by rfl) (fun K hK => ?_) ?_
                        · go_simp
                          refine (Worth_any (HX5.out.fls.grow hS) one_isF HLE.out).mono ?_
                          rintro e V4 ⟨r4, rfl, hr, hbk⟩
                          have n4 := neq_fi hr HFL.out HW1.out HSF.out
                          clear hr
                          refine hK.out _ _ ?_ (fun hS => ?_)
                          · exact hS.trans (hbk.mono hS.size)
                          clear hK K
                          try simp only [Act.put, List.setIfInBounds_toArray, List.set_cons_zero, List.set_cons_succ]
                          refine wpAnyF_take (i := 24) (oi := { dst := some 107, op := Go.Op.binOp Go.BinOp.neq 25 (Go.Operand.tmp 104) (Go.Operand.tmp 106) 25, type := 4, pos := "law.go:185", after := #[{ on := 21, ground := Go.Ground.data }, { on := 23, ground := Go.Ground.data }, { on := 19, ground := Go.Ground.guard }], guard := some (19, false) }) (v := ?_) rfl (by kernel_rfl) (by kernel_rfl) (by kernel_rfl) (by kernel_rfl) (fun _ _ _ h => h) (Or.inl ⟨by rfl, ?_⟩) hS ?_
                          rotate_left
                          · intro w' hSw; have q0 := (hSw.cell (p := ⟨g, 0, none⟩) hgl).trans p0; go_simp; try with_reducible rfl
                          try simp only [Act.put, List.setIfInBounds_toArray, List.set_cons_zero, List.set_cons_succ]
                          refine wpAnyF_take (i := 25) (oi := { dst := some 108, op := Go.Op.pick (Go.Operand.tmp 102) (Go.Operand.const (Go.Value.bool true)) (Go.Operand.tmp 107), type := 4, pos := "law.go:185", after := #[{ on := 19, ground := Go.Ground.data }, { on := 24, ground := Go.Ground.data }], guard := none }) (v := ?_) rfl (by kernel_rfl) (by kernel_rfl) (by kernel_rfl) (by kernel_rfl) (fun _ _ _ h => h) (Or.inl ⟨by rfl, ?_⟩) hS ?_
                          rotate_left
                          · intro w' hSw; have q0 := (hSw.cell (p := ⟨g, 0, none⟩) hgl).trans p0; go_simp; try with_reducible rfl
                          try simp only [Act.put, List.setIfInBounds_toArray, List.set_cons_zero, List.set_cons_succ]
                          refine wpAnyF_take (i := 26) (oi := { dst := some 109, op := Go.Op.move (Go.Operand.tmp 108), type := 4, pos := "law.go:185", after := #[{ on := 25, ground := Go.Ground.data }, { on := 21, ground := Go.Ground.chain }], guard := none }) (v := ?_) rfl (by kernel_rfl) (by kernel_rfl) (by kernel_rfl) (by kernel_rfl) (fun _ _ _ h => h) (Or.inl ⟨by rfl, ?_⟩) hS ?_
                          rotate_left
                          · intro w' hSw; have q0 := (hSw.cell (p := ⟨g, 0, none⟩) hgl).trans p0; go_simp; try with_reducible rfl
                          try simp only [Act.put, List.setIfInBounds_toArray, List.set_cons_zero, List.set_cons_succ]
                          refine wpAnyF_take (i := 27) (oi := { dst := some 110, op := Go.Op.move (Go.Operand.tmp 5), type := 24, pos := "law.go:185", after := #[{ on := 26, ground := Go.Ground.guard }], guard := some (26, false) }) (v := ?_) rfl (by kernel_rfl) (by kernel_rfl) (by kernel_rfl) (by kernel_rfl) (fun _ _ _ h => h) (Or.inl ⟨by rfl, ?_⟩) hS ?_
                          rotate_left
                          · intro w' hSw; have q0 := (hSw.cell (p := ⟨g, 0, none⟩) hgl).trans p0; go_simp; try with_reducible rfl
                          try simp only [Act.put, List.setIfInBounds_toArray, List.set_cons_zero, List.set_cons_succ]
                          refine wpAnyF_take (i := 29) (oi := { dst := some 112, op := Go.Op.move (Go.Operand.tmp 5), type := 24, pos := "law.go:185", after := #[{ on := 26, ground := Go.Ground.guard }], guard := some (26, false) }) (v := ?_) rfl (by kernel_rfl) (by kernel_rfl) (by kernel_rfl) (by kernel_rfl) (fun _ _ _ h => h) (Or.inl ⟨by rfl, ?_⟩) hS ?_
                          rotate_left
                          · intro w' hSw; have q0 := (hSw.cell (p := ⟨g, 0, none⟩) hgl).trans p0; go_simp; try with_reducible rfl
                          try simp only [Act.put, List.setIfInBounds_toArray, List.set_cons_zero, List.set_cons_succ]
                          refine wpAnyF_take (i := 30) (oi := { dst := some 113, op := Go.Op.indexAddr 24 (Go.Operand.tmp 112) (Go.Operand.const (Go.Value.int Go.IntKind.i64 0)), type := 0, pos := "law.go:185", after := #[{ on := 29, ground := Go.Ground.data }, { on := 26, ground := Go.Ground.guard }], guard := some (26, false) }) (v := ?_) rfl (by kernel_rfl) (by kernel_rfl) (by kernel_rfl) (by kernel_rfl) (fun _ _ _ h => h) (Or.inl ⟨by rfl, ?_⟩) hS ?_
                          rotate_left
                          · intro w' hSw; have q0 := (hSw.cell (p := ⟨g, 0, none⟩) hgl).trans p0; go_simp; try with_reducible rfl
                          try simp only [Act.put, List.setIfInBounds_toArray, List.set_cons_zero, List.set_cons_succ]
                          refine wpAnyF_take (i := 31) (oi := { dst := some 114, op := Go.Op.load 25 (Go.Operand.tmp 113), type := 25, pos := "law.go:185", after := #[{ on := 30, ground := Go.Ground.data }, { on := 26, ground := Go.Ground.guard }], guard := some (26, false) }) (v := ?_) rfl (by kernel_rfl) (by kernel_rfl) (by kernel_rfl) (by kernel_rfl) (fun _ _ _ h => h) (Or.inl ⟨by rfl, ?_⟩) hS ?_
                          rotate_left
                          · intro w' hSw; have q0 := (hSw.cell (p := ⟨g, 0, none⟩) hgl).trans p0; go_simp; try with_reducible rfl
                          try simp only [Act.put, List.setIfInBounds_toArray, List.set_cons_zero, List.set_cons_succ]
                          refine wpAnyF_ready (rs := [28]) (by kernel_rfl) (by simp) ?_
                          refine AllReadyF.cons (o := { dst := some 111, op := Go.Op.call { callee := Go.Callee.value (Go.Operand.func 7), args := #[Go.Operand.const (Go.Value.float Go.FloatKind.f64 0), Go.Operand.tmp 110], argTypes := #[25, 24] }, type := 25, pos := "law.go:185", after := #[{ on := 27, ground := Go.Ground.data }, { on := 26, ground := Go.Ground.chain }, { on := 26, ground := Go.Ground.guard }], guard := some (26, false) }) rfl (by rfl) (fun K hK => ?_) ?_
                          · go_simp
                            refine (Worth_any (HX5.out.fls.grow hS) zero_isF HLE.out).mono ?_
                            rintro e V5 ⟨r5, rfl, hr, hbk⟩
                            have n5 := neq_fi hr HF0.out HW0.out HI0.out
                            clear hr
                            refine hK.out _ _ ?_ (fun hS => ?_)
                            · exact hS.trans (hbk.mono hS.size)
                            clear hK K
                            try simp only [Act.put, List.setIfInBounds_toArray, List.set_cons_zero, List.set_cons_succ]
                            refine wpAnyF_take (i := 32) (oi := { dst := some 115, op := Go.Op.binOp Go.BinOp.neq 25 (Go.Operand.tmp 111) (Go.Operand.tmp 114) 25, type := 4, pos := "law.go:185", after := #[{ on := 28, ground := Go.Ground.data }, { on := 31, ground := Go.Ground.data }, { on := 26, ground := Go.Ground.guard }], guard := some (26, false) }) (v := ?_) rfl (by kernel_rfl) (by kernel_rfl) (by kernel_rfl) (by kernel_rfl) (fun _ _ _ h => h) (Or.inl ⟨by rfl, ?_⟩) hS ?_
                            rotate_left
                            · intro w' hSw; have q0 := (hSw.cell (p := ⟨g, 0, none⟩) hgl).trans p0; go_simp; try with_reducible rfl
                            try simp only [Act.put, List.setIfInBounds_toArray, List.set_cons_zero, List.set_cons_succ]
                            refine wpAnyF_take (i := 33) (oi := { dst := some 116, op := Go.Op.pick (Go.Operand.tmp 109) (Go.Operand.const (Go.Value.bool true)) (Go.Operand.tmp 115), type := 4, pos := "law.go:185", after := #[{ on := 26, ground := Go.Ground.data }, { on := 32, ground := Go.Ground.data }], guard := none }) (v := ?_) rfl (by kernel_rfl) (by kernel_rfl) (by kernel_rfl) (by kernel_rfl) (fun _ _ _ h => h) (Or.inl ⟨by rfl, ?_⟩) hS ?_
                            rotate_left
                            · intro w' hSw; have q0 := (hSw.cell (p := ⟨g, 0, none⟩) hgl).trans p0; go_simp; try with_reducible rfl
                            try simp only [Act.put, List.setIfInBounds_toArray, List.set_cons_zero, List.set_cons_succ]
                            refine wpAnyF_done (by kernel_rfl) ?_ _
                            have HV0 := Lib.hid hS
                            clear hS n1 n2 n3 n4 n5 hbk
                            obtain ⟨⟨na, hna⟩, ⟨nb, hnb⟩⟩ := row_end HBD.out HNN.out
                            have HZP := Lib.hid (show (ns.reverse.map wB).Perm (ns.map wB) from (List.reverse_perm ns).map _)
                            have HEP := Lib.hid (ends_perm (l := ns.map wB) row_lt HZP.out)
                            have HM0 := Lib.hid (row_mid0 HBD.out HNN.out HN5.out hna)
                            have HM1 := Lib.hid (row_mid1 HBD.out HNN.out HN5.out HYP.out hnb)
                            have HNM := Lib.hid (show ∀ p, inB p = true → midNo p (ns.map wB) = false from fun p hp => by
                              unfold midNo
                              rw [row_num HBD.out, hp]
                              cases hq : ns.map wB with
                              | nil => have h := HXL.out; rw [hq] at h; simp at h; omega
                              | cons x r => rfl)
                            have HOK := Lib.hid (show true = !(okL (ns.map wB)).isEmpty by
                              rw [row_ok HBD.out]
                              cases hq : ns.map wB with
                              | nil => have h := HXL.out; rw [hq] at h; simp at h; omega
                              | cons x r => rfl)
                            obtain ⟨za, hza⟩ : ∃ z, z = endA (ns.map wB) := ⟨_, rfl⟩
                            obtain ⟨zb, hzb⟩ : ∃ z, z = endB (ns.map wB) := ⟨_, rfl⟩
                            rw [← hza] at hna
                            rw [← hzb] at hnb
                            have HNA := Lib.hid hna
                            have HNB := Lib.hid hnb
                            have HIA := Lib.hid (fi_isF hna)
                            have HIB := Lib.hid (fi_isF hnb)
                            have HZA := Lib.hid hza
                            have HZB := Lib.hid hzb
                            have m1 := neq_fi HIA.out HIA.out HNA.out HNA.out
                            have m2 := neq_fi HIB.out HIB.out HNB.out HNB.out
                            clear hna hnb hza hzb
                            go_wp2_with fail
                            refine (Ends_any (HX5.out.fls.grow HV0.out) HLE.out).mono ?_
                            rintro e u1 ⟨rfl, hb⟩
                            rw [← HZA.out, ← HZB.out, ← HOK.out]
                            have HV1 := Lib.hid (HV0.out.trans (hb.mono HV0.out.size))
                            clear hb
                            go_wp2_with fail
                            refine (Ends_any (HZ.out.fls.grow HV1.out) HLZ.out).mono ?_
                            rintro e u2 ⟨rfl, hb⟩
                            rw [HEP.out.1, HEP.out.2.1, HEP.out.2.2, ← HZA.out, ← HZB.out, ← HOK.out]
                            have HV2 := Lib.hid (HV1.out.trans (hb.mono HV1.out.size))
                            clear hb
                            go_wp2_with fail
                            refine (Middle_any (HX5.out.fls.grow HV2.out) HLE.out).mono ?_
                            rintro e u3 ⟨q3, rfl, hr, hb⟩
                            rw [if_neg (by rw [HNM.out 0 in_0]; decide)] at hr
                            have m3 := neq_fi hr HIA.out HM0.out HNA.out
                            clear hr
                            have HV3 := Lib.hid (HV2.out.trans (hb.mono HV2.out.size))
                            clear hb
                            go_wp2_with fail
                            refine (Middle_any (HY5.out.fls.grow HV3.out) HLY.out).mono ?_
                            rintro e u4 ⟨q4, rfl, hr, hb⟩
                            rw [midNo_perm HYP.out, if_neg (by rw [HNM.out one64 in_1]; decide)] at hr
                            have m4 := neq_fi hr HIB.out HM1.out HNB.out
                            clear hr
                            have HV4 := Lib.hid (HV3.out.trans (hb.mono HV3.out.size))
                            clear hb
                            go_wp2_with fail
                            refine (Middle_any (HX5.out.fls.grow HV4.out) HLE.out).mono ?_
                            rintro e u5 ⟨q5, rfl, hr, hb⟩
                            have HQ5 := Lib.hid hr
                            clear hr
                            have HV5 := Lib.hid (HV4.out.trans (hb.mono HV4.out.size))
                            clear hb
                            go_wp2_with fail
                            refine (Middle_any (HY5.out.fls.grow HV5.out) HLY.out).mono ?_
                            rintro e u6 ⟨q6, rfl, hr, hb⟩
                            rw [midNo_perm HYP.out, midL_perm row_lt HYP.out] at hr
                            have HQ6 := Lib.hid hr
                            clear hr
                            have HV6 := Lib.hid (HV5.out.trans (hb.mono HV5.out.size))
                            clear hb
                            go_wp2_with fail
                            refine (same_any HQ5.out HQ6.out _).mono ?_
                            rintro e w9 ⟨rfl, hw⟩
                            rw [hw, fsame_self]
                            clear hw w9
                            go_wp2_with fail
                            refine (Unequal_any (HX5.out.fls.grow HV6.out) HLE.out).mono ?_
                            rintro e u7 ⟨q7, rfl, hr, hb⟩
                            have HQ7 := Lib.hid hr
                            clear hr
                            have HV7 := Lib.hid (HV6.out.trans (hb.mono HV6.out.size))
                            clear hb
                            go_wp2_with fail
                            refine (Unequal_any (HZ.out.fls.grow HV7.out) HLZ.out).mono ?_
                            rintro e u8 ⟨q8, rfl, hr, hb⟩
                            rw [uneqNo_perm HZP.out, uneqL_perm row_lt HZP.out] at hr
                            have HQ8 := Lib.hid hr
                            clear hr
                            have HV8 := Lib.hid (HV7.out.trans (hb.mono HV7.out.size))
                            clear hb
                            go_wp2_with fail
                            refine (same_any HQ7.out HQ8.out _).mono ?_
                            rintro e w9 ⟨rfl, hw⟩
                            rw [hw, fsame_self]
                            clear hw w9
                            go_wp2_with fail
                            clear m1 m2 m3 m4 p0
                            have HX9 := Lib.hid (HX5.out.grow HV8.out)
                            have HB9 := Lib.hid (HBV.out.trans (HV8.out.mono HBV.out.size))
                            go_loopw [5] (fun o wr => ∃ (ms : List Int), Bd ms ∧ 0 < ms.length ∧ ms.length ≤ 504 ∧ OwnL wr w1.heap.size o (ms.map wB) ∧ Below w1.heap.size w1 wr) (fun o _ => match o with | .slice _ n _ => 504 - n | _ => 0)
                            case atStart => exact ⟨ns, HBD.out, by rw [HNL.out]; exact hpos, by rw [HNL.out]; omega, HX9.out, HB9.out⟩
                            case round =>
                              obtain ⟨ms, hbd, hm0, hm1, ho, hb⟩ := hrel
                              have HMB := Lib.hid hbd
                              have HMO := Lib.hid ho
                              have HBB := Lib.hid hb
                              obtain ⟨B6, c6, rfl⟩ := ownL_form ho
                              have hml : (ms.map wB).length = ms.length := List.length_map ..
                              rw [hml] at HMO ⊢
                              have t1 : (ms.length : Int).tmod 4 = ((ms.length % 4 : Nat) : Int) := by
                                rw [Int.tmod_eq_emod_of_nonneg (by omega)]
                                rfl
                              clear hbd ho hml
                              by_cases h4 : ms.length % 4 = 0
                              · have t2 : (((ms.length % 4 : Nat) : Int) != 0) = false := by rw [h4]; rfl
                                obtain ⟨q, hq⟩ : ∃ q, ms.length = q + 1 := ⟨ms.length - 1, by omega⟩
                                obtain ⟨g6, rfl, hc6, hc7, _, hg6⟩ := ownL_cap HMO.out hm0
                                have HM6 := Lib.hid (show OwnL wr w1.heap.size (.slice (some ⟨g6, 0, none⟩) (ms.map wB).length c6) (ms.map wB) by rw [List.length_map]; exact HMO.out)
                                have HTK6 := Lib.hid (own_takeF HM6.out (k := q) (by rw [List.length_map]; omega) (by rw [List.length_map]; exact hc6) hc7)
                                have hxq : (ms.map wB)[q]? = some (wB (ms.getD q 0)) := by
                                  rw [List.getElem?_map, List.getD_eq_getElem?_getD, List.getElem?_eq_getElem (show q < ms.length by omega)]
                                  rfl
                                have p0 := (HM6.out.1.cellAt q (by rw [List.length_map]; omega)).trans (flts_at' hxq)
                                have hgl6 := ownL_lt HM6.out
                                have HTU := Lib.hid (turn_sums (ns := ms) (m := ms.length / 4) (by omega) (by omega))
                                have HTB := Lib.hid (turn_bd HMB.out)
                                have htm : (turnI' ms).map wB = wB (ms.getD q 0) :: (ms.map wB).take q := by
                                  unfold turnI'
                                  rw [show ms.length - 1 = q by omega, List.map_cons, List.map_take]
                                have HTM := Lib.hid htm
                                obtain ⟨xl, hxl⟩ : ∃ z, z = wB (ms.getD q 0) := ⟨_, rfl⟩
                                have HXLB := Lib.hid (show xl < bits64 by rw [hxl]; exact wB_lt _)
                                rw [← hxl] at p0 HTM
                                have HQ := Lib.hid hq
                                have HMl := Lib.hid (show (turnI' ms).length = ms.length by unfold turnI'; rw [List.length_cons, List.length_take]; omega)
                                have t3 : IntKind.i64.wrap ((ms.length : Int) - 1) = (q : Int) := by rw [IntWalk.i64_in _ (by omega)]; omega
                                have t4 : (0 : Int) ≤ (q : Int) := by omega
                                have t5 : (q : Int) < (ms.length : Int) := by omega
                                have t6 : (q : Int) ≤ (c6 : Int) := by omega
                                have t7 : ¬ c6 = 0 := by omega
                                have t8 : (q : Int).toNat = q := by omega
                                have t9 : q ≤ 504 := by omega
                                have hsz := hb.size
                                clear hq hxq htm hxl hb t1
                                go_wp2_with fail
                                refine wp_region_F (Below wr.heap.size wr) [] (by kernel_rfl) ((Below.refl _ _).drew) (fun hS => ?_)
                                refine wpAnyF_take (i := 0) (oi := { dst := some 183, op := Go.Op.move (Go.Operand.tmp 5), type := 24, pos := "law.go:197", after := #[], guard := none }) (v := ?_) rfl (by kernel_rfl) (by kernel_rfl) (by kernel_rfl) (by kernel_rfl) (fun _ _ _ h => h) (Or.inl ⟨by rfl, ?_⟩) hS ?_
                                rotate_left
                                · intro w' hSw; have q0 := (hSw.cell (p := ⟨g6, q, none⟩) hgl6).trans p0; go_simp; try with_reducible rfl
                                try simp only [Act.put, List.setIfInBounds_toArray, List.set_cons_zero, List.set_cons_succ]
                                refine wpAnyF_take (i := 1) (oi := { dst := some 184, op := Go.Op.move (Go.Operand.tmp 20), type := 3, pos := "law.go:197", after := #[], guard := none }) (v := ?_) rfl (by kernel_rfl) (by kernel_rfl) (by kernel_rfl) (by kernel_rfl) (fun _ _ _ h => h) (Or.inl ⟨by rfl, ?_⟩) hS ?_
                                rotate_left
                                · intro w' hSw; have q0 := (hSw.cell (p := ⟨g6, q, none⟩) hgl6).trans p0; go_simp; try with_reducible rfl
                                try simp only [Act.put, List.setIfInBounds_toArray, List.set_cons_zero, List.set_cons_succ]
                                refine wpAnyF_take (i := 2) (oi := { dst := some 185, op := Go.Op.indexAddr 24 (Go.Operand.tmp 183) (Go.Operand.tmp 184), type := 0, pos := "law.go:197", after := #[{ on := 0, ground := Go.Ground.data }, { on := 1, ground := Go.Ground.data }], guard := none }) (v := ?_) rfl (by kernel_rfl) (by kernel_rfl) (by kernel_rfl) (by kernel_rfl) (fun _ _ _ h => h) (Or.inl ⟨by rfl, ?_⟩) hS ?_
                                rotate_left
                                · intro w' hSw; have q0 := (hSw.cell (p := ⟨g6, q, none⟩) hgl6).trans p0; go_simp; try with_reducible rfl
                                try simp only [Act.put, List.setIfInBounds_toArray, List.set_cons_zero, List.set_cons_succ]
                                refine wpAnyF_take (i := 3) (oi := { dst := some 186, op := Go.Op.load 25 (Go.Operand.tmp 185), type := 25, pos := "law.go:197", after := #[{ on := 2, ground := Go.Ground.data }], guard := none }) (v := ?_) rfl (by kernel_rfl) (by kernel_rfl) (by kernel_rfl) (by kernel_rfl) (fun _ _ _ h => h) (Or.inl ⟨by rfl, ?_⟩) hS ?_
                                rotate_left
                                · intro w' hSw; have q0 := (hSw.cell (p := ⟨g6, q, none⟩) hgl6).trans p0; go_simp; try with_reducible rfl
                                try simp only [Act.put, List.setIfInBounds_toArray, List.set_cons_zero, List.set_cons_succ]
                                refine wpAnyF_take (i := 5) (oi := { dst := some 188, op := Go.Op.move (Go.Operand.tmp 5), type := 24, pos := "law.go:197", after := #[], guard := none }) (v := ?_) rfl (by kernel_rfl) (by kernel_rfl) (by kernel_rfl) (by kernel_rfl) (fun _ _ _ h => h) (Or.inl ⟨by rfl, ?_⟩) hS ?_
                                rotate_left
                                · intro w' hSw; have q0 := (hSw.cell (p := ⟨g6, q, none⟩) hgl6).trans p0; go_simp; try with_reducible rfl
                                try simp only [Act.put, List.setIfInBounds_toArray, List.set_cons_zero, List.set_cons_succ]
                                refine wpAnyF_take (i := 6) (oi := { dst := some 189, op := Go.Op.move (Go.Operand.tmp 20), type := 3, pos := "law.go:197", after := #[], guard := none }) (v := ?_) rfl (by kernel_rfl) (by kernel_rfl) (by kernel_rfl) (by kernel_rfl) (fun _ _ _ h => h) (Or.inl ⟨by rfl, ?_⟩) hS ?_
                                rotate_left
                                · intro w' hSw; have q0 := (hSw.cell (p := ⟨g6, q, none⟩) hgl6).trans p0; go_simp; try with_reducible rfl
                                try simp only [Act.put, List.setIfInBounds_toArray, List.set_cons_zero, List.set_cons_succ]
                                refine wpAnyF_take (i := 7) (oi := { dst := some 190, op := Go.Op.slice 24 (Go.Operand.tmp 188) none (some (Go.Operand.tmp 189)) none, type := 24, pos := "law.go:197", after := #[{ on := 5, ground := Go.Ground.data }, { on := 6, ground := Go.Ground.data }], guard := none }) (v := ?_) rfl (by kernel_rfl) (by kernel_rfl) (by kernel_rfl) (by kernel_rfl) (fun _ _ _ h => h) (Or.inl ⟨by rfl, ?_⟩) hS ?_
                                rotate_left
                                · intro w' hSw; have q0 := (hSw.cell (p := ⟨g6, q, none⟩) hgl6).trans p0; go_simp; try with_reducible rfl
                                try simp only [Act.put, List.setIfInBounds_toArray, List.set_cons_zero, List.set_cons_succ]
                                refine wpAnyF_ready (rs := [4]) (by kernel_rfl) (by simp) ?_
                                refine AllReadyF.cons (o := { dst := some 187, op := Go.Op.buildSlice 24 1 #[(0, Go.Operand.tmp 186)], type := 24, pos := "law.go:197", after := #[{ on := 3, ground := Go.Ground.data }], guard := none }) rfl (by rfl) (fun K hK => ?_) ?_
                                · go_simp
                                  obtain ⟨V1, hV⟩ : ∃ V : World, V = (wr.alloc (.cells #[.float .f64 xl] 25)).drew := ⟨_, rfl⟩
                                  rw [← hV]
                                  have HK1 := Lib.hid (show Below wr.heap.size wr V1 by rw [hV]; exact ((Below.refl _ _).alloc (Nat.le_refl _) _).drew)
                                  have HL1 := Lib.hid (show V1.ownsRow wr.heap.size 25 1 (.slice (some ⟨wr.heap.size, 0, none⟩) 1 1) 1 [.float .f64 xl] by rw [hV]; exact World.ownsRow_lit wr #[.float .f64 xl] 1 (Nat.le_refl _) (by unfold maxLen; omega) rfl)
                                  clear hV
                                  refine hK.out _ _ ?_ (fun hS => ?_)
                                  · exact HK1.out
                                  clear hK K
                                  try simp only [Act.put, List.setIfInBounds_toArray, List.set_cons_zero, List.set_cons_succ]
                                  refine wpAnyF_ready (rs := [8]) (by kernel_rfl) (by simp) ?_
                                  refine AllReadyF.cons (o := { dst := some 191, op := Go.Op.call { callee := Go.Callee.builtin Go.Builtin.append, args := #[Go.Operand.tmp 187, Go.Operand.tmp 190], argTypes := #[24, 24] }, type := 24, pos := "law.go:197", after := #[{ on := 4, ground := Go.Ground.data }, { on := 7, ground := Go.Ground.data }], guard := none }) rfl (by rfl) (fun K hK => ?_) ?_
                                  · refine step_appS _ rfl (.tmp 187) (.tmp 190) et_f64 rfl wr.heap.size (.slice (some ⟨wr.heap.size, 0, none⟩) 1 1) 1 [.float .f64 xl] rfl HL1.out (· = g6) _ q (flts ((ms.map wB).take q)) rfl (HTK6.out.grow hS) (flts_oneC _) (by omega) (by unfold maxLen; omega) hS.size ?_
                                    intro A9 c9 W9 hown9 hg9 _
                                    have HK9 := Lib.hid (hS.grown hg9 hS.size (fun r e => (HL1.out.lt r e).1))
                                    have HO9 := Lib.hid hown9
                                    rw [show 1 + q = ms.length by have := HQ.out; omega] at HO9 ⊢
                                    clear hown9 hg9
                                    refine hK.out _ _ ?_ (fun hS => ?_)
                                    · exact HK9.out
                                    clear hK K
                                    try simp only [Act.put, List.setIfInBounds_toArray, List.set_cons_zero, List.set_cons_succ]
                                    refine wpAnyF_take (i := 9) (oi := { dst := some 21, op := Go.Op.assign (Go.Operand.tmp 191), type := 24, pos := "law.go:197", after := #[{ on := 8, ground := Go.Ground.data }, { on := 8, ground := Go.Ground.chain }, { on := 0, ground := Go.Ground.phase }, { on := 1, ground := Go.Ground.phase }, { on := 2, ground := Go.Ground.phase }, { on := 3, ground := Go.Ground.phase }, { on := 4, ground := Go.Ground.phase }, { on := 5, ground := Go.Ground.phase }, { on := 6, ground := Go.Ground.phase }, { on := 7, ground := Go.Ground.phase }, { on := 8, ground := Go.Ground.phase }], guard := none }) (v := ?_) rfl (by kernel_rfl) (by kernel_rfl) (by kernel_rfl) (by kernel_rfl) (fun _ _ _ h => h) (Or.inl ⟨by rfl, ?_⟩) hS ?_
                                    rotate_left
                                    · intro w' hSw; have q0 := (hSw.cell (p := ⟨g6, q, none⟩) hgl6).trans p0; go_simp; try with_reducible rfl
                                    try simp only [Act.put, List.setIfInBounds_toArray, List.set_cons_zero, List.set_cons_succ]
                                    refine wpAnyF_done (by kernel_rfl) ?_ _
                                    clear hS p0
                                    have HTR := Lib.hid (show OwnL W9 wr.heap.size (.slice A9 ms.length c9) ((turnI' ms).map wB) by
                                      refine ⟨?_, row_lt⟩
                                      rw [List.length_map, HMl.out, HTM.out]
                                      exact HO9.out)
                                    have HM9 := Lib.hid (HM6.out.grow HK9.out)
                                    have HBZ := Lib.hid (HBB.out.trans (HK9.out.mono HBB.out.size))
                                    have HL9 := Lib.hid (show (ms.map wB).length ≤ 1000 by rw [List.length_map]; omega)
                                    have HL8 := Lib.hid (show ((turnI' ms).map wB).length ≤ 1000 by rw [List.length_map, HMl.out]; omega)
                                    have HFR := Lib.hid (turnR_fi HMB.out (by omega))
                                    have HFI := Lib.hid (turnI_fi HMB.out (by omega))
                                    have HGR := Lib.hid (turnR_fi HTB.out (by rw [HMl.out]; omega))
                                    have HGI := Lib.hid (turnI_fi HTB.out (by rw [HMl.out]; omega))
                                    go_wp2_with fail
                                    refine (Turn_any (show Fls W9 (fun _ => True) (.slice (some ⟨g6, 0, none⟩) ms.length c6) (ms.map wB) by have h := HM9.out.fls; rw [List.length_map] at h; exact h) HL9.out).mono ?_
                                    rintro e w8 ⟨⟨a1, b1, rfl, hta, htb⟩, hb⟩
                                    have HTA := Lib.hid hta
                                    have HTBB := Lib.hid htb
                                    have HBY2 := Lib.hid (HBZ.out.trans (hb.mono HBZ.out.size))
                                    have HTR8 := Lib.hid (HTR.out.fls.grow hb)
                                    clear hta htb hb
                                    go_wp2_with fail
                                    refine (Turn_any HTR8.out HL8.out).mono ?_
                                    rintro e w7 ⟨⟨a2, b2, rfl, hta, htb⟩, hb⟩
                                    have HBX2 := Lib.hid (HBY2.out.trans (hb.mono HBY2.out.size))
                                    have hneg := neg_fi HTBB.out HFI.out
                                    have f1 := HGR.out
                                    rw [HTU.out.1, HTU.out.2.2.1] at f1
                                    have f2 := hneg.2
                                    rw [show -((everyI ms 1).sum - (everyI ms 3).sum) = (everyI ms 3).sum - (everyI ms 1).sum by omega] at f2
                                    have e1 := eq_fi hta hneg.1 f1 f2
                                    have f3 := HGI.out
                                    rw [HTU.out.2.1, HTU.out.2.2.2] at f3
                                    have e2 := eq_fi htb HTA.out f3 HFR.out
                                    clear hta htb hb hneg f1 f2 f3
                                    go_wp2_with fail
                                    go_ret
                                    exact ⟨rfl, HB1.out.trans (HBX2.out.mono HB1.out.size)⟩
                                  exact AllReadyF.nil
                                exact AllReadyF.nil
                              · have t2 : (((ms.length % 4 : Nat) : Int) != 0) = true := by
                                  simp
                                  omega
                                have hsz := hb.size
                                have HBD2 := Lib.hid (show Bd (ms ++ [0]) by
                                  intro n hn
                                  rcases List.mem_append.1 hn with hn | hn
                                  · exact HMB.out n hn
                                  · obtain rfl : n = 0 := by simpa using hn
                                    decide)
                                clear hb
                                go_wp2_with (at_builtin; go_must (have HSL := Lib.hid (show Sl (wr.alloc (.cells #[.float .f64 0] 25)) (fun _ => True) (.slice (some ⟨wr.heap.size, 0, none⟩) 1 1) 1 1 [.float .f64 0] from (Sl.new wr #[.float .f64 0] 25 1 1 (by unfold maxLen; omega) rfl).mono fun _ _ _ => trivial); refine wpList_app _ rfl (.tmp 177) (.tmp 178) et_f64 rfl w1.heap.size (.slice B6 ms.length c6) ms.length (flts (ms.map wB)) rfl (own_grow (by have h := HMO.out.1; rw [List.length_map] at h; exact h) ((Below.refl wr.heap.size wr).alloc (Nat.le_refl _) (.cells #[.float .f64 0] 25))) _ _ 1 _ rfl HSL.out (by simp [Value.oneCell']) (by omega) (by unfold maxLen; omega) (by simp; omega) ?_; intro A5 c5 w5 hown5 hg5 _; have HB5 := Lib.hid ((HBB.out.alloc (by omega) (.cells #[.float .f64 0] 25)).grown hg5 (by simp; omega) (fun r e => (HMO.out.1.lt r e).1)); have HO5 := Lib.hid hown5; clear hown5 hg5))
                                go_wp2_with fail
                                go_roundw
                                case rel => exact ⟨ms ++ [0], HBD2.out, by simp, by rw [List.length_append, List.length_singleton]; omega, ownW_app rfl (by rw [show floatOfInt .f64 0 = 0 from wB_0]; exact HO5.out), HB5.out⟩
                                case measure => simp; omega
                          exact AllReadyF.nil
                        exact AllReadyF.nil
                      exact AllReadyF.nil
                    exact AllReadyF.nil
                  exact AllReadyF.nil
            exact AllReadyF.nil
          exact AllReadyF.nil
end Go.Proofs.Ytidejikolcgojaa.St

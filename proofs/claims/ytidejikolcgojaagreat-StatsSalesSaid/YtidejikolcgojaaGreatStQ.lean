/- Stats: rows put in order; rows without NaN. -/
import Derived.Test.YtidejikolcgojaaGreatStP
import Derived.Test.YtidejikolcgojaaGreatStG
import Derived.Test.YtidejikolcgojaaGreatLaySt
import Derived.Laws.EntriesVeiled
namespace Go.Proofs.YtidejikolcgojaaGreat.St
open Go.RowKit Go.Shelf Go.Sort
open Go.Proofs.YtidejikolcgojaaGreat.Vb Go.Proofs.YtidejikolcgojaaGreat.Ac
attribute [local go_sem] run_fadd run_fsub run_fmul run_fdiv run_store_float

/-- a row of the call's own that reads so -/
def OwnL (W : World) (base : Nat) (v : Value) (l : List Nat) : Prop := W.ownsRow base 27 1 v l.length (flts l) ∧ ∀ x ∈ l, x < bits64
theorem OwnL.fls {W : World} {base : Nat} {v : Value} {l : List Nat} (h : OwnL W base v l) : Fls W (fun _ => True) v l := ⟨(Sl.of_own h.1).mono fun _ _ _ => trivial, h.2⟩
theorem OwnL.grow {W W' : World} {base : Nat} {v : Value} {l : List Nat} (h : OwnL W base v l) (hb : Below W.heap.size W W') : OwnL W' base v l := ⟨own_grow h.1 hb, h.2⟩
set_option maxHeartbeats 400000 in
theorem cloneF_any {l : List Nat} {v : Value} {R : Nat → Prop} {w : World} (h : Fls w R v l) (hle : l.length ≤ 1000) :
    Calls Tryz.prog 65 #[v] w fun e w' => ∃ A' cap', e = .returned (.slice A' l.length cap') ∧ OwnL w' w.heap.size (.slice A' l.length cap') l ∧ Below w.heap.size w w' := by
  obtain ⟨hlen, A, cap, rfl, hncap, hcap, hcells⟩ := id h.1
  have HS := Lib.hid h.1
  have HX := Lib.hid h.2
  have hln : l.length ≤ l.length := Nat.le_refl _
  obtain ⟨n, hn⟩ : ∃ n, n = l.length := ⟨_, rfl⟩
  have HN := Lib.hid hn
  rw [← hn] at HS hle hncap hlen hcells ⊢
  clear h hln
  have hq := fun (W : World) (a : Option Addr) => Lib.run_eql_slice_nil (P := Tryz.prog) W 24 27 a n cap 0 0 Tryz.underlying24
  have h1 := flts_one l
  obtain ⟨xs, hxs⟩ : ∃ xs, xs = flts l := ⟨_, rfl⟩
  have HXS := Lib.hid hxs
  rw [← hxs] at HS h1 hlen hcells
  cases A with
  | none =>
    have hn0 : n = 0 := by
      rcases Nat.eq_zero_or_pos n with h0 | h0
      · exact h0
      · obtain ⟨b, off, h, _⟩ := hcells h0
        cases h
    have hl : l = [] := List.eq_nil_of_length_eq_zero (by omega)
    have HL := Lib.hid hl
    clear hn hxs hlen hcells hl
    subst hn0
    go_enter Tryz.func65, Tryz.ntmps65
    go_wp2
    go_ret
    refine ⟨none, 0, rfl, ⟨?_, HX.out⟩, Below.refl _ _⟩
    rw [HL.out]
    exact World.ownsRow_nil _ _ _ _
  | some ad =>
    clear hlen hn hxs hcells
    go_enter Tryz.func65, Tryz.ntmps65
    go_wp2_with (at_builtin; refine wpList_app _ rfl (.tmp 5) (.tmp 6) et_f64 rfl w.heap.size (.slice (some ⟨w.heap.size, 0, none⟩) 0 0) 0 [] rfl (World.ownsRow_lit w #[] 0 (Nat.le_refl _) (Nat.zero_le _) rfl) R _ n xs rfl (HS.out.alloc _) h1 (by omega) (by unfold maxLen; omega) (by simp) ?_; intro A' cap' w1 hown hg hloc)
    go_ret
    refine ⟨A', cap', by simp, ⟨?_, HX.out⟩, ((Below.refl _ _).alloc (Nat.le_refl _) _).grown hg (by simp) (by simp [Value.ownBlock])⟩
    rw [← HN.out, ← HXS.out]
    simpa using hown

theorem key_any {x : Nat} (hx : x < bits64) (w : World) : Calls Tryz.prog 85 #[.float .f64 x] w fun e w' => e = .returned (.int .i64 (keyB x)) ∧ w' = w := by
  have r1 := run_bits
  have hx' : x < 18446744073709551616 := hx
  by_cases h : x < 9223372036854775808
  · have HK := Lib.hid (show keyB x = x from if_pos h)
    have e1 : wrap64 (x : Int) = x := by unfold wrap64; omega
    have d1 : ¬ (x : Int) < 0 := by omega
    obtain ⟨z, hz⟩ : ∃ z, z = keyB x := ⟨_, rfl⟩
    rw [← hz] at HK ⊢
    clear hz
    go_enter Tryz.func85, Tryz.ntmps85
    go_wp2_with fail
    go_ret
    exact ⟨by rw [HK.out]; rfl, rfl⟩
  · have HK := Lib.hid (show keyB x = 9223372036854775807 - x from if_neg h)
    have e1 : wrap64 (x : Int) = (x : Int) - 18446744073709551616 := by unfold wrap64; omega
    have e2 := xor_key (show 9223372036854775808 ≤ x by omega) hx'
    obtain ⟨y, hy⟩ : ∃ y, y = (x : Int) - 18446744073709551616 := ⟨_, rfl⟩
    rw [← hy] at e1 e2
    have d1 : y < 0 := by omega
    obtain ⟨z, hz⟩ : ∃ z, z = keyB x := ⟨_, rfl⟩
    rw [← hz] at HK ⊢
    have HY := Lib.hid hy
    clear hz hy
    go_enter Tryz.func85, Tryz.ntmps85
    go_wp2_with fail
    go_ret
    exact ⟨by rw [HK.out]; rfl, rfl⟩

/-- a variable that holds the key's function -/
def KeyAt (W : World) (g : Nat) : Prop := Blk W g 96 #[.func (.func 85) #[] #[]]
set_option maxRecDepth 100000 in
set_option maxHeartbeats 2000000 in
theorem cmp_any {x y : UInt64} {g : Nat} {W : World} (h : KeyAt W g) :
    Calls Tryz.prog 87 #[.float .f64 x.toNat, .float .f64 y.toNat, .pointer (some ⟨g, 0, none⟩)] W fun e w' => e = .returned (.int .i64 (cfU x y)) ∧ ∃ q, w' = W.drewN q := by
  have HK := Lib.hid h
  have k0 : W.cell? ⟨g, 0, none⟩ = some (.func (.func 85) #[] #[]) := Blk.cell h 0
  have HX := Lib.hid (toNat_lt64 x)
  have HY := Lib.hid (toNat_lt64 y)
  have HC := Lib.hid (show cfU x y = if keyB x.toNat < keyB y.toNat then -1 else if keyB y.toNat < keyB x.toNat then 1 else 0 from rfl)
  obtain ⟨z, hz⟩ : ∃ z, z = cfU x y := ⟨_, rfl⟩
  rw [← hz] at HC ⊢
  obtain ⟨kx, hkx⟩ : ∃ z, z = keyB x.toNat := ⟨_, rfl⟩
  obtain ⟨ky, hky⟩ : ∃ z, z = keyB y.toNat := ⟨_, rfl⟩
  rw [← hkx, ← hky] at HC
  have HKX := Lib.hid hkx
  have HKY := Lib.hid hky
  obtain ⟨a, ha⟩ : ∃ a, a = x.toNat := ⟨_, rfl⟩
  obtain ⟨b, hb⟩ : ∃ b, b = y.toNat := ⟨_, rfl⟩
  rw [← ha] at HX HKX ⊢
  rw [← hb] at HY HKY ⊢
  clear h hz hkx hky ha hb
  go_enter Tryz.func87, Tryz.ntmps87
  go_wp2_with fail
  refine wp_region_F (fun V => ∃ q, V = W.drewN q) [] (by kernel_rfl) ⟨1, rfl⟩ (fun hS => ?_)
  refine wpAnyF_take (i := 0) (oi := { dst := some 8, op := Go.Op.load 96 (Go.Operand.tmp 2), type := 96, pos := "stats.go:61", after := #[], guard := none }) (v := ?_) rfl (by kernel_rfl) (by kernel_rfl) (by kernel_rfl) (by kernel_rfl) (fun _ _ _ h => h) (Or.inl ⟨by rfl, ?_⟩) hS ?_
  rotate_left
  · intro w' hSw; obtain ⟨q_, rfl⟩ := hSw; have z0 : (W.drewN q_).cell? ⟨g, 0, none⟩ = some (.func (.func 85) #[] #[]) := k0; go_simp; try with_reducible rfl
  try simp only [Act.put, List.setIfInBounds_toArray, List.set_cons_zero, List.set_cons_succ]
  refine wpAnyF_take (i := 1) (oi := { dst := some 9, op := Go.Op.move (Go.Operand.tmp 0), type := 27, pos := "stats.go:61", after := #[], guard := none }) (v := ?_) rfl (by kernel_rfl) (by kernel_rfl) (by kernel_rfl) (by kernel_rfl) (fun _ _ _ h => h) (Or.inl ⟨by rfl, ?_⟩) hS ?_
  rotate_left
  · intro w' hSw; obtain ⟨q_, rfl⟩ := hSw; have z0 : (W.drewN q_).cell? ⟨g, 0, none⟩ = some (.func (.func 85) #[] #[]) := k0; go_simp; try with_reducible rfl
  try simp only [Act.put, List.setIfInBounds_toArray, List.set_cons_zero, List.set_cons_succ]
  refine wpAnyF_take (i := 3) (oi := { dst := some 11, op := Go.Op.load 96 (Go.Operand.tmp 2), type := 96, pos := "stats.go:61", after := #[], guard := none }) (v := ?_) rfl (by kernel_rfl) (by kernel_rfl) (by kernel_rfl) (by kernel_rfl) (fun _ _ _ h => h) (Or.inl ⟨by rfl, ?_⟩) hS ?_
  rotate_left
  · intro w' hSw; obtain ⟨q_, rfl⟩ := hSw; have z0 : (W.drewN q_).cell? ⟨g, 0, none⟩ = some (.func (.func 85) #[] #[]) := k0; go_simp; try with_reducible rfl
  try simp only [Act.put, List.setIfInBounds_toArray, List.set_cons_zero, List.set_cons_succ]
  refine wpAnyF_take (i := 4) (oi := { dst := some 12, op := Go.Op.move (Go.Operand.tmp 1), type := 27, pos := "stats.go:61", after := #[], guard := none }) (v := ?_) rfl (by kernel_rfl) (by kernel_rfl) (by kernel_rfl) (by kernel_rfl) (fun _ _ _ h => h) (Or.inl ⟨by rfl, ?_⟩) hS ?_
  rotate_left
  · intro w' hSw; obtain ⟨q_, rfl⟩ := hSw; have z0 : (W.drewN q_).cell? ⟨g, 0, none⟩ = some (.func (.func 85) #[] #[]) := k0; go_simp; try with_reducible rfl
  try simp only [Act.put, List.setIfInBounds_toArray, List.set_cons_zero, List.set_cons_succ]
  refine wpAnyF_ready (rs := [2]) (by kernel_rfl) (by simp) ?_
  refine AllReadyF.cons (o := { dst := some 10, op := Go.Op.call { callee := Go.Callee.value (Go.Operand.tmp 8), args := #[Go.Operand.tmp 9], argTypes := #[27] }, type := 2, pos := "stats.go:61", after := #[{ on := 0, ground := Go.Ground.data }, { on := 1, ground := Go.Ground.data }], guard := none }) rfl (by rfl) (fun K hK => ?_) ?_
  · go_simp
    refine (key_any HX.out _).mono ?_
    rintro e w9 ⟨rfl, hw9⟩
    rw [hw9, ← HKX.out]
    clear hw9
    refine hK.out _ _ ?_ (fun hS => ?_)
    · exact ⟨1, rfl⟩
    clear hK K
    try simp only [Act.put, List.setIfInBounds_toArray, List.set_cons_zero, List.set_cons_succ]
    refine wpAnyF_ready (rs := [5]) (by kernel_rfl) (by simp) ?_
    refine AllReadyF.cons (o := { dst := some 13, op := Go.Op.call { callee := Go.Callee.value (Go.Operand.tmp 11), args := #[Go.Operand.tmp 12], argTypes := #[27] }, type := 2, pos := "stats.go:61", after := #[{ on := 3, ground := Go.Ground.data }, { on := 4, ground := Go.Ground.data }, { on := 2, ground := Go.Ground.chain }], guard := none }) rfl (by rfl) (fun K hK => ?_) ?_
    · go_simp
      refine (key_any HY.out _).mono ?_
      rintro e w9 ⟨rfl, hw9⟩
      rw [hw9, ← HKY.out]
      clear hw9
      refine hK.out _ _ ?_ (fun hS => ?_)
      · exact ⟨1, rfl⟩
      clear hK K
      try simp only [Act.put, List.setIfInBounds_toArray, List.set_cons_zero, List.set_cons_succ]
      refine wpAnyF_take (i := 6) (oi := { dst := some 6, op := Go.Op.assign (Go.Operand.tmp 10), type := 2, pos := "stats.go:61", after := #[{ on := 2, ground := Go.Ground.data }, { on := 5, ground := Go.Ground.chain }, { on := 0, ground := Go.Ground.phase }, { on := 1, ground := Go.Ground.phase }, { on := 2, ground := Go.Ground.phase }, { on := 3, ground := Go.Ground.textOnly Go.Departure.lateStores }, { on := 4, ground := Go.Ground.textOnly Go.Departure.lateStores }, { on := 5, ground := Go.Ground.textOnly Go.Departure.lateStoresUnsure }], guard := none }) (v := ?_) rfl (by kernel_rfl) (by kernel_rfl) (by kernel_rfl) (by kernel_rfl) (fun _ _ _ h => h) (Or.inl ⟨by rfl, ?_⟩) hS ?_
      rotate_left
      · intro w' hSw; obtain ⟨q_, rfl⟩ := hSw; have z0 : (W.drewN q_).cell? ⟨g, 0, none⟩ = some (.func (.func 85) #[] #[]) := k0; go_simp; try with_reducible rfl
      try simp only [Act.put, List.setIfInBounds_toArray, List.set_cons_zero, List.set_cons_succ]
      refine wpAnyF_take (i := 7) (oi := { dst := some 7, op := Go.Op.assign (Go.Operand.tmp 13), type := 2, pos := "stats.go:61", after := #[{ on := 5, ground := Go.Ground.data }, { on := 6, ground := Go.Ground.chain }, { on := 0, ground := Go.Ground.phase }, { on := 1, ground := Go.Ground.phase }, { on := 2, ground := Go.Ground.phase }, { on := 3, ground := Go.Ground.phase }, { on := 4, ground := Go.Ground.phase }, { on := 5, ground := Go.Ground.phase }, { on := 6, ground := Go.Ground.phase }], guard := none }) (v := ?_) rfl (by kernel_rfl) (by kernel_rfl) (by kernel_rfl) (by kernel_rfl) (fun _ _ _ h => h) (Or.inl ⟨by rfl, ?_⟩) hS ?_
      rotate_left
      · intro w' hSw; obtain ⟨q_, rfl⟩ := hSw; have z0 : (W.drewN q_).cell? ⟨g, 0, none⟩ = some (.func (.func 85) #[] #[]) := k0; go_simp; try with_reducible rfl
      try simp only [Act.put, List.setIfInBounds_toArray, List.set_cons_zero, List.set_cons_succ]
      refine wpAnyF_done (by kernel_rfl) ?_ _
      by_cases h1 : kx < ky
      · have HZ := Lib.hid (show z = -1 by rw [HC.out, if_pos h1])
        go_wp2_with fail
        go_ret
        exact ⟨by rw [HZ.out]; rfl, 1, rfl⟩
      · by_cases h2 : ky < kx
        · have HZ := Lib.hid (show z = 1 by rw [HC.out, if_neg h1, if_pos h2])
          go_wp2_with fail
          go_ret
          exact ⟨by rw [HZ.out]; rfl, 1, rfl⟩
        · have HZ := Lib.hid (show z = 0 by rw [HC.out, if_neg h1, if_neg h2])
          go_wp2_with fail
          go_ret
          exact ⟨by rw [HZ.out]; rfl, 1, rfl⟩
    exact AllReadyF.nil
  exact AllReadyF.nil
def encU (x : UInt64) : Value := .float .f64 x.toNat
theorem encU_one : OneCell encU := fun _ => rfl
theorem ltU (x y : UInt64) : ltOf cfU x y = decide (keyU x < keyU y) := by
  unfold ltOf cfU
  by_cases h1 : keyU x < keyU y
  · simp [h1]
  · by_cases h2 : keyU y < keyU x <;> simp [h1, h2]
theorem swoU : SWO (ltOf cfU) where
  irrefl x := by rw [ltU]; simp
  trans x y z h1 h2 := by rw [ltU] at *; simp at *; omega
  ntrans x y z h1 h2 := by rw [ltU] at *; simp at *; omega
theorem sortWorld_other {w : World} {blk off n : Nat} {dk : Array UInt64} {os : Array Obj} (hblk : blk < w.heap.size) : Chg (· = blk) w (sortWorld encU w blk off n dk os) := by
  refine ⟨rfl, rfl, rfl, ?_, fun k hk hne => ?_⟩
  · unfold sortWorld
    rw [size_grow, size_putRow]
    show w.heap.size ≤ w.heap.size + _
    omega
  · unfold sortWorld
    rw [heap_grow_old _ _ (by rw [size_putRow]; exact hk)]
    show (w.heap.modify blk _)[k]? = _
    rw [Array.getElem?_modify, if_neg (fun e => hne e.symm)]
theorem keyAt_sort {w : World} {g blk off n : Nat} {dk : Array UInt64} {os : Array Obj} (h : KeyAt w g) (hblk : blk < w.heap.size) (hne : g ≠ blk) : KeyAt (sortWorld encU w blk off n dk os) g :=
  Blk.chg h (sortWorld_other hblk) hne
theorem own_frozenF {w : World} {base : Nat} {e : TypeId} {sz n c gg : Nat} {xs : List Value} (h : w.ownsRow base e sz (.slice (some ⟨gg, 0, none⟩) n c) n xs) (j : Nat) : w.frozen? ⟨gg, j, none⟩ = false := by
  rcases h.2 with ⟨hn, _⟩ | ⟨g2, cap, cur, hv, _, hcur, _⟩
  · cases hn
  · injection hv with hv
    injection hv with hv
    injection hv with hv
    subst hv
    simp [World.frozen?, hcur]
theorem sortF_none {n c : Nat} {p : Option Addr} {fv : Value} {w : World} (hn : n = 0) : Calls Tryz.prog 86 #[.slice p n c, fv] w fun e w' => e = .returned (.tuple #[]) ∧ w' = w := by
  subst hn
  exact AnyF.slices_SortFunc_none (P := Tryz.prog) (ρ := st_sortF_ren) { st_sortF with } p c fv w
theorem sortF_any {w : World} {base g gk cap : Nat} {l : List Nat} (hown : OwnL w base (.slice (some ⟨g, 0, none⟩) l.length cap) l) (hle : l.length ≤ 1000) (hne : l ≠ []) (hk : KeyAt w gk) (hgk : gk ≠ g) :
    Calls Tryz.prog 86 #[.slice (some ⟨g, 0, none⟩) l.length cap, .func (.func 87) #[] #[.pointer (some ⟨gk, 0, none⟩)]] w fun e w' =>
      e = .returned (.tuple #[]) ∧ Fls w' (· = g) (.slice (some ⟨g, 0, none⟩) l.length cap) (sortB l) ∧ Chg (· = g) w w' := by
  obtain ⟨ho, hlt⟩ := hown
  have hlen : 0 < l.length := List.length_pos_iff.2 hne
  obtain ⟨⟨_, A', c', hv, h1, h2, h3⟩, _⟩ := OwnL.fls ⟨ho, hlt⟩
  injection hv with hA _ hc
  subst hA hc
  obtain ⟨b, off, hb, _, hbl, _⟩ := h3 hlen
  injection hb with hb
  injection hb with hb _
  subst hb
  have hd : ((l.map UInt64.ofNat).toArray).size = l.length := by simp
  have hget : ∀ j, j < l.length → (encU ((l.map UInt64.ofNat).toArray)[j]!) = .float .f64 (l.getD j 0) := fun j hj => by
    rw [getElem!_pos _ j (by simpa using hj)]
    unfold encU
    simp [List.getD, List.getElem?_eq_getElem hj, Nat.mod_eq_of_lt (show l[j] < 18446744073709551616 from hlt _ (List.getElem_mem hj))]
  have hH : Holds encU w g 0 (l.map UInt64.ofNat).toArray := fun j hj => by
    have hj' : j < l.length := by simpa using hj
    refine ⟨?_, by rw [show 0 + j = j by omega]; exact own_frozenF ho j⟩
    rw [hget j hj', show 0 + j = j by omega, ho.cellAt j (by omega)]
    unfold flts
    rw [List.getElem?_map, List.getElem?_eq_getElem hj']
    simp [List.getD, List.getElem?_eq_getElem hj']
  have eg : ∀ args w, (callFunc 87 args).run Tryz.prog w = .ok (.enter 87 args) w := enters_of Tryz.func87 (by kernel_rfl) rfl
  have hcmp : CmpReads Tryz.prog 87 #[.pointer (some ⟨gk, 0, none⟩)] encU cfU g 0 ((l.map UInt64.ofNat).toArray).size w := fun m os dk _ x y => cmp_any (keyAt_sort hk hbl hgk)
  have hcon := Any.slices_SortFunc_total (P := Tryz.prog) (ρ := st_sortF_ren) st_sortF encU encU_one cfU swoU 87 #[.pointer (some ⟨gk, 0, none⟩)] g 0 cap (l.map UInt64.ofNat).toArray w eg hcmp.lays hH hbl (by rw [hd]; omega)
    (fun x y h1 h2 => by rw [ltU] at h1 h2; simp at h1 h2; exact keyU_inj (by omega))
  rw [hd] at hcon
  refine Calls.mono hcon ?_
  rintro e w' ⟨rfl, n, os, rfl⟩
  refine ⟨rfl, ?_, sortWorld_other hbl⟩
  obtain ⟨dk, hdk⟩ : ∃ dk, dk = ((l.map UInt64.ofNat).toArray.toList.mergeSort fun x y => !ltOf cfU y x) := ⟨_, rfl⟩
  have hdk2 : dk.map UInt64.toNat = sortB l := by
    rw [hdk]
    have e : (fun x y : UInt64 => !ltOf cfU y x) = fun x y => !decide (keyU y < keyU x) := by funext x y; rw [ltU]
    rw [e]
    have := sortU (l.map UInt64.ofNat)
    rw [ofNat_list hlt] at this
    exact this
  rw [← hdk]
  have hsz : dk.toArray.size = ((l.map UInt64.ofNat).toArray).size := by rw [hdk]; simp
  have hh := holds_sortWorld encU w g 0 n (l.map UInt64.ofNat).toArray dk.toArray os hbl hH hsz
  have hdl : dk.length = l.length := by simpa using hsz
  refine ⟨⟨by rw [flts_length, sortB_length]; simp, some ⟨g, 0, none⟩, cap, by rw [sortB_length], by rw [sortB_length]; exact h1, h2, fun _ => ⟨g, 0, rfl, rfl, lt_sortWorld _ _ _ _ _ _ _ hbl, fun j u hj => ?_⟩⟩, sortB_lt hlt⟩
  have hj2 : j < dk.length := by
    have := (List.getElem?_eq_some_iff.1 hj).1
    rw [flts_length, sortB_length] at this
    omega
  rw [(hh j (by simpa using hj2)).1, getElem!_pos _ j (by simpa using hj2)]
  rw [← hdk2] at hj
  unfold flts at hj
  rw [List.getElem?_map, List.getElem?_map, List.getElem?_eq_getElem hj2] at hj
  simpa [encU] using hj
set_option maxRecDepth 100000 in
set_option maxHeartbeats 2000000 in
theorem ordered_any {l : List Nat} {v : Value} {R : Nat → Prop} {w : World} (h : Fls w R v l) (hle : l.length ≤ 1000) :
    Calls Tryz.prog 61 #[v] w fun e w' => ∃ A' cap', e = .returned (.slice A' l.length cap') ∧ Fls w' (fun _ => True) (.slice A' l.length cap') (sortB l) ∧ Below w.heap.size w w' := by
  obtain ⟨A, cap, rfl, hnc, hcap⟩ := h.form
  have HL := Lib.hid h
  clear h
  obtain ⟨U, hU⟩ : ∃ U, U = w.alloc (.cells #[.func (.func 85) #[] #[]] 96) := ⟨_, rfl⟩
  have HB := Lib.hid (show Below w.heap.size w U by rw [hU]; exact (Below.refl _ _).alloc (Nat.le_refl _) _)
  have HK := Lib.hid (show KeyAt U w.heap.size by rw [hU]; exact Blk.new _ _ _)
  have hkl := HK.out.lt
  go_enter Tryz.func61, Tryz.ntmps61
  go_wp2_with fail
  rw [← hU]
  clear hU
  refine (cloneF_any (HL.out.grow HB.out) hle).mono ?_
  rintro e w2 ⟨A2, cap2, rfl, ho, hb⟩
  have HO := Lib.hid ho
  have HK2 := Lib.hid (show KeyAt w2 w.heap.size from Blk.grow HK.out hb)
  have HB2 := Lib.hid (HB.out.trans (hb.mono HB.out.size))
  have hs2 := hb.size
  by_cases he : l = []
  · have HE := Lib.hid he
    have hl0 : l.length = 0 := by rw [he]; rfl
    have HF := Lib.hid (show Fls w2 (fun _ => True) (.slice A2 l.length cap2) (sortB l) by rw [HE.out]; have := HO.out.fls; rw [HE.out] at this; rw [show sortB [] = [] by simp [sortB]]; exact this)
    have HL0 := Lib.hid hl0
    clear ho hb he hl0
    go_wp2_with fail
    refine (sortF_none HL0.out).mono ?_
    rintro e w3 ⟨rfl, hw3⟩
    rw [hw3]
    clear hw3
    go_wp2_with fail
    go_ret
    exact ⟨_, _, rfl, HF.out, HB2.out⟩
  · have HE := Lib.hid he
    obtain ⟨gm, cm, hform, hgm, hgm2⟩ := World.ownsRow.form ho.1 (List.length_pos_iff.2 he)
    injection hform with hA hX hc
    clear hX
    subst hA hc
    clear ho hb he
    go_wp2_with fail
    refine (sortF_any HO.out hle HE.out HK2.out (by omega)).mono ?_
    rintro e w3 ⟨rfl, hf, hc⟩
    have HF := Lib.hid (show Fls w3 (fun _ => True) _ (sortB l) from ⟨hf.1.mono fun _ _ _ => trivial, hf.2⟩)
    have HB3 := Lib.hid (HB2.out.trans (hc.below (B := w.heap.size) HB2.out.size (fun k hk e => by omega)))
    clear hf hc
    go_wp2_with fail
    go_ret
    exact ⟨_, _, rfl, HF.out, HB3.out⟩
end Go.Proofs.YtidejikolcgojaaGreat.St
